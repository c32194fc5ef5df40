/- What the program and the document read of bytes is one, and what was written comes back: in plain Lean. No condition but that a text is no longer than an int can say. -/
import Derived.Test.YtkhepehgafijfaaSpanReadFn
import Derived.Test.YtkhepehgafijfaaSpanRefRead
import Derived.Test.YtkhepehgafijfaaVarintBackSpec
namespace Go.Proofs.Ytkhepehgafijfaa
open Go.RowKit

theorem rdFixed_bad {l : List UInt8} {a : Int} {b : Nat} (h : b ≠ 0) : rdFixed l a b = (0, a, b) := by simp [rdFixed, h]
theorem rdNum_bad {l : List UInt8} {a : Int} {b : Nat} (h : b ≠ 0) : rdNum l a b = (0, a, b) := by simp [rdNum, h]
theorem rdText_bad {l : List UInt8} {a : Int} {b : Nat} (h : b ≠ 0) : rdText l a b = ([], a, b) := by simp [rdText, h]
theorem rdFlag_bad {l : List UInt8} {a : Int} {b : Nat} (h : b ≠ 0) : rdFlag l a b = (false, a, b) := by simp [rdFlag, h]

/-- A number read without fault, and one that is not. -/
theorem rdNum_good {l : List UInt8} {a : Int} (h : (num1 l a).2.2 = 0) : rdNum l a 0 = num1 l a := by
  unfold num1 at *
  unfold rdNum
  rw [if_pos rfl]
  split at h
  · rename_i h0; exact absurd h h0
  · rename_i h0
    split at h
    · simp at h
    · rename_i h1
      rw [if_neg h0, if_neg h1, if_neg (by omega), Nat.min_eq_left (by omega)]
      have : (Vr.get l a).2.2 = 0 := by omega
      rw [this]
theorem rdNum_fault {l : List UInt8} {a : Int} (h : (num1 l a).2.2 ≠ 0) : (rdNum l a 0).2.2 = (num1 l a).2.2 := by
  unfold num1 at *
  unfold rdNum
  rw [if_pos rfl]
  split at h
  · rename_i h0
    rw [if_pos h0]
    simp only
    rw [if_neg (by omega)]
  · rename_i h0
    have h0' : (Vr.get l a).2.2 = 0 := by omega
    split at h
    · rename_i h1; rw [if_neg h0, if_pos h1]; simp only; rw [if_pos ⟨h0', h1⟩]
    · simp at h

theorem run_bad1 {l : List UInt8} {k : Int} {v1 : Nat} {a1 : Int} {b : Nat} (hb : b ≠ 0) (h1 : rdFixed l k 0 = (v1, a1, b)) : (readRun l k).2.2 = b := by
  simp only [readRun, h1, rdFixed_bad hb, rdFlag_bad hb, rdNum_bad hb, rdText_bad hb]
  simp [hb]
theorem run_bad2 {l : List UInt8} {k : Int} {v1 : Nat} {a1 : Int} {v2 : Nat} {a2 : Int} {b : Nat} (hb : b ≠ 0) (h1 : rdFixed l k 0 = (v1, a1, 0)) (h2 : rdFixed l a1 0 = (v2, a2, b)) : (readRun l k).2.2 = b := by
  simp only [readRun, h1, h2, rdFixed_bad hb, rdFlag_bad hb, rdNum_bad hb, rdText_bad hb]
  simp [hb]
theorem run_bad3 {l : List UInt8} {k : Int} {v1 : Nat} {a1 : Int} {v2 : Nat} {a2 : Int} {v3 : Nat} {a3 : Int} {b : Nat} (hb : b ≠ 0) (h1 : rdFixed l k 0 = (v1, a1, 0)) (h2 : rdFixed l a1 0 = (v2, a2, 0)) (h3 : rdFixed l a2 0 = (v3, a3, b)) : (readRun l k).2.2 = b := by
  simp only [readRun, h1, h2, h3, rdFixed_bad hb, rdFlag_bad hb, rdNum_bad hb, rdText_bad hb]
  simp [hb]
theorem run_bad4 {l : List UInt8} {k : Int} {v1 : Nat} {a1 : Int} {v2 : Nat} {a2 : Int} {v3 : Nat} {a3 : Int} {v4 : Nat} {a4 : Int} {b : Nat} (hb : b ≠ 0) (h1 : rdFixed l k 0 = (v1, a1, 0)) (h2 : rdFixed l a1 0 = (v2, a2, 0)) (h3 : rdFixed l a2 0 = (v3, a3, 0)) (h4 : rdFixed l a3 0 = (v4, a4, b)) : (readRun l k).2.2 = b := by
  simp only [readRun, h1, h2, h3, h4, rdFlag_bad hb, rdNum_bad hb, rdText_bad hb]
  simp [hb]
theorem run_bad5 {l : List UInt8} {k : Int} {v1 : Nat} {a1 : Int} {v2 : Nat} {a2 : Int} {v3 : Nat} {a3 : Int} {v4 : Nat} {a4 : Int} {v5 : List UInt8} {a5 : Int} {b : Nat} (hb : b ≠ 0) (h1 : rdFixed l k 0 = (v1, a1, 0)) (h2 : rdFixed l a1 0 = (v2, a2, 0)) (h3 : rdFixed l a2 0 = (v3, a3, 0)) (h4 : rdFixed l a3 0 = (v4, a4, 0)) (h5 : rdText l a4 0 = (v5, a5, b)) : (readRun l k).2.2 = b := by
  simp only [readRun, h1, h2, h3, h4, h5, rdFlag_bad hb, rdNum_bad hb]
  simp [hb]
theorem run_bad6 {l : List UInt8} {k : Int} {v1 : Nat} {a1 : Int} {v2 : Nat} {a2 : Int} {v3 : Nat} {a3 : Int} {v4 : Nat} {a4 : Int} {v5 : List UInt8} {a5 : Int} {v6 : Nat} {a6 : Int} {b : Nat} (hb : b ≠ 0) (h1 : rdFixed l k 0 = (v1, a1, 0)) (h2 : rdFixed l a1 0 = (v2, a2, 0)) (h3 : rdFixed l a2 0 = (v3, a3, 0)) (h4 : rdFixed l a3 0 = (v4, a4, 0)) (h5 : rdText l a4 0 = (v5, a5, 0)) (h6 : rdNum l a5 0 = (v6, a6, b)) : (readRun l k).2.2 = b := by
  simp only [readRun, h1, h2, h3, h4, h5, h6, rdFlag_bad hb, rdNum_bad hb]
  simp [hb]
theorem run_bad7 {l : List UInt8} {k : Int} {v1 : Nat} {a1 : Int} {v2 : Nat} {a2 : Int} {v3 : Nat} {a3 : Int} {v4 : Nat} {a4 : Int} {v5 : List UInt8} {a5 : Int} {v6 : Nat} {a6 : Int} {v7 : Nat} {a7 : Int} {b : Nat} (hb : b ≠ 0) (h1 : rdFixed l k 0 = (v1, a1, 0)) (h2 : rdFixed l a1 0 = (v2, a2, 0)) (h3 : rdFixed l a2 0 = (v3, a3, 0)) (h4 : rdFixed l a3 0 = (v4, a4, 0)) (h5 : rdText l a4 0 = (v5, a5, 0)) (h6 : rdNum l a5 0 = (v6, a6, 0)) (h7 : rdNum l a6 0 = (v7, a7, b)) : (readRun l k).2.2 = b := by
  simp only [readRun, h1, h2, h3, h4, h5, h6, h7, rdFlag_bad hb, rdNum_bad hb]
  simp [hb]
theorem run_bad8 {l : List UInt8} {k : Int} {v1 : Nat} {a1 : Int} {v2 : Nat} {a2 : Int} {v3 : Nat} {a3 : Int} {v4 : Nat} {a4 : Int} {v5 : List UInt8} {a5 : Int} {v6 : Nat} {a6 : Int} {v7 : Nat} {a7 : Int} {v8 : Nat} {a8 : Int} {b : Nat} (hb : b ≠ 0) (h1 : rdFixed l k 0 = (v1, a1, 0)) (h2 : rdFixed l a1 0 = (v2, a2, 0)) (h3 : rdFixed l a2 0 = (v3, a3, 0)) (h4 : rdFixed l a3 0 = (v4, a4, 0)) (h5 : rdText l a4 0 = (v5, a5, 0)) (h6 : rdNum l a5 0 = (v6, a6, 0)) (h7 : rdNum l a6 0 = (v7, a7, 0)) (h8 : rdNum l a7 0 = (v8, a8, b)) : (readRun l k).2.2 = b := by
  simp only [readRun, h1, h2, h3, h4, h5, h6, h7, h8, rdFlag_bad hb, rdNum_bad hb]
  simp [hb]
theorem run_bad9 {l : List UInt8} {k : Int} {v1 : Nat} {a1 : Int} {v2 : Nat} {a2 : Int} {v3 : Nat} {a3 : Int} {v4 : Nat} {a4 : Int} {v5 : List UInt8} {a5 : Int} {v6 : Nat} {a6 : Int} {v7 : Nat} {a7 : Int} {v8 : Nat} {a8 : Int} {v9 : Bool} {a9 : Int} {b : Nat} (hb : b ≠ 0) (h1 : rdFixed l k 0 = (v1, a1, 0)) (h2 : rdFixed l a1 0 = (v2, a2, 0)) (h3 : rdFixed l a2 0 = (v3, a3, 0)) (h4 : rdFixed l a3 0 = (v4, a4, 0)) (h5 : rdText l a4 0 = (v5, a5, 0)) (h6 : rdNum l a5 0 = (v6, a6, 0)) (h7 : rdNum l a6 0 = (v7, a7, 0)) (h8 : rdNum l a7 0 = (v8, a8, 0)) (h9 : rdFlag l a8 0 = (v9, a9, b)) : (readRun l k).2.2 = b := by
  simp only [readRun, h1, h2, h3, h4, h5, h6, h7, h8, h9, rdNum_bad hb]
  simp [hb]
theorem run_bad10 {l : List UInt8} {k : Int} {v1 : Nat} {a1 : Int} {v2 : Nat} {a2 : Int} {v3 : Nat} {a3 : Int} {v4 : Nat} {a4 : Int} {v5 : List UInt8} {a5 : Int} {v6 : Nat} {a6 : Int} {v7 : Nat} {a7 : Int} {v8 : Nat} {a8 : Int} {v9 : Bool} {a9 : Int} {v10 : Nat} {a10 : Int} {b : Nat} (hb : b ≠ 0) (h1 : rdFixed l k 0 = (v1, a1, 0)) (h2 : rdFixed l a1 0 = (v2, a2, 0)) (h3 : rdFixed l a2 0 = (v3, a3, 0)) (h4 : rdFixed l a3 0 = (v4, a4, 0)) (h5 : rdText l a4 0 = (v5, a5, 0)) (h6 : rdNum l a5 0 = (v6, a6, 0)) (h7 : rdNum l a6 0 = (v7, a7, 0)) (h8 : rdNum l a7 0 = (v8, a8, 0)) (h9 : rdFlag l a8 0 = (v9, a9, 0)) (h10 : rdNum l a9 0 = (v10, a10, b)) : (readRun l k).2.2 = b := by
  simp only [readRun, h1, h2, h3, h4, h5, h6, h7, h8, h9, h10, rdNum_bad hb]
  simp [hb]
theorem run_bad11 {l : List UInt8} {k : Int} {v1 : Nat} {a1 : Int} {v2 : Nat} {a2 : Int} {v3 : Nat} {a3 : Int} {v4 : Nat} {a4 : Int} {v5 : List UInt8} {a5 : Int} {v6 : Nat} {a6 : Int} {v7 : Nat} {a7 : Int} {v8 : Nat} {a8 : Int} {v9 : Bool} {a9 : Int} {v10 : Nat} {a10 : Int} {v11 : Nat} {a11 : Int} {b : Nat} (hb : b ≠ 0) (h1 : rdFixed l k 0 = (v1, a1, 0)) (h2 : rdFixed l a1 0 = (v2, a2, 0)) (h3 : rdFixed l a2 0 = (v3, a3, 0)) (h4 : rdFixed l a3 0 = (v4, a4, 0)) (h5 : rdText l a4 0 = (v5, a5, 0)) (h6 : rdNum l a5 0 = (v6, a6, 0)) (h7 : rdNum l a6 0 = (v7, a7, 0)) (h8 : rdNum l a7 0 = (v8, a8, 0)) (h9 : rdFlag l a8 0 = (v9, a9, 0)) (h10 : rdNum l a9 0 = (v10, a10, 0)) (h11 : rdNum l a10 0 = (v11, a11, b)) : (readRun l k).2.2 = b := by
  simp only [readRun, h1, h2, h3, h4, h5, h6, h7, h8, h9, h10, h11]
  simp [hb]
theorem run_good {l : List UInt8} {k : Int} {v1 : Nat} {a1 : Int} {v2 : Nat} {a2 : Int} {v3 : Nat} {a3 : Int} {v4 : Nat} {a4 : Int} {v5 : List UInt8} {a5 : Int} {v6 : Nat} {a6 : Int} {v7 : Nat} {a7 : Int} {v8 : Nat} {a8 : Int} {v9 : Bool} {a9 : Int} {v10 : Nat} {a10 : Int} {v11 : Nat} {a11 : Int} (h1 : rdFixed l k 0 = (v1, a1, 0)) (h2 : rdFixed l a1 0 = (v2, a2, 0)) (h3 : rdFixed l a2 0 = (v3, a3, 0)) (h4 : rdFixed l a3 0 = (v4, a4, 0)) (h5 : rdText l a4 0 = (v5, a5, 0)) (h6 : rdNum l a5 0 = (v6, a6, 0)) (h7 : rdNum l a6 0 = (v7, a7, 0)) (h8 : rdNum l a7 0 = (v8, a8, 0)) (h9 : rdFlag l a8 0 = (v9, a9, 0)) (h10 : rdNum l a9 0 = (v10, a10, 0)) (h11 : rdNum l a10 0 = (v11, a11, 0)) : readRun l k = (⟨v1, v2, v3, v4, v5, v6, v7, v8, v9, v10, (v10 : Int) + v11⟩, a11, check ⟨v1, v2, v3, v4, v5, v6, v7, v8, v9, v10, (v10 : Int) + v11⟩) := by
  simp only [readRun, h1, h2, h3, h4, h5, h6, h7, h8, h9, h10, h11, if_true]

theorem rdFixed_good {l : List UInt8} {k : Nat} (hl : l.length ≤ 9223372036854775807) (h : ¬ l.length < k + 8) : rdFixed l (k : Int) 0 = (Oc.num ((l.drop k).take 8), ((k + 8 : Nat) : Int), 0) := by
  have ew : wrap64 ((k : Int) + 8) = ((k + 8 : Nat) : Int) := by unfold wrap64; omega
  simp [rdFixed, Oc.get8, h, ew]
theorem rdFixed_short {l : List UInt8} {k : Nat} (h : l.length < k + 8) : ∃ a, rdFixed l (k : Int) 0 = (0, a, 5) := by
  simp [rdFixed, Oc.get8, h]
theorem span_out {l : List UInt8} {k : Nat} {b : Nat} (hb : b ≠ 0) (h : (readRun l k).2.2 = b) : readSpan l k = (zeroSp, 0, b) := by
  simp only [readSpan, h]
  rw [if_neg (by omega), if_neg hb]
  rfl

theorem read_same (l : List UInt8) (x : Int) (hl : l.length ≤ 9223372036854775807) : readSpan l x = readRef l x := by
  by_cases hx : x < 0
  · simp only [readSpan, readRef]; rw [if_pos hx, if_pos hx]; rfl
  obtain ⟨k, rfl⟩ := Int.eq_ofNat_of_zero_le (by omega : 0 ≤ x)
  by_cases h32 : l.length < k + 32
  · have hr : readRef l k = (zeroSp, 0, 5) := by simp only [readRef]; rw [if_neg hx, if_pos (by simpa using h32)]
    rw [hr]
    by_cases h8 : l.length < k + 8
    · obtain ⟨a, h1⟩ := rdFixed_short h8
      exact span_out (by omega) (run_bad1 (by omega) h1)
    have h1 := rdFixed_good hl h8
    by_cases h16 : l.length < k + 8 + 8
    · obtain ⟨a, h2⟩ := rdFixed_short h16
      exact span_out (by omega) (run_bad2 (by omega) h1 h2)
    have h2 := rdFixed_good hl h16
    by_cases h24 : l.length < k + 8 + 8 + 8
    · obtain ⟨a, h3⟩ := rdFixed_short h24
      exact span_out (by omega) (run_bad3 (by omega) h1 h2 h3)
    have h3 := rdFixed_good hl h24
    obtain ⟨a, h4⟩ := rdFixed_short (l := l) (k := k + 8 + 8 + 8) (by omega)
    exact span_out (by omega) (run_bad4 (by omega) h1 h2 h3 h4)
  have h1 := rdFixed_good (k := k) hl (by omega)
  have h2 := rdFixed_good (k := k + 8) hl (by omega)
  have h3 := rdFixed_good (k := k + 8 + 8) hl (by omega)
  have h4 := rdFixed_good (k := k + 8 + 8 + 8) hl (by omega)
  have ek : ((k + 8 + 8 + 8 + 8 : Nat) : Int) = (k : Int) + 32 := by omega
  rw [ek] at h4
  obtain ⟨n0, n1, n2, n3, hf4, -, -, -, -, e0, e1, e2, e3⟩ := fixed4_ok h32
  obtain ⟨nm, nx, et, ht⟩ : ∃ a b c, Vr.take l ((k : Int) + 32) 32 = (a, b, c) := ⟨_, _, _, rfl⟩
  have h5 : rdText l ((k : Int) + 32) 0 = (nm, nx, et) := by simp [rdText, ht]
  have hrd : readRef l k = if et ≠ 0 then (zeroSp, 0, et) else
    let p := nums l 3 [] nx
    if p.2.2 ≠ 0 then (zeroSp, 0, p.2.2)
    else if (l.length : Int) ≤ p.2.1 then (zeroSp, 0, 5)
    else if 1 < (l.getD p.2.1.toNat 0).toNat then (zeroSp, 0, 3)
    else
      let q := nums l 2 [] (p.2.1 + 1)
      if q.2.2 ≠ 0 then (zeroSp, 0, q.2.2)
      else
        let s : Sp := ⟨n0, n1, n2, n3, nm, p.1.getD 0 0, p.1.getD 1 0, p.1.getD 2 0, ((l.getD p.2.1.toNat 0).toNat : Int) == 1, q.1.getD 0 0, (q.1.getD 0 0 : Int) + q.1.getD 1 0⟩
        if check s ≠ 0 then (zeroSp, 0, check s) else (s, q.2.1, 0) := by
    simp only [readRef]
    rw [if_neg hx, if_neg (by simpa using h32), ht, show ((k : Int)).toNat = k from rfl, hf4]
    rfl
  rw [hrd]
  by_cases het : et ≠ 0
  · rw [if_pos het]; exact span_out het (run_bad5 het h1 h2 h3 h4 h5)
  obtain rfl : et = 0 := by omega
  rw [if_neg het]
  obtain ⟨v6, a6, b6, h6⟩ : ∃ a b c, num1 l nx = (a, b, c) := ⟨_, _, _, rfl⟩
  by_cases hb6 : b6 ≠ 0
  · have g6 := rdNum_fault (l := l) (a := nx) (by rw [h6]; exact hb6)
    rw [h6] at g6
    have := run_bad6 (b := b6) hb6 h1 h2 h3 h4 h5 (Prod.ext_iff.2 ⟨rfl, Prod.ext_iff.2 ⟨rfl, g6⟩⟩)
    rw [span_out hb6 this]
    simp [nums, h6, hb6]
  obtain rfl : b6 = 0 := by omega
  have k6 : rdNum l nx 0 = (v6, a6, 0) := by rw [rdNum_good (by rw [h6]), h6]
  obtain ⟨v7, a7, b7, h7⟩ : ∃ a b c, num1 l a6 = (a, b, c) := ⟨_, _, _, rfl⟩
  by_cases hb7 : b7 ≠ 0
  · have g7 := rdNum_fault (l := l) (a := a6) (by rw [h7]; exact hb7)
    rw [h7] at g7
    have := run_bad7 (b := b7) hb7 h1 h2 h3 h4 h5 k6 (Prod.ext_iff.2 ⟨rfl, Prod.ext_iff.2 ⟨rfl, g7⟩⟩)
    rw [span_out hb7 this]
    simp [nums, h6, h7, hb7]
  obtain rfl : b7 = 0 := by omega
  have k7 : rdNum l a6 0 = (v7, a7, 0) := by rw [rdNum_good (by rw [h7]), h7]
  obtain ⟨v8, a8, b8, h8⟩ : ∃ a b c, num1 l a7 = (a, b, c) := ⟨_, _, _, rfl⟩
  by_cases hb8 : b8 ≠ 0
  · have g8 := rdNum_fault (l := l) (a := a7) (by rw [h8]; exact hb8)
    rw [h8] at g8
    have := run_bad8 (b := b8) hb8 h1 h2 h3 h4 h5 k6 k7 (Prod.ext_iff.2 ⟨rfl, Prod.ext_iff.2 ⟨rfl, g8⟩⟩)
    rw [span_out hb8 this]
    simp [nums, h6, h7, h8, hb8]
  obtain rfl : b8 = 0 := by omega
  have k8 : rdNum l a7 0 = (v8, a8, 0) := by rw [rdNum_good (by rw [h8]), h8]
  have hp : nums l 3 [] nx = ([v6, v7, v8], a8, 0) := by simp [nums, h6, h7, h8]
  simp only [hp]
  rw [if_neg (by simp)]
  by_cases hc : (l.length : Int) ≤ a8
  · rw [if_pos hc]
    exact span_out (by omega) (run_bad9 (b := 5) (v9 := false) (a9 := a8) (by omega) h1 h2 h3 h4 h5 k6 k7 k8 (by simp [rdFlag, hc]))
  rw [if_neg hc]
  by_cases h1b : 1 < (l.getD a8.toNat 0).toNat
  · rw [if_pos h1b]
    exact span_out (by omega) (run_bad9 (b := 3) (v9 := false) (a9 := a8) (by omega) h1 h2 h3 h4 h5 k6 k7 k8 (by simp only [rdFlag, if_true]; rw [if_neg hc, if_pos h1b]))
  rw [if_neg h1b]
  have k9 : rdFlag l a8 0 = (((l.getD a8.toNat 0).toNat : Int) == 1, a8 + 1, 0) := by simp only [rdFlag, if_true]; rw [if_neg hc, if_neg h1b]
  obtain ⟨v10, a10, b10, h10⟩ : ∃ a b c, num1 l (a8 + 1) = (a, b, c) := ⟨_, _, _, rfl⟩
  by_cases hb10 : b10 ≠ 0
  · have g10 := rdNum_fault (l := l) (a := a8 + 1) (by rw [h10]; exact hb10)
    rw [h10] at g10
    have := run_bad10 (b := b10) hb10 h1 h2 h3 h4 h5 k6 k7 k8 k9 (Prod.ext_iff.2 ⟨rfl, Prod.ext_iff.2 ⟨rfl, g10⟩⟩)
    rw [span_out hb10 this]
    simp [nums, h10, hb10]
  obtain rfl : b10 = 0 := by omega
  have k10 : rdNum l (a8 + 1) 0 = (v10, a10, 0) := by rw [rdNum_good (by rw [h10]), h10]
  obtain ⟨v11, a11, b11, h11⟩ : ∃ a b c, num1 l a10 = (a, b, c) := ⟨_, _, _, rfl⟩
  by_cases hb11 : b11 ≠ 0
  · have g11 := rdNum_fault (l := l) (a := a10) (by rw [h11]; exact hb11)
    rw [h11] at g11
    have := run_bad11 (b := b11) hb11 h1 h2 h3 h4 h5 k6 k7 k8 k9 k10 (Prod.ext_iff.2 ⟨rfl, Prod.ext_iff.2 ⟨rfl, g11⟩⟩)
    rw [span_out hb11 this]
    simp [nums, h10, h11, hb11]
  obtain rfl : b11 = 0 := by omega
  have k11 : rdNum l a10 0 = (v11, a11, 0) := by rw [rdNum_good (by rw [h11]), h11]
  have hq : nums l 2 [] (a8 + 1) = ([v10, v11], a11, 0) := by simp [nums, h10, h11]
  simp only [hq]
  rw [if_neg (by simp)]
  have hrun := run_good h1 h2 h3 h4 h5 k6 k7 k8 k9 k10 k11
  simp only [List.getD_cons_zero, List.getD_cons_succ]
  rw [show k + 8 + 8 + 8 = k + 24 from rfl, show k + 8 + 8 = k + 16 from rfl, ← e0, ← e1, ← e2, ← e3] at hrun
  simp only [readSpan]
  rw [if_neg hx, hrun]
  simp only
  by_cases hcc : check ⟨n0, n1, n2, n3, nm, v6, v7, v8, ((l.getD a8.toNat 0).toNat : Int) == 1, v10, (v10 : Int) + v11⟩ = 0
  · rw [if_pos hcc, if_neg (by simpa using hcc), hcc]
  · rw [if_neg hcc, if_pos hcc]; rfl

end Go.Proofs.Ytkhepehgafijfaa
