/- Walks of spanrec's reader. Condition: what the reader holds is of a text no longer than an int can say.; Walks of spanrec's record and of Read. Condition: the text is no longer than an int can say. -/
import Derived.Test.YtfbhdkkmcfnghaaGreatM09
import Derived.Test.YtfbhdkkmcfnghaaGreatM10
import Derived.Deep.RegionHeld3

section
namespace Go.Proofs.YtfbhdkkmcfnghaaGreat
open Go.RowKit

/-- What a function leaves that answers a value and turns a reader: block g. -/
def Turned (g : Nat) (w : World) (v : Value) (cs : List Value) (e : Ending) (w' : World) : Prop := e = .returned v ∧ Held w' g cs ∧ Only g w w'

def rdFixed (l : List UInt8) (a : Int) (b : Nat) : Nat × Int × Nat := if b = 0 then ((Oc.get8 l a.toNat).1, wrap64 (a + 8), (Oc.get8 l a.toNat).2) else (0, a, b)

set_option maxHeartbeats 400000 in
set_option maxRecDepth 100000 in
theorem fail_any (g : Nat) (c0 c1 : Value) (b x : Nat) (y : Int) (hy : y = x) (rest : List Value) (w : World) (hH : Held w g (c0 :: c1 :: .int .i64 (b : Int) :: rest)) :
    Calls Tryz.prog 153 #[.pointer (some ⟨g, 0, none⟩), .int .i64 y] w (Turned g w (.tuple #[]) (c0 :: c1 :: .int .i64 ((if b = 0 then x else b : Nat) : Int) :: rest)) := by
  subst hy
  have h2 := hH.cell (i := 2) rfl
  have hf := hH.free 2
  by_cases hb : b = 0
  · subst hb
    go_enter Tryz.func153, Tryz.ntmps153
    go_wp2_with fail
    go_end0
    exact ⟨rfl, by simpa using hH.set 2 (.int .i64 (x : Int)), Only.set _ _ _ _⟩
  · have hbn : (((b : Nat) : Int) == 0) = false := by simp; omega
    go_enter Tryz.func153, Tryz.ntmps153
    go_wp2_with fail
    go_end0
    exact ⟨rfl, by simpa [hb] using hH, Only.refl _ _⟩

set_option maxHeartbeats 400000 in
set_option maxRecDepth 100000 in
theorem fixed_any (g : Nat) (l : List UInt8) (a : Int) (b : Nat) (rest : List Value) (w : World) (hl : l.length ≤ 9223372036854775807) (hp : b = 0 → 0 ≤ a ∧ a ≤ 9223372036854775807)
    (hH : Held w g (.string (bs l) :: .int .i64 a :: .int .i64 (b : Int) :: rest)) :
    Calls Tryz.prog 149 #[.pointer (some ⟨g, 0, none⟩)] w (Turned g w (.int .u64 ((rdFixed l a b).1 : Int)) (.string (bs l) :: .int .i64 (rdFixed l a b).2.1 :: .int .i64 ((rdFixed l a b).2.2 : Int) :: rest)) := by
  have h0 := hH.cell (i := 0) rfl
  have h1 := hH.cell (i := 1) rfl
  have h2 := hH.cell (i := 2) rfl
  by_cases hb : b = 0
  · subst hb
    obtain ⟨ha, ha2⟩ := hp rfl
    obtain ⟨k, rfl⟩ := Int.eq_ofNat_of_zero_le ha
    clear hp ha
    go_enter Tryz.func149, Tryz.ntmps149
    go_wp2_with fail
    go_quiet ((go_at_call 168; exact Calls.quiet_of_same (octGet8_any l _ k rfl _ hl (by omega))))
    go_wp2_with fail
    refine (fail_any g _ _ 0 _ _ rfl rest _ (hH.drewN nq)).mono ?_
    rintro e w2 ⟨rfl, hH2, ho2⟩
    simp only [if_true] at hH2
    have g1 := hH2.cell (i := 1) rfl
    have gf := hH2.free 1
    go_wp2_with fail
    go_ret
    exact ⟨rfl, by simpa [rdFixed] using hH2.set 1 _, ((Only.drewN _ _ _).trans ho2).trans (Only.set _ _ _ _)⟩
  · have hbn : (((b : Nat) : Int) != 0) = true := by simp; omega
    go_enter Tryz.func149, Tryz.ntmps149
    go_wp2_with fail
    go_ret
    exact ⟨by simp [rdFixed, hb], by simpa [rdFixed, hb] using hH, Only.refl _ _⟩

def rdNum (l : List UInt8) (a : Int) (b : Nat) : Nat × Int × Nat :=
  if b = 0 then (min (Vr.get l a).1 1099511627776, (Vr.get l a).2.1, if (Vr.get l a).2.2 = 0 ∧ 1099511627776 < (Vr.get l a).1 then 12 else (Vr.get l a).2.2) else (0, a, b)

set_option maxHeartbeats 400000 in
set_option maxRecDepth 100000 in
theorem number_any (g : Nat) (l : List UInt8) (a : Int) (b : Nat) (rest : List Value) (w : World) (hl : l.length ≤ 9223372036854775807)
    (hH : Held w g (.string (bs l) :: .int .i64 a :: .int .i64 (b : Int) :: rest)) :
    Calls Tryz.prog 151 #[.pointer (some ⟨g, 0, none⟩)] w (Turned g w (.int .i64 ((rdNum l a b).1 : Int)) (.string (bs l) :: .int .i64 (rdNum l a b).2.1 :: .int .i64 ((rdNum l a b).2.2 : Int) :: rest)) := by
  have h0 := hH.cell (i := 0) rfl
  have h1 := hH.cell (i := 1) rfl
  have h2 := hH.cell (i := 2) rfl
  by_cases hb : b = 0
  · subst hb
    obtain ⟨n, nx, e0, hg⟩ : ∃ n nx e0, Vr.get l a = (n, nx, e0) := ⟨_, _, _, rfl⟩
    have HG : Hid (rdNum l a 0 = (min n 1099511627776, nx, if e0 = 0 ∧ 1099511627776 < n then 12 else e0)) := Lib.hid (by simp [rdNum, hg])
    have hget : ∀ w0, Calls Tryz.prog 85 #[.string (bs l), .int .i64 a] w0 fun e w' => e = .returned (.tuple #[.int .u64 n, .int .i64 nx, .int .i64 e0]) ∧ w' = w0 := fun w0 => by
      have := get_any l a w0 hl
      rw [hg] at this
      exact this
    have hn64 : n < 18446744073709551616 := by
      by_cases h0 : e0 = 0
      · subst h0; exact (Vr.get_ok hg).choose_spec.choose_spec.2.2.2.2.2.2.2
      · have := (Vr.get_err (l := l) (x := a) (by rw [hg]; exact h0)).1
        rw [hg] at this
        simp at this; omega
    have HZ : e0 ≠ 0 → n = 0 := fun h => by
      have := (Vr.get_err (l := l) (x := a) (by rw [hg]; exact h)).1
      rw [hg] at this
      exact this
    have HGet := Lib.hid hget
    clear hget hg
    by_cases he : e0 = 0
    · subst he
      by_cases hm : 1099511627776 < n
      · have hmin : min n 1099511627776 = 1099511627776 := by omega
        have HM := Lib.hid hmin; clear hmin
        go_enter Tryz.func151, Tryz.ntmps151
        go_wp2_with fail
        go_quiet ((go_at_call 85; exact Calls.quiet_of_same (HGet.out _)))
        go_wp2_with fail
        refine (fail_any g _ _ 0 12 _ rfl rest _ (hH.drewN nq)).mono ?_
        rintro e w2 ⟨rfl, hH2, ho2⟩
        simp only [if_true] at hH2
        have g1 := hH2.cell (i := 1) rfl
        have gf := hH2.free 1
        go_wp2_with fail
        go_ret
        exact ⟨by rw [HG.out]; simp [HM.out], by rw [HG.out]; simpa [hm] using hH2.set 1 _, ((Only.drewN _ _ _).trans ho2).trans (Only.set _ _ _ _)⟩
      · have hmin : min n 1099511627776 = n := by omega
        have HM := Lib.hid hmin; clear hmin
        go_enter Tryz.func151, Tryz.ntmps151
        go_wp2_with fail
        go_quiet ((go_at_call 85; exact Calls.quiet_of_same (HGet.out _)))
        go_wp2_with fail
        refine (fail_any g _ _ 0 0 _ rfl rest _ (hH.drewN nq)).mono ?_
        rintro e w2 ⟨rfl, hH2, ho2⟩
        simp only [if_true] at hH2
        have g1 := hH2.cell (i := 1) rfl
        have gf := hH2.free 1
        go_wp2_with fail
        go_ret
        exact ⟨by rw [HG.out]; simp [HM.out], by rw [HG.out]; simpa [hm] using hH2.set 1 _, ((Only.drewN _ _ _).trans ho2).trans (Only.set _ _ _ _)⟩
    · have hen : (((e0 : Nat) : Int) == 0) = false := by simp; omega
      have hn0 : n = 0 := HZ he
      subst hn0
      go_enter Tryz.func151, Tryz.ntmps151
      go_wp2_with fail
      go_quiet ((go_at_call 85; exact Calls.quiet_of_same (HGet.out _)))
      go_wp2_with fail
      refine (fail_any g _ _ 0 e0 _ rfl rest _ (hH.drewN nq)).mono ?_
      rintro e w2 ⟨rfl, hH2, ho2⟩
      simp only [if_true] at hH2
      have g1 := hH2.cell (i := 1) rfl
      have gf := hH2.free 1
      go_wp2_with fail
      go_ret
      exact ⟨by rw [HG.out]; simp, by rw [HG.out]; simpa [he] using hH2.set 1 _, ((Only.drewN _ _ _).trans ho2).trans (Only.set _ _ _ _)⟩
  · have hbn : (((b : Nat) : Int) != 0) = true := by simp; omega
    go_enter Tryz.func151, Tryz.ntmps151
    go_wp2_with fail
    go_ret
    exact ⟨by simp [rdNum, hb], by simpa [rdNum, hb] using hH, Only.refl _ _⟩

def rdText (l : List UInt8) (a : Int) (b : Nat) : List UInt8 × Int × Nat := if b = 0 then Vr.take l a 32 else ([], a, b)

set_option maxHeartbeats 400000 in
set_option maxRecDepth 100000 in
theorem rtext_any (g : Nat) (l : List UInt8) (a : Int) (b : Nat) (rest : List Value) (w : World) (hl : l.length ≤ 9223372036854775807) (hp : b = 0 → 0 ≤ a ∧ a ≤ 9223372036854775807)
    (hH : Held w g (.string (bs l) :: .int .i64 a :: .int .i64 (b : Int) :: rest)) :
    Calls Tryz.prog 150 #[.pointer (some ⟨g, 0, none⟩)] w (Turned g w (.string (bs (rdText l a b).1)) (.string (bs l) :: .int .i64 (rdText l a b).2.1 :: .int .i64 ((rdText l a b).2.2 : Int) :: rest)) := by
  have h0 := hH.cell (i := 0) rfl
  have h1 := hH.cell (i := 1) rfl
  have h2 := hH.cell (i := 2) rfl
  by_cases hb : b = 0
  · subst hb
    obtain ⟨t, nx, e0, hg⟩ : ∃ n nx e0, Vr.take l a 32 = (n, nx, e0) := ⟨_, _, _, rfl⟩
    have HG : Hid (rdText l a 0 = (t, nx, e0)) := Lib.hid (by simp [rdText, hg])
    have hget : ∀ w0, Calls Tryz.prog 169 #[.string (bs l), .int .i64 a, .int .i64 32] w0 fun e w' => e = .returned (.tuple #[.string (bs t), .int .i64 nx, .int .i64 e0]) ∧ w' = w0 := fun w0 => by
      have := take_any l a 32 w0 hl (hp rfl).2 (by omega)
      rw [hg] at this
      exact this
    have HGet := Lib.hid hget
    clear hget hg
    go_enter Tryz.func150, Tryz.ntmps150
    go_wp2_with fail
    go_quiet ((go_at_call 169; exact Calls.quiet_of_same (HGet.out _)))
    go_wp2_with fail
    refine (fail_any g _ _ 0 _ _ rfl rest _ (hH.drewN nq)).mono ?_
    rintro e w2 ⟨rfl, hH2, ho2⟩
    simp only [if_true] at hH2
    have g1 := hH2.cell (i := 1) rfl
    have gf := hH2.free 1
    go_wp2_with fail
    go_ret
    exact ⟨by rw [HG.out]; rfl, by rw [HG.out]; simpa using hH2.set 1 _, ((Only.drewN _ _ _).trans ho2).trans (Only.set _ _ _ _)⟩
  · have hbn : (((b : Nat) : Int) != 0) = true := by simp; omega
    go_enter Tryz.func150, Tryz.ntmps150
    go_wp2_with fail
    go_ret
    exact ⟨by simp [rdText, hb]; rfl, by simpa [rdText, hb] using hH, Only.refl _ _⟩

def rdFlag (l : List UInt8) (a : Int) (b : Nat) : Bool × Int × Nat :=
  if b = 0 then (if (l.length : Int) ≤ a then (false, a, 5) else if 1 < (l.getD a.toNat 0).toNat then (false, a, 3) else (((l.getD a.toNat 0).toNat : Int) == 1, a + 1, 0)) else (false, a, b)

set_option maxHeartbeats 800000 in
set_option maxRecDepth 100000 in
theorem flag_any (g : Nat) (l : List UInt8) (a : Int) (b : Nat) (rest : List Value) (w : World) (hl : l.length ≤ 9223372036854775807) (hp : b = 0 → 0 ≤ a ∧ a ≤ 9223372036854775807)
    (hH : Held w g (.string (bs l) :: .int .i64 a :: .int .i64 (b : Int) :: rest)) :
    Calls Tryz.prog 152 #[.pointer (some ⟨g, 0, none⟩)] w (Turned g w (.bool (rdFlag l a b).1) (.string (bs l) :: .int .i64 (rdFlag l a b).2.1 :: .int .i64 ((rdFlag l a b).2.2 : Int) :: rest)) := by
  have h0 := hH.cell (i := 0) rfl
  have h1 := hH.cell (i := 1) rfl
  have h2 := hH.cell (i := 2) rfl
  by_cases hb : b = 0
  · subst hb
    obtain ⟨ha, ha2⟩ := hp rfl
    obtain ⟨k, rfl⟩ := Int.eq_ofNat_of_zero_le ha
    clear hp ha
    by_cases hk : l.length ≤ k
    · have HG : Hid (rdFlag l k 0 = (false, (k : Int), 5)) := Lib.hid (by simp [rdFlag, hk])
      go_enter Tryz.func152, Tryz.ntmps152
      go_wp2_with fail
      go_quiet (fail)
      go_wp2_with fail
      refine (fail_any g _ _ 0 5 _ rfl rest _ (hH.drewN nq)).mono ?_
      rintro e w2 ⟨rfl, hH2, ho2⟩
      simp only [if_true] at hH2
      go_wp2_with fail
      go_ret
      exact ⟨by rw [HG.out]; rfl, by rw [HG.out]; exact hH2, (Only.drewN _ _ _).trans ho2⟩
    · have hgd : l.getD k 0 = l[k] := by simp [List.getD, List.getElem?_eq_getElem (show k < l.length by omega)]
      have hki : (k : Int) < (l.length : Int) := by omega
      have hkn : k < l.length := by omega
      by_cases h1b : 1 < l[k].toNat
      · have HG : Hid (rdFlag l k 0 = (false, (k : Int), 3)) := Lib.hid (by simp only [rdFlag, if_true]; rw [if_neg (by omega), show ((k : Int)).toNat = k from rfl, hgd, if_pos h1b])
        clear hgd
        go_enter Tryz.func152, Tryz.ntmps152
        go_wp2_with fail
        go_quiet (fail)
        go_wp2_with fail
        go_quiet (fail)
        go_wp2_with fail
        refine (fail_any g _ _ 0 3 _ rfl rest _ (hH.drewN _)).mono ?_
        rintro e w2 ⟨rfl, hH2, ho2⟩
        simp only [if_true] at hH2
        go_wp2_with fail
        go_ret
        exact ⟨by rw [HG.out]; rfl, by rw [HG.out]; exact hH2, (Only.drewN _ _ _).trans ho2⟩
      · have HG : Hid (rdFlag l k 0 = ((l[k].toNat : Int) == 1, (k : Int) + 1, 0)) := Lib.hid (by simp only [rdFlag, if_true]; rw [if_neg (by omega), show ((k : Int)).toNat = k from rfl, hgd, if_neg h1b])
        clear hgd
        go_enter Tryz.func152, Tryz.ntmps152
        go_wp2_with fail
        go_quiet (fail)
        revert nq
        intro n1
        go_wp2_with fail
        go_quiet (fail)
        revert nq
        intro n2
        have hf1 := hH.free 1
        go_wp2_with fail
        have G3 : Held ((w.drewN (n1 + n2)).setCell ⟨g, 1, none⟩ (.int .i64 ((k : Int) + 1))) g (.string (bs l) :: .int .i64 ((k : Int) + 1) :: .int .i64 ((0 : Nat) : Int) :: rest) := by simpa using (hH.drewN (n1 + n2)).set 1 (.int .i64 ((k : Int) + 1))
        have e0 := G3.cell (i := 0) rfl
        have e1 := G3.cell (i := 1) rfl
        have hs : (k : Int) + 1 - 1 = k := by omega
        have O3 : Only g w ((w.drewN (n1 + n2)).setCell ⟨g, 1, none⟩ (.int .i64 ((k : Int) + 1))) := (Only.drewN _ _ _).trans (Only.set _ _ _ _)
        generalize (w.drewN (n1 + n2)).setCell ⟨g, 1, none⟩ (.int .i64 ((k : Int) + 1)) = W3 at G3 e0 e1 O3 ⊢
        go_quiet (fail)
        go_wp2_with fail
        go_ret
        exact ⟨by rw [HG.out]; rfl, by rw [HG.out]; exact G3.drewN _, O3.trans (Only.drewN _ _ _)⟩
  · have hbn : (((b : Nat) : Int) != 0) = true := by simp; omega
    go_enter Tryz.func152, Tryz.ntmps152
    go_wp2_with fail
    go_ret
    exact ⟨by simp [rdFlag, hb], by simpa [rdFlag, hb] using hH, Only.refl _ _⟩
end Go.Proofs.YtfbhdkkmcfnghaaGreat
end

section
namespace Go.Proofs.YtfbhdkkmcfnghaaGreat
open Go.RowKit

def PlaceOk (a : Int) (b : Nat) : Prop := b = 0 → 0 ≤ a ∧ a ≤ 9223372036854775807

theorem rdFixed_place {l : List UInt8} {a : Int} {b : Nat} (hl : l.length ≤ 9223372036854775807) (h : PlaceOk a b) : PlaceOk (rdFixed l a b).2.1 (rdFixed l a b).2.2 ∧ (rdFixed l a b).1 < 18446744073709551616 := by
  unfold rdFixed
  by_cases hb : b = 0
  · obtain ⟨h0, _⟩ := h hb
    obtain ⟨k, rfl⟩ := Int.eq_ofNat_of_zero_le h0
    have e : ((k : Int)).toNat = k := rfl
    rw [if_pos hb, e]
    refine ⟨fun h5 => ?_, ?_⟩
    · have hk : ¬ l.length < k + 8 := by
        intro hk
        simp [Oc.get8, hk] at h5
      have ew : wrap64 ((k : Int) + 8) = (k : Int) + 8 := by unfold wrap64; omega
      simp only [ew]
      omega
    · simp only [Oc.get8]
      split
      · simp
      · exact Oc.num_bound _ 8 (by omega)
  · rw [if_neg hb]; exact ⟨fun h5 => absurd h5 hb, by simp⟩

theorem rdNum_place {l : List UInt8} {a : Int} {b : Nat} (hl : l.length ≤ 9223372036854775807) : PlaceOk (rdNum l a b).2.1 (rdNum l a b).2.2 ∧ (rdNum l a b).1 ≤ 1099511627776 := by
  unfold rdNum
  by_cases hb : b = 0
  · rw [if_pos hb]
    refine ⟨fun h5 => ?_, by simp only; omega⟩
    simp only at h5 ⊢
    have h0 : (Vr.get l a).2.2 = 0 := by
      split at h5 <;> omega
    obtain ⟨n, nx, hg⟩ : ∃ n nx, Vr.get l a = (n, nx, 0) := ⟨_, _, Prod.ext_iff.2 ⟨rfl, Prod.ext_iff.2 ⟨rfl, h0⟩⟩⟩
    obtain ⟨k, m, _, h2, h3, _⟩ := Vr.get_ok hg
    rw [hg]
    simp only [h2]
    omega
  · rw [if_neg hb]; exact ⟨fun h5 => absurd h5 hb, by simp⟩

theorem rdText_place {l : List UInt8} {a : Int} {b : Nat} (hl : l.length ≤ 9223372036854775807) : PlaceOk (rdText l a b).2.1 (rdText l a b).2.2 ∧ (rdText l a b).1.length ≤ 9223372036854775807 := by
  unfold rdText
  by_cases hb : b = 0
  · rw [if_pos hb]
    unfold Vr.take
    simp only
    by_cases h0 : (Vr.get l a).2.2 = 0
    · obtain ⟨n, nx, hg⟩ : ∃ n nx, Vr.get l a = (n, nx, 0) := ⟨_, _, Prod.ext_iff.2 ⟨rfl, Prod.ext_iff.2 ⟨rfl, h0⟩⟩⟩
      obtain ⟨k, m, _, h2, h3, _⟩ := Vr.get_ok hg
      rw [hg]
      simp only [ne_eq, not_true, if_false, h2]
      split
      · exact ⟨fun h5 => by simp at h5, by simp⟩
      · split
        · exact ⟨fun h5 => by simp at h5, by simp⟩
        · refine ⟨fun _ => ?_, by simp; omega⟩
          simp only
          omega
    · rw [if_pos h0]; exact ⟨fun h5 => absurd h5 h0, by simp⟩
  · rw [if_neg hb]; exact ⟨fun h5 => absurd h5 hb, by simp⟩

theorem rdFlag_place {l : List UInt8} {a : Int} {b : Nat} (hl : l.length ≤ 9223372036854775807) (h : PlaceOk a b) : PlaceOk (rdFlag l a b).2.1 (rdFlag l a b).2.2 := by
  unfold rdFlag
  by_cases hb : b = 0
  · obtain ⟨h0, _⟩ := h hb
    rw [if_pos hb]
    split
    · exact fun h5 => by simp at h5
    · split
      · exact fun h5 => by simp at h5
      · intro _; simp only; omega
  · rw [if_neg hb]; exact fun h5 => absurd h5 hb

/-- What reading a span comes to: the span, the place behind it, and the first error. -/
def readRun (l : List UInt8) (k : Int) : Sp × Int × Nat :=
  let r1 := rdFixed l k 0
  let r2 := rdFixed l r1.2.1 r1.2.2
  let r3 := rdFixed l r2.2.1 r2.2.2
  let r4 := rdFixed l r3.2.1 r3.2.2
  let r5 := rdText l r4.2.1 r4.2.2
  let r6 := rdNum l r5.2.1 r5.2.2
  let r7 := rdNum l r6.2.1 r6.2.2
  let r8 := rdNum l r7.2.1 r7.2.2
  let r9 := rdFlag l r8.2.1 r8.2.2
  let r10 := rdNum l r9.2.1 r9.2.2
  let r11 := rdNum l r10.2.1 r10.2.2
  let s : Sp := ⟨r1.1, r2.1, r3.1, r4.1, r5.1, r6.1, r7.1, r8.1, r9.1, r10.1, (r10.1 : Int) + r11.1⟩
  (s, r11.2.1, if r11.2.2 = 0 then check s else r11.2.2)

set_option maxHeartbeats 2000000 in
set_option maxRecDepth 100000 in
theorem read_any (g : Nat) (l : List UInt8) (k : Int) (w : World) (hl : l.length ≤ 9223372036854775807) (hk : 0 ≤ k) (hk2 : k ≤ 9223372036854775807)
    (hH : Held w g [.string (bs l), .int .i64 k, .int .i64 ((0 : Nat) : Int), (.int .u64 0), (.int .u64 0), (.int .u64 0), (.int .u64 0), (.string ⟨#[]⟩), (.int .i64 0), (.int .i64 0), (.int .i64 0), (.bool false), (.int .i64 0), (.int .i64 0)]) :
    Calls Tryz.prog 122 #[.pointer (some ⟨g, 0, none⟩)] w (Turned g w (.tuple #[]) [.string (bs l), .int .i64 (readRun l k).2.1, .int .i64 ((readRun l k).2.2 : Int),
      .int .u64 ((readRun l k).1.hi : Int), .int .u64 ((readRun l k).1.lo : Int), .int .u64 ((readRun l k).1.id : Int), .int .u64 ((readRun l k).1.up : Int), .string (bs (readRun l k).1.name),
      .int .i64 (readRun l k).1.st, .int .i64 (readRun l k).1.sq, .int .i64 (readRun l k).1.kd, .bool (readRun l k).1.sh, .int .i64 (readRun l k).1.t0, .int .i64 (readRun l k).1.t1]) := by
  have P0 : PlaceOk k 0 := fun _ => ⟨hk, hk2⟩
  obtain ⟨v1, a1, b1, hr1⟩ : ∃ v a b, rdFixed l k 0 = (v, a, b) := ⟨_, _, _, rfl⟩
  have P1 := rdFixed_place (l := l) hl P0
  rw [hr1] at P1
  obtain ⟨P1, B1⟩ := P1
  simp only at P1 B1
  obtain ⟨v2, a2, b2, hr2⟩ : ∃ v a b, rdFixed l a1 b1 = (v, a, b) := ⟨_, _, _, rfl⟩
  have P2 := rdFixed_place (l := l) hl P1
  rw [hr2] at P2
  obtain ⟨P2, B2⟩ := P2
  simp only at P2 B2
  obtain ⟨v3, a3, b3, hr3⟩ : ∃ v a b, rdFixed l a2 b2 = (v, a, b) := ⟨_, _, _, rfl⟩
  have P3 := rdFixed_place (l := l) hl P2
  rw [hr3] at P3
  obtain ⟨P3, B3⟩ := P3
  simp only at P3 B3
  obtain ⟨v4, a4, b4, hr4⟩ : ∃ v a b, rdFixed l a3 b3 = (v, a, b) := ⟨_, _, _, rfl⟩
  have P4 := rdFixed_place (l := l) hl P3
  rw [hr4] at P4
  obtain ⟨P4, B4⟩ := P4
  simp only at P4 B4
  obtain ⟨v5, a5, b5, hr5⟩ : ∃ v a b, rdText l a4 b4 = (v, a, b) := ⟨_, _, _, rfl⟩
  have P5 := rdText_place (l := l) (a := a4) (b := b4) hl
  rw [hr5] at P5
  obtain ⟨P5, B5⟩ := P5
  simp only at P5 B5
  obtain ⟨v6, a6, b6, hr6⟩ : ∃ v a b, rdNum l a5 b5 = (v, a, b) := ⟨_, _, _, rfl⟩
  have P6 := rdNum_place (l := l) (a := a5) (b := b5) hl
  rw [hr6] at P6
  obtain ⟨P6, B6⟩ := P6
  simp only at P6 B6
  obtain ⟨v7, a7, b7, hr7⟩ : ∃ v a b, rdNum l a6 b6 = (v, a, b) := ⟨_, _, _, rfl⟩
  have P7 := rdNum_place (l := l) (a := a6) (b := b6) hl
  rw [hr7] at P7
  obtain ⟨P7, B7⟩ := P7
  simp only at P7 B7
  obtain ⟨v8, a8, b8, hr8⟩ : ∃ v a b, rdNum l a7 b7 = (v, a, b) := ⟨_, _, _, rfl⟩
  have P8 := rdNum_place (l := l) (a := a7) (b := b7) hl
  rw [hr8] at P8
  obtain ⟨P8, B8⟩ := P8
  simp only at P8 B8
  obtain ⟨v9, a9, b9, hr9⟩ : ∃ v a b, rdFlag l a8 b8 = (v, a, b) := ⟨_, _, _, rfl⟩
  have P9 := rdFlag_place (l := l) hl P8
  rw [hr9] at P9
  have P9 : PlaceOk a9 b9 := P9
  obtain ⟨v10, a10, b10, hr10⟩ : ∃ v a b, rdNum l a9 b9 = (v, a, b) := ⟨_, _, _, rfl⟩
  have P10 := rdNum_place (l := l) (a := a9) (b := b9) hl
  rw [hr10] at P10
  obtain ⟨P10, B10⟩ := P10
  simp only at P10 B10
  obtain ⟨v11, a11, b11, hr11⟩ : ∃ v a b, rdNum l a10 b10 = (v, a, b) := ⟨_, _, _, rfl⟩
  have P11 := rdNum_place (l := l) (a := a10) (b := b10) hl
  rw [hr11] at P11
  obtain ⟨P11, B11⟩ := P11
  simp only at P11 B11
  have HR : Hid (readRun l k = (⟨v1, v2, v3, v4, v5, v6, v7, v8, v9, v10, (v10 : Int) + v11⟩, a11, if b11 = 0 then check ⟨v1, v2, v3, v4, v5, v6, v7, v8, v9, v10, (v10 : Int) + v11⟩ else b11)) := Lib.hid (by
    simp only [readRun, hr1, hr2, hr3, hr4, hr5, hr6, hr7, hr8, hr9, hr10, hr11])
  have R1 := Lib.hid hr1; have Q1 := Lib.hid P1; clear hr1 P1
  have R2 := Lib.hid hr2; have Q2 := Lib.hid P2; clear hr2 P2
  have R3 := Lib.hid hr3; have Q3 := Lib.hid P3; clear hr3 P3
  have R4 := Lib.hid hr4; have Q4 := Lib.hid P4; clear hr4 P4
  have R5 := Lib.hid hr5; have Q5 := Lib.hid P5; clear hr5 P5
  have R6 := Lib.hid hr6; have Q6 := Lib.hid P6; clear hr6 P6
  have R7 := Lib.hid hr7; have Q7 := Lib.hid P7; clear hr7 P7
  have R8 := Lib.hid hr8; have Q8 := Lib.hid P8; clear hr8 P8
  have R9 := Lib.hid hr9; have Q9 := Lib.hid P9; clear hr9 P9
  have R10 := Lib.hid hr10; have Q10 := Lib.hid P10; clear hr10 P10
  have R11 := Lib.hid hr11; have Q11 := Lib.hid P11; clear hr11 P11
  clear P0
  go_enter Tryz.func122, Tryz.ntmps122
  go_wp2_with fail
  refine (fixed_any g l k 0 _ _ hl (fun _ => ⟨hk, hk2⟩) hH).mono ?_
  rw [R1.out]
  rintro e w1 ⟨rfl, hH1, ho1⟩
  simp only at hH1
  have c1 := hH1.cell (i := 3) rfl
  have f1 := hH1.free 3
  go_wp2_with fail
  have G1 : Held (w1.setCell ⟨g, 3, none⟩ (.int .u64 (v1 : Int))) g [(.string (bs l)), (.int .i64 a1), (.int .i64 (b1 : Int)), (.int .u64 (v1 : Int)), (.int .u64 0), (.int .u64 0), (.int .u64 0), (.string ⟨#[]⟩), (.int .i64 0), (.int .i64 0), (.int .i64 0), (.bool false), (.int .i64 0), (.int .i64 0)] := by simpa using hH1.set 3 (.int .u64 (v1 : Int))
  have O1 := ((Only.refl g w).trans ho1).trans (Only.set g w1 3 (.int .u64 (v1 : Int)))
  generalize w1.setCell ⟨g, 3, none⟩ (.int .u64 (v1 : Int)) = W1 at G1 O1 ⊢
  clear hH1 ho1 c1 f1
  refine (fixed_any g l a1 b1 _ _ hl (fun h => Q1.out h) G1).mono ?_
  rw [R2.out]
  rintro e w2 ⟨rfl, hH2, ho2⟩
  simp only at hH2
  have c2 := hH2.cell (i := 4) rfl
  have f2 := hH2.free 4
  go_wp2_with fail
  have G2 : Held (w2.setCell ⟨g, 4, none⟩ (.int .u64 (v2 : Int))) g [(.string (bs l)), (.int .i64 a2), (.int .i64 (b2 : Int)), (.int .u64 (v1 : Int)), (.int .u64 (v2 : Int)), (.int .u64 0), (.int .u64 0), (.string ⟨#[]⟩), (.int .i64 0), (.int .i64 0), (.int .i64 0), (.bool false), (.int .i64 0), (.int .i64 0)] := by simpa using hH2.set 4 (.int .u64 (v2 : Int))
  have O2 := (O1.trans ho2).trans (Only.set g w2 4 (.int .u64 (v2 : Int)))
  generalize w2.setCell ⟨g, 4, none⟩ (.int .u64 (v2 : Int)) = W2 at G2 O2 ⊢
  clear hH2 ho2 c2 f2
  refine (fixed_any g l a2 b2 _ _ hl (fun h => Q2.out h) G2).mono ?_
  rw [R3.out]
  rintro e w3 ⟨rfl, hH3, ho3⟩
  simp only at hH3
  have c3 := hH3.cell (i := 5) rfl
  have f3 := hH3.free 5
  go_wp2_with fail
  have G3 : Held (w3.setCell ⟨g, 5, none⟩ (.int .u64 (v3 : Int))) g [(.string (bs l)), (.int .i64 a3), (.int .i64 (b3 : Int)), (.int .u64 (v1 : Int)), (.int .u64 (v2 : Int)), (.int .u64 (v3 : Int)), (.int .u64 0), (.string ⟨#[]⟩), (.int .i64 0), (.int .i64 0), (.int .i64 0), (.bool false), (.int .i64 0), (.int .i64 0)] := by simpa using hH3.set 5 (.int .u64 (v3 : Int))
  have O3 := (O2.trans ho3).trans (Only.set g w3 5 (.int .u64 (v3 : Int)))
  generalize w3.setCell ⟨g, 5, none⟩ (.int .u64 (v3 : Int)) = W3 at G3 O3 ⊢
  clear hH3 ho3 c3 f3
  refine (fixed_any g l a3 b3 _ _ hl (fun h => Q3.out h) G3).mono ?_
  rw [R4.out]
  rintro e w4 ⟨rfl, hH4, ho4⟩
  simp only at hH4
  have c4 := hH4.cell (i := 6) rfl
  have f4 := hH4.free 6
  go_wp2_with fail
  have G4 : Held (w4.setCell ⟨g, 6, none⟩ (.int .u64 (v4 : Int))) g [(.string (bs l)), (.int .i64 a4), (.int .i64 (b4 : Int)), (.int .u64 (v1 : Int)), (.int .u64 (v2 : Int)), (.int .u64 (v3 : Int)), (.int .u64 (v4 : Int)), (.string ⟨#[]⟩), (.int .i64 0), (.int .i64 0), (.int .i64 0), (.bool false), (.int .i64 0), (.int .i64 0)] := by simpa using hH4.set 6 (.int .u64 (v4 : Int))
  have O4 := (O3.trans ho4).trans (Only.set g w4 6 (.int .u64 (v4 : Int)))
  generalize w4.setCell ⟨g, 6, none⟩ (.int .u64 (v4 : Int)) = W4 at G4 O4 ⊢
  clear hH4 ho4 c4 f4
  refine (rtext_any g l a4 b4 _ _ hl (fun h => Q4.out h) G4).mono ?_
  rw [R5.out]
  rintro e w5 ⟨rfl, hH5, ho5⟩
  simp only at hH5
  have c5 := hH5.cell (i := 7) rfl
  have f5 := hH5.free 7
  go_wp2_with fail
  have G5 : Held (w5.setCell ⟨g, 7, none⟩ (.string (bs v5))) g [(.string (bs l)), (.int .i64 a5), (.int .i64 (b5 : Int)), (.int .u64 (v1 : Int)), (.int .u64 (v2 : Int)), (.int .u64 (v3 : Int)), (.int .u64 (v4 : Int)), (.string (bs v5)), (.int .i64 0), (.int .i64 0), (.int .i64 0), (.bool false), (.int .i64 0), (.int .i64 0)] := by simpa using hH5.set 7 (.string (bs v5))
  have O5 := (O4.trans ho5).trans (Only.set g w5 7 (.string (bs v5)))
  generalize w5.setCell ⟨g, 7, none⟩ (.string (bs v5)) = W5 at G5 O5 ⊢
  clear hH5 ho5 c5 f5
  refine (number_any g l a5 b5 _ _ hl G5).mono ?_
  rw [R6.out]
  rintro e w6 ⟨rfl, hH6, ho6⟩
  simp only at hH6
  have c6 := hH6.cell (i := 8) rfl
  have f6 := hH6.free 8
  go_wp2_with fail
  have G6 : Held (w6.setCell ⟨g, 8, none⟩ (.int .i64 (v6 : Int))) g [(.string (bs l)), (.int .i64 a6), (.int .i64 (b6 : Int)), (.int .u64 (v1 : Int)), (.int .u64 (v2 : Int)), (.int .u64 (v3 : Int)), (.int .u64 (v4 : Int)), (.string (bs v5)), (.int .i64 (v6 : Int)), (.int .i64 0), (.int .i64 0), (.bool false), (.int .i64 0), (.int .i64 0)] := by simpa using hH6.set 8 (.int .i64 (v6 : Int))
  have O6 := (O5.trans ho6).trans (Only.set g w6 8 (.int .i64 (v6 : Int)))
  generalize w6.setCell ⟨g, 8, none⟩ (.int .i64 (v6 : Int)) = W6 at G6 O6 ⊢
  clear hH6 ho6 c6 f6
  refine (number_any g l a6 b6 _ _ hl G6).mono ?_
  rw [R7.out]
  rintro e w7 ⟨rfl, hH7, ho7⟩
  simp only at hH7
  have c7 := hH7.cell (i := 9) rfl
  have f7 := hH7.free 9
  go_wp2_with fail
  have G7 : Held (w7.setCell ⟨g, 9, none⟩ (.int .i64 (v7 : Int))) g [(.string (bs l)), (.int .i64 a7), (.int .i64 (b7 : Int)), (.int .u64 (v1 : Int)), (.int .u64 (v2 : Int)), (.int .u64 (v3 : Int)), (.int .u64 (v4 : Int)), (.string (bs v5)), (.int .i64 (v6 : Int)), (.int .i64 (v7 : Int)), (.int .i64 0), (.bool false), (.int .i64 0), (.int .i64 0)] := by simpa using hH7.set 9 (.int .i64 (v7 : Int))
  have O7 := (O6.trans ho7).trans (Only.set g w7 9 (.int .i64 (v7 : Int)))
  generalize w7.setCell ⟨g, 9, none⟩ (.int .i64 (v7 : Int)) = W7 at G7 O7 ⊢
  clear hH7 ho7 c7 f7
  refine (number_any g l a7 b7 _ _ hl G7).mono ?_
  rw [R8.out]
  rintro e w8 ⟨rfl, hH8, ho8⟩
  simp only at hH8
  have c8 := hH8.cell (i := 10) rfl
  have f8 := hH8.free 10
  go_wp2_with fail
  have G8 : Held (w8.setCell ⟨g, 10, none⟩ (.int .i64 (v8 : Int))) g [(.string (bs l)), (.int .i64 a8), (.int .i64 (b8 : Int)), (.int .u64 (v1 : Int)), (.int .u64 (v2 : Int)), (.int .u64 (v3 : Int)), (.int .u64 (v4 : Int)), (.string (bs v5)), (.int .i64 (v6 : Int)), (.int .i64 (v7 : Int)), (.int .i64 (v8 : Int)), (.bool false), (.int .i64 0), (.int .i64 0)] := by simpa using hH8.set 10 (.int .i64 (v8 : Int))
  have O8 := (O7.trans ho8).trans (Only.set g w8 10 (.int .i64 (v8 : Int)))
  generalize w8.setCell ⟨g, 10, none⟩ (.int .i64 (v8 : Int)) = W8 at G8 O8 ⊢
  clear hH8 ho8 c8 f8
  refine (flag_any g l a8 b8 _ _ hl (fun h => Q8.out h) G8).mono ?_
  rw [R9.out]
  rintro e w9 ⟨rfl, hH9, ho9⟩
  simp only at hH9
  have c9 := hH9.cell (i := 11) rfl
  have f9 := hH9.free 11
  go_wp2_with fail
  have G9 : Held (w9.setCell ⟨g, 11, none⟩ (.bool v9)) g [(.string (bs l)), (.int .i64 a9), (.int .i64 (b9 : Int)), (.int .u64 (v1 : Int)), (.int .u64 (v2 : Int)), (.int .u64 (v3 : Int)), (.int .u64 (v4 : Int)), (.string (bs v5)), (.int .i64 (v6 : Int)), (.int .i64 (v7 : Int)), (.int .i64 (v8 : Int)), (.bool v9), (.int .i64 0), (.int .i64 0)] := by simpa using hH9.set 11 (.bool v9)
  have O9 := (O8.trans ho9).trans (Only.set g w9 11 (.bool v9))
  generalize w9.setCell ⟨g, 11, none⟩ (.bool v9) = W9 at G9 O9 ⊢
  clear hH9 ho9 c9 f9
  refine (number_any g l a9 b9 _ _ hl G9).mono ?_
  rw [R10.out]
  rintro e w10 ⟨rfl, hH10, ho10⟩
  simp only at hH10
  have c10 := hH10.cell (i := 12) rfl
  have f10 := hH10.free 12
  go_wp2_with fail
  have G10 : Held (w10.setCell ⟨g, 12, none⟩ (.int .i64 (v10 : Int))) g [(.string (bs l)), (.int .i64 a10), (.int .i64 (b10 : Int)), (.int .u64 (v1 : Int)), (.int .u64 (v2 : Int)), (.int .u64 (v3 : Int)), (.int .u64 (v4 : Int)), (.string (bs v5)), (.int .i64 (v6 : Int)), (.int .i64 (v7 : Int)), (.int .i64 (v8 : Int)), (.bool v9), (.int .i64 (v10 : Int)), (.int .i64 0)] := by simpa using hH10.set 12 (.int .i64 (v10 : Int))
  have O10 := (O9.trans ho10).trans (Only.set g w10 12 (.int .i64 (v10 : Int)))
  generalize w10.setCell ⟨g, 12, none⟩ (.int .i64 (v10 : Int)) = W10 at G10 O10 ⊢
  clear hH10 ho10 c10 f10
  clear G1 G2 G3 G4 G5 G6 G7 G8 G9
  have hB10 := B10
  have hB11 := B11
  have d12 := G10.cell (i := 12) rfl
  have hnum : ∀ w0, Held w0 g [(.string (bs l)), (.int .i64 a10), (.int .i64 (b10 : Int)), (.int .u64 (v1 : Int)), (.int .u64 (v2 : Int)), (.int .u64 (v3 : Int)), (.int .u64 (v4 : Int)), (.string (bs v5)), (.int .i64 (v6 : Int)), (.int .i64 (v7 : Int)), (.int .i64 (v8 : Int)), (.bool v9), (.int .i64 (v10 : Int)), (.int .i64 0)] →
      Calls Tryz.prog 151 #[.pointer (some ⟨g, 0, none⟩)] w0 (Turned g w0 (.int .i64 (v11 : Int)) [(.string (bs l)), (.int .i64 a11), (.int .i64 (b11 : Int)), (.int .u64 (v1 : Int)), (.int .u64 (v2 : Int)), (.int .u64 (v3 : Int)), (.int .u64 (v4 : Int)), (.string (bs v5)), (.int .i64 (v6 : Int)), (.int .i64 (v7 : Int)), (.int .i64 (v8 : Int)), (.bool v9), (.int .i64 (v10 : Int)), (.int .i64 0)]) := by
    intro w0 h0
    have := number_any g l a10 b10 _ _ hl h0
    rw [R11.out] at this
    exact this
  have HN := Lib.hid hnum; clear hnum
  have hsum : IntKind.i64.wrap ((v10 : Int) + (v11 : Int)) = (v10 : Int) + v11 := IntWalk.i64_in _ (by omega)
  go_region_held3 (fun w' => w'.cell? ⟨g, 12, none⟩ = some (.int .i64 (v10 : Int))) (first | go_keep | exact (Held.set hH11 13 _).cell (i := 12) rfl)
    (first | (go_at_call 151; refine (HN.out _ G10.drew).mono ?_; rintro e w11 ⟨rfl, hH11, ho11⟩; have c11 := hH11.cell (i := 13) rfl; have f11 := hH11.free 13; have e12 := hH11.cell (i := 12) rfl))
  have G11 : Held (w11.setCell ⟨g, 13, none⟩ (.int .i64 ((v10 : Int) + v11))) g [(.string (bs l)), (.int .i64 a11), (.int .i64 (b11 : Int)), (.int .u64 (v1 : Int)), (.int .u64 (v2 : Int)), (.int .u64 (v3 : Int)), (.int .u64 (v4 : Int)), (.string (bs v5)), (.int .i64 (v6 : Int)), (.int .i64 (v7 : Int)), (.int .i64 (v8 : Int)), (.bool v9), (.int .i64 (v10 : Int)), (.int .i64 ((v10 : Int) + v11))] := by simpa using hH11.set 13 (.int .i64 ((v10 : Int) + v11))
  have O11 := (((O10.trans (Only.drewN g W10 1)).trans ho11).trans (Only.set g w11 13 (.int .i64 ((v10 : Int) + v11))))
  go_wp2_with fail
  generalize w11.setCell ⟨g, 13, none⟩ (.int .i64 ((v10 : Int) + v11)) = W11 at G11 O11 ⊢
  clear G10 O10
  have q3 := G11.cell (i := 3) rfl
  have q4 := G11.cell (i := 4) rfl
  have q5 := G11.cell (i := 5) rfl
  have q6 := G11.cell (i := 6) rfl
  have q7 := G11.cell (i := 7) rfl
  have q8 := G11.cell (i := 8) rfl
  have q9 := G11.cell (i := 9) rfl
  have q10 := G11.cell (i := 10) rfl
  have q11 := G11.cell (i := 11) rfl
  have q12 := G11.cell (i := 12) rfl
  have q13 := G11.cell (i := 13) rfl
  obtain ⟨cc, hcc⟩ : ∃ c, check ⟨v1, v2, v3, v4, v5, v6, v7, v8, v9, v10, (v10 : Int) + v11⟩ = c := ⟨_, rfl⟩
  have hchk : ∀ w0, Calls Tryz.prog 154 #[.agg #[(.int .u64 (v1 : Int)), (.int .u64 (v2 : Int)), (.int .u64 (v3 : Int)), (.int .u64 (v4 : Int)), (.string (bs v5)), (.int .i64 (v6 : Int)), (.int .i64 (v7 : Int)), (.int .i64 (v8 : Int)), (.bool v9), (.int .i64 (v10 : Int)), (.int .i64 ((v10 : Int) + v11))]] w0 fun e w' => e = .returned (.int .i64 (cc : Int)) ∧ Below w0.heap.size w0 w' := by
    intro w0
    have := check_any ⟨v1, v2, v3, v4, v5, v6, v7, v8, v9, v10, (v10 : Int) + v11⟩ w0 ⟨B1, B2, B3, B4, B5⟩
    rw [hcc] at this
    exact this
  have HCK := Lib.hid hchk
  have HCC := Lib.hid hcc
  clear hchk hcc
  go_region_held3 (fun w' => w'.cell? ⟨g, 3, none⟩ = some (.int .u64 (v1 : Int)) ∧ w'.cell? ⟨g, 4, none⟩ = some (.int .u64 (v2 : Int)) ∧ w'.cell? ⟨g, 5, none⟩ = some (.int .u64 (v3 : Int)) ∧ w'.cell? ⟨g, 6, none⟩ = some (.int .u64 (v4 : Int)) ∧ w'.cell? ⟨g, 7, none⟩ = some (.string (bs v5)) ∧ w'.cell? ⟨g, 8, none⟩ = some (.int .i64 (v6 : Int)) ∧ w'.cell? ⟨g, 9, none⟩ = some (.int .i64 (v7 : Int)) ∧ w'.cell? ⟨g, 10, none⟩ = some (.int .i64 (v8 : Int)) ∧ w'.cell? ⟨g, 11, none⟩ = some (.bool v9) ∧ w'.cell? ⟨g, 12, none⟩ = some (.int .i64 (v10 : Int)) ∧ w'.cell? ⟨g, 13, none⟩ = some (.int .i64 ((v10 : Int) + v11))) (first | go_keep | (and_intros <;> exact (Held.kept (Held.drew G11) hb12).cell rfl) | (and_intros <;> exact hH13.cell rfl))
    (first
      | (go_at_call 154; refine (HCK.out _).mono ?_; rintro e w12 ⟨rfl, hb12⟩)
      | (go_at_call 153; refine (fail_any g _ _ b11 cc _ rfl _ _ (G11.drew.kept hb12)).mono ?_; rintro e w13 ⟨rfl, hH13, ho13⟩))
  go_end0
  exact ⟨rfl, by rw [HR.out, HCC.out]; exact hH13, (((O11.trans (Only.drewN g W11 1)).trans (Only.of_below hb12)).trans ho13)⟩

end Go.Proofs.YtfbhdkkmcfnghaaGreat
end
