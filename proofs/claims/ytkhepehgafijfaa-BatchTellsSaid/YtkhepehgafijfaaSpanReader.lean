/- Walks of spanrec's reader. Condition: what the reader holds is of a text no longer than an int can say. -/
import Derived.Test.YtkhepehgafijfaaSpanSpec
import Derived.Test.YtkhepehgafijfaaOctet
import Derived.Test.YtkhepehgafijfaaVarintTake
namespace Go.Proofs.Ytkhepehgafijfaa
open Go.RowKit

/-- What a function leaves that answers a value and turns a reader: block g. -/
def Turned (g : Nat) (w : World) (v : Value) (cs : List Value) (e : Ending) (w' : World) : Prop := e = .returned v ∧ Held w' g cs ∧ Only g w w'

def rdFixed (l : List UInt8) (a : Int) (b : Nat) : Nat × Int × Nat := if b = 0 then ((Oc.get8 l a.toNat).1, wrap64 (a + 8), (Oc.get8 l a.toNat).2) else (0, a, b)

set_option maxHeartbeats 400000 in
set_option maxRecDepth 100000 in
theorem fail_any (g : Nat) (c0 c1 : Value) (b x : Nat) (y : Int) (hy : y = x) (rest : List Value) (w : World) (hH : Held w g (c0 :: c1 :: .int .i64 (b : Int) :: rest)) :
    Calls Try.prog 78 #[.pointer (some ⟨g, 0, none⟩), .int .i64 y] w (Turned g w (.tuple #[]) (c0 :: c1 :: .int .i64 ((if b = 0 then x else b : Nat) : Int) :: rest)) := by
  subst hy
  have h2 := hH.cell (i := 2) rfl
  have hf := hH.free 2
  by_cases hb : b = 0
  · subst hb
    go_enter Try.func78, Try.ntmps78
    go_wp2_with fail
    go_end0
    exact ⟨rfl, by simpa using hH.set 2 (.int .i64 (x : Int)), Only.set _ _ _ _⟩
  · have hbn : (((b : Nat) : Int) == 0) = false := by simp; omega
    go_enter Try.func78, Try.ntmps78
    go_wp2_with fail
    go_end0
    exact ⟨rfl, by simpa [hb] using hH, Only.refl _ _⟩

set_option maxHeartbeats 400000 in
set_option maxRecDepth 100000 in
theorem fixed_any (g : Nat) (l : List UInt8) (a : Int) (b : Nat) (rest : List Value) (w : World) (hl : l.length ≤ 9223372036854775807) (hp : b = 0 → 0 ≤ a ∧ a ≤ 9223372036854775807)
    (hH : Held w g (.string (bs l) :: .int .i64 a :: .int .i64 (b : Int) :: rest)) :
    Calls Try.prog 74 #[.pointer (some ⟨g, 0, none⟩)] w (Turned g w (.int .u64 ((rdFixed l a b).1 : Int)) (.string (bs l) :: .int .i64 (rdFixed l a b).2.1 :: .int .i64 ((rdFixed l a b).2.2 : Int) :: rest)) := by
  have h0 := hH.cell (i := 0) rfl
  have h1 := hH.cell (i := 1) rfl
  have h2 := hH.cell (i := 2) rfl
  by_cases hb : b = 0
  · subst hb
    obtain ⟨ha, ha2⟩ := hp rfl
    obtain ⟨k, rfl⟩ := Int.eq_ofNat_of_zero_le ha
    clear hp ha
    go_enter Try.func74, Try.ntmps74
    go_wp2_with fail
    go_quiet ((go_at_call 80; exact Calls.quiet_of_same (octGet8_any l _ k rfl _ hl (by omega))))
    go_wp2_with fail
    refine (fail_any g _ _ 0 _ _ rfl rest _ (hH.drewN nq)).mono ?_
    rintro e w2 ⟨rfl, hH2, ho2⟩
    simp only [if_true] at hH2
    have g1 := hH2.cell (i := 1) rfl
    have gf := hH2.free 1
    go_wp2_with fail
    go_ret
    exact ⟨rfl, by simpa [rdFixed] using hH2.set 1 _, ((Only.drewN _ _ _).trans ho2).trans (Only.set _ _ _ _)⟩
  · have hbn : (((b : Nat) : Int) != 0) = true := by simp; omega
    go_enter Try.func74, Try.ntmps74
    go_wp2_with fail
    go_ret
    exact ⟨by simp [rdFixed, hb], by simpa [rdFixed, hb] using hH, Only.refl _ _⟩

def rdNum (l : List UInt8) (a : Int) (b : Nat) : Nat × Int × Nat :=
  if b = 0 then (min (Vr.get l a).1 1099511627776, (Vr.get l a).2.1, if (Vr.get l a).2.2 = 0 ∧ 1099511627776 < (Vr.get l a).1 then 12 else (Vr.get l a).2.2) else (0, a, b)

set_option maxHeartbeats 400000 in
set_option maxRecDepth 100000 in
theorem number_any (g : Nat) (l : List UInt8) (a : Int) (b : Nat) (rest : List Value) (w : World) (hl : l.length ≤ 9223372036854775807)
    (hH : Held w g (.string (bs l) :: .int .i64 a :: .int .i64 (b : Int) :: rest)) :
    Calls Try.prog 76 #[.pointer (some ⟨g, 0, none⟩)] w (Turned g w (.int .i64 ((rdNum l a b).1 : Int)) (.string (bs l) :: .int .i64 (rdNum l a b).2.1 :: .int .i64 ((rdNum l a b).2.2 : Int) :: rest)) := by
  have h0 := hH.cell (i := 0) rfl
  have h1 := hH.cell (i := 1) rfl
  have h2 := hH.cell (i := 2) rfl
  by_cases hb : b = 0
  · subst hb
    obtain ⟨n, nx, e0, hg⟩ : ∃ n nx e0, Vr.get l a = (n, nx, e0) := ⟨_, _, _, rfl⟩
    have HG : Hid (rdNum l a 0 = (min n 1099511627776, nx, if e0 = 0 ∧ 1099511627776 < n then 12 else e0)) := Lib.hid (by simp [rdNum, hg])
    have hget : ∀ w0, Calls Try.prog 56 #[.string (bs l), .int .i64 a] w0 fun e w' => e = .returned (.tuple #[.int .u64 n, .int .i64 nx, .int .i64 e0]) ∧ w' = w0 := fun w0 => by
      have := get_any l a w0 hl
      rw [hg] at this
      exact this
    have hn64 : n < 18446744073709551616 := by
      by_cases h0 : e0 = 0
      · subst h0; exact (Vr.get_ok hg).choose_spec.choose_spec.2.2.2.2.2.2.2
      · have := (Vr.get_err (l := l) (x := a) (by rw [hg]; exact h0)).1
        rw [hg] at this
        simp at this; omega
    have HZ : e0 ≠ 0 → n = 0 := fun h => by
      have := (Vr.get_err (l := l) (x := a) (by rw [hg]; exact h)).1
      rw [hg] at this
      exact this
    have HGet := Lib.hid hget
    clear hget hg
    by_cases he : e0 = 0
    · subst he
      by_cases hm : 1099511627776 < n
      · have hmin : min n 1099511627776 = 1099511627776 := by omega
        have HM := Lib.hid hmin; clear hmin
        go_enter Try.func76, Try.ntmps76
        go_wp2_with fail
        go_quiet ((go_at_call 56; exact Calls.quiet_of_same (HGet.out _)))
        go_wp2_with fail
        refine (fail_any g _ _ 0 12 _ rfl rest _ (hH.drewN nq)).mono ?_
        rintro e w2 ⟨rfl, hH2, ho2⟩
        simp only [if_true] at hH2
        have g1 := hH2.cell (i := 1) rfl
        have gf := hH2.free 1
        go_wp2_with fail
        go_ret
        exact ⟨by rw [HG.out]; simp [HM.out], by rw [HG.out]; simpa [hm] using hH2.set 1 _, ((Only.drewN _ _ _).trans ho2).trans (Only.set _ _ _ _)⟩
      · have hmin : min n 1099511627776 = n := by omega
        have HM := Lib.hid hmin; clear hmin
        go_enter Try.func76, Try.ntmps76
        go_wp2_with fail
        go_quiet ((go_at_call 56; exact Calls.quiet_of_same (HGet.out _)))
        go_wp2_with fail
        refine (fail_any g _ _ 0 0 _ rfl rest _ (hH.drewN nq)).mono ?_
        rintro e w2 ⟨rfl, hH2, ho2⟩
        simp only [if_true] at hH2
        have g1 := hH2.cell (i := 1) rfl
        have gf := hH2.free 1
        go_wp2_with fail
        go_ret
        exact ⟨by rw [HG.out]; simp [HM.out], by rw [HG.out]; simpa [hm] using hH2.set 1 _, ((Only.drewN _ _ _).trans ho2).trans (Only.set _ _ _ _)⟩
    · have hen : (((e0 : Nat) : Int) == 0) = false := by simp; omega
      have hn0 : n = 0 := HZ he
      subst hn0
      go_enter Try.func76, Try.ntmps76
      go_wp2_with fail
      go_quiet ((go_at_call 56; exact Calls.quiet_of_same (HGet.out _)))
      go_wp2_with fail
      refine (fail_any g _ _ 0 e0 _ rfl rest _ (hH.drewN nq)).mono ?_
      rintro e w2 ⟨rfl, hH2, ho2⟩
      simp only [if_true] at hH2
      have g1 := hH2.cell (i := 1) rfl
      have gf := hH2.free 1
      go_wp2_with fail
      go_ret
      exact ⟨by rw [HG.out]; simp, by rw [HG.out]; simpa [he] using hH2.set 1 _, ((Only.drewN _ _ _).trans ho2).trans (Only.set _ _ _ _)⟩
  · have hbn : (((b : Nat) : Int) != 0) = true := by simp; omega
    go_enter Try.func76, Try.ntmps76
    go_wp2_with fail
    go_ret
    exact ⟨by simp [rdNum, hb], by simpa [rdNum, hb] using hH, Only.refl _ _⟩

def rdText (l : List UInt8) (a : Int) (b : Nat) : List UInt8 × Int × Nat := if b = 0 then Vr.take l a 32 else ([], a, b)

set_option maxHeartbeats 400000 in
set_option maxRecDepth 100000 in
theorem rtext_any (g : Nat) (l : List UInt8) (a : Int) (b : Nat) (rest : List Value) (w : World) (hl : l.length ≤ 9223372036854775807) (hp : b = 0 → 0 ≤ a ∧ a ≤ 9223372036854775807)
    (hH : Held w g (.string (bs l) :: .int .i64 a :: .int .i64 (b : Int) :: rest)) :
    Calls Try.prog 75 #[.pointer (some ⟨g, 0, none⟩)] w (Turned g w (.string (bs (rdText l a b).1)) (.string (bs l) :: .int .i64 (rdText l a b).2.1 :: .int .i64 ((rdText l a b).2.2 : Int) :: rest)) := by
  have h0 := hH.cell (i := 0) rfl
  have h1 := hH.cell (i := 1) rfl
  have h2 := hH.cell (i := 2) rfl
  by_cases hb : b = 0
  · subst hb
    obtain ⟨t, nx, e0, hg⟩ : ∃ n nx e0, Vr.take l a 32 = (n, nx, e0) := ⟨_, _, _, rfl⟩
    have HG : Hid (rdText l a 0 = (t, nx, e0)) := Lib.hid (by simp [rdText, hg])
    have hget : ∀ w0, Calls Try.prog 81 #[.string (bs l), .int .i64 a, .int .i64 32] w0 fun e w' => e = .returned (.tuple #[.string (bs t), .int .i64 nx, .int .i64 e0]) ∧ w' = w0 := fun w0 => by
      have := take_any l a 32 w0 hl (hp rfl).2 (by omega)
      rw [hg] at this
      exact this
    have HGet := Lib.hid hget
    clear hget hg
    go_enter Try.func75, Try.ntmps75
    go_wp2_with fail
    go_quiet ((go_at_call 81; exact Calls.quiet_of_same (HGet.out _)))
    go_wp2_with fail
    refine (fail_any g _ _ 0 _ _ rfl rest _ (hH.drewN nq)).mono ?_
    rintro e w2 ⟨rfl, hH2, ho2⟩
    simp only [if_true] at hH2
    have g1 := hH2.cell (i := 1) rfl
    have gf := hH2.free 1
    go_wp2_with fail
    go_ret
    exact ⟨by rw [HG.out]; rfl, by rw [HG.out]; simpa using hH2.set 1 _, ((Only.drewN _ _ _).trans ho2).trans (Only.set _ _ _ _)⟩
  · have hbn : (((b : Nat) : Int) != 0) = true := by simp; omega
    go_enter Try.func75, Try.ntmps75
    go_wp2_with fail
    go_ret
    exact ⟨by simp [rdText, hb]; rfl, by simpa [rdText, hb] using hH, Only.refl _ _⟩

def rdFlag (l : List UInt8) (a : Int) (b : Nat) : Bool × Int × Nat :=
  if b = 0 then (if (l.length : Int) ≤ a then (false, a, 5) else if 1 < (l.getD a.toNat 0).toNat then (false, a, 3) else (((l.getD a.toNat 0).toNat : Int) == 1, a + 1, 0)) else (false, a, b)

set_option maxHeartbeats 800000 in
set_option maxRecDepth 100000 in
theorem flag_any (g : Nat) (l : List UInt8) (a : Int) (b : Nat) (rest : List Value) (w : World) (hl : l.length ≤ 9223372036854775807) (hp : b = 0 → 0 ≤ a ∧ a ≤ 9223372036854775807)
    (hH : Held w g (.string (bs l) :: .int .i64 a :: .int .i64 (b : Int) :: rest)) :
    Calls Try.prog 77 #[.pointer (some ⟨g, 0, none⟩)] w (Turned g w (.bool (rdFlag l a b).1) (.string (bs l) :: .int .i64 (rdFlag l a b).2.1 :: .int .i64 ((rdFlag l a b).2.2 : Int) :: rest)) := by
  have h0 := hH.cell (i := 0) rfl
  have h1 := hH.cell (i := 1) rfl
  have h2 := hH.cell (i := 2) rfl
  by_cases hb : b = 0
  · subst hb
    obtain ⟨ha, ha2⟩ := hp rfl
    obtain ⟨k, rfl⟩ := Int.eq_ofNat_of_zero_le ha
    clear hp ha
    by_cases hk : l.length ≤ k
    · have HG : Hid (rdFlag l k 0 = (false, (k : Int), 5)) := Lib.hid (by simp [rdFlag, hk])
      go_enter Try.func77, Try.ntmps77
      go_wp2_with fail
      go_quiet (fail)
      go_wp2_with fail
      refine (fail_any g _ _ 0 5 _ rfl rest _ (hH.drewN nq)).mono ?_
      rintro e w2 ⟨rfl, hH2, ho2⟩
      simp only [if_true] at hH2
      go_wp2_with fail
      go_ret
      exact ⟨by rw [HG.out]; rfl, by rw [HG.out]; exact hH2, (Only.drewN _ _ _).trans ho2⟩
    · have hgd : l.getD k 0 = l[k] := by simp [List.getD, List.getElem?_eq_getElem (show k < l.length by omega)]
      have hki : (k : Int) < (l.length : Int) := by omega
      have hkn : k < l.length := by omega
      by_cases h1b : 1 < l[k].toNat
      · have HG : Hid (rdFlag l k 0 = (false, (k : Int), 3)) := Lib.hid (by simp only [rdFlag, if_true]; rw [if_neg (by omega), show ((k : Int)).toNat = k from rfl, hgd, if_pos h1b])
        clear hgd
        go_enter Try.func77, Try.ntmps77
        go_wp2_with fail
        go_quiet (fail)
        go_wp2_with fail
        go_quiet (fail)
        go_wp2_with fail
        refine (fail_any g _ _ 0 3 _ rfl rest _ (hH.drewN _)).mono ?_
        rintro e w2 ⟨rfl, hH2, ho2⟩
        simp only [if_true] at hH2
        go_wp2_with fail
        go_ret
        exact ⟨by rw [HG.out]; rfl, by rw [HG.out]; exact hH2, (Only.drewN _ _ _).trans ho2⟩
      · have HG : Hid (rdFlag l k 0 = ((l[k].toNat : Int) == 1, (k : Int) + 1, 0)) := Lib.hid (by simp only [rdFlag, if_true]; rw [if_neg (by omega), show ((k : Int)).toNat = k from rfl, hgd, if_neg h1b])
        clear hgd
        go_enter Try.func77, Try.ntmps77
        go_wp2_with fail
        go_quiet (fail)
        revert nq
        intro n1
        go_wp2_with fail
        go_quiet (fail)
        revert nq
        intro n2
        have hf1 := hH.free 1
        go_wp2_with fail
        have G3 : Held ((w.drewN (n1 + n2)).setCell ⟨g, 1, none⟩ (.int .i64 ((k : Int) + 1))) g (.string (bs l) :: .int .i64 ((k : Int) + 1) :: .int .i64 ((0 : Nat) : Int) :: rest) := by simpa using (hH.drewN (n1 + n2)).set 1 (.int .i64 ((k : Int) + 1))
        have e0 := G3.cell (i := 0) rfl
        have e1 := G3.cell (i := 1) rfl
        have hs : (k : Int) + 1 - 1 = k := by omega
        have O3 : Only g w ((w.drewN (n1 + n2)).setCell ⟨g, 1, none⟩ (.int .i64 ((k : Int) + 1))) := (Only.drewN _ _ _).trans (Only.set _ _ _ _)
        generalize (w.drewN (n1 + n2)).setCell ⟨g, 1, none⟩ (.int .i64 ((k : Int) + 1)) = W3 at G3 e0 e1 O3 ⊢
        go_quiet (fail)
        go_wp2_with fail
        go_ret
        exact ⟨by rw [HG.out]; rfl, by rw [HG.out]; exact G3.drewN _, O3.trans (Only.drewN _ _ _)⟩
  · have hbn : (((b : Nat) : Int) != 0) = true := by simp; omega
    go_enter Try.func77, Try.ntmps77
    go_wp2_with fail
    go_ret
    exact ⟨by simp [rdFlag, hb], by simpa [rdFlag, hb] using hH, Only.refl _ _⟩
end Go.Proofs.Ytkhepehgafijfaa
