/- Walks of spanrec.Check and of the reference's. Condition: a span's fields fit their types. -/
import Derived.Test.YtkhepehgafijfaaHeadName
import Derived.Test.YtkhepehgafijfaaIdsZero
namespace Go.Proofs.Ytkhepehgafijfaa
open Go.RowKit

/-- A span. -/
structure Sp where
  (hi lo id up : Nat)
  name : List UInt8
  (st sq kd : Int)
  sh : Bool
  (t0 t1 : Int)

def Sp.val (s : Sp) : Value := (.agg #[.int .u64 (s.hi : Int), .int .u64 (s.lo : Int), .int .u64 (s.id : Int), .int .u64 (s.up : Int), .string (bs s.name), .int .i64 s.st, .int .i64 s.sq, .int .i64 s.kd, .bool s.sh, .int .i64 s.t0, .int .i64 s.t1])
/-- Its fields fit. -/
structure Sp.fits (s : Sp) : Prop where
  hi : s.hi < 18446744073709551616
  lo : s.lo < 18446744073709551616
  id : s.id < 18446744073709551616
  up : s.up < 18446744073709551616
  name : s.name.length ≤ 9223372036854775807

def wi (n a b : Int) : Bool := decide (a ≤ n) && decide (n ≤ b)

def check (s : Sp) : Nat :=
  if zer s.hi s.lo = true then 11 else if s.id = 0 then 11 else if nameOk s.name = false then 7
  else if wi s.st 0 599 = false then 12 else if wi s.sq 0 63 = false then 12 else if wi s.kd 0 64 = false then 12
  else if wi s.t0 0 1099511627776 = false then 12 else if wi s.t1 s.t0 1099511627776 = false then 12 else 0

set_option maxHeartbeats 400000 in
set_option maxRecDepth 100000 in
theorem within_any (n a b : Int) (w : World) : Calls Try.prog 51 #[.int .i64 n, .int .i64 a, .int .i64 b] w fun e w' => e = .returned (.bool (wi n a b)) ∧ w' = w := by
  by_cases h : a ≤ n
  · go_enter Try.func51, Try.ntmps51
    go_wp2_with fail
    go_ret
    exact ⟨by simp [wi, h], rfl⟩
  · have hd : decide (a ≤ n) = false := by simp [h]
    go_enter Try.func51, Try.ntmps51
    go_wp2_with fail
    go_ret
    exact ⟨by simp [wi, hd], rfl⟩

set_option maxHeartbeats 2000000 in
set_option maxRecDepth 100000 in
theorem check_any (s : Sp) (w : World) (hs : s.fits) : Calls Try.prog 30 #[s.val] w fun e w' => e = .returned (.int .i64 (check s)) ∧ Below w.heap.size w w' := by
  obtain ⟨hi, lo, id, up, name, st, sq, kd, sh, t0, t1⟩ := s
  obtain ⟨h1, h2, h3, h4, h5⟩ := hs
  simp only [Sp.val] at *
  rcases Bool.eq_false_or_eq_true (zer hi lo) with k0 | k0
  · go_enter Try.func30, Try.ntmps30
    go_wp2_with (first
      | (go_at_call 49; refine (zero_any hi lo _ h1 h2).mono ?_; rintro e w1 ⟨rfl, hb1⟩; obtain ⟨hc1, hf1⟩ := bcell hb1)
      | (go_at_call 50; refine (name_any name _ h5).mono ?_; rintro e w' ⟨rfl, rfl⟩)
      | (go_at_call 51; refine (within_any _ _ _ _).mono ?_; rintro e w' ⟨rfl, rfl⟩))
    go_ret
    exact ⟨by simp [check, *], ((Below.refl _ _).alloc (Nat.le_refl _) _).trans (hb1.mono (by simp))⟩
  by_cases k1 : id = 0
  · go_enter Try.func30, Try.ntmps30
    go_wp2_with (first
      | (go_at_call 49; refine (zero_any hi lo _ h1 h2).mono ?_; rintro e w1 ⟨rfl, hb1⟩; obtain ⟨hc1, hf1⟩ := bcell hb1)
      | (go_at_call 50; refine (name_any name _ h5).mono ?_; rintro e w' ⟨rfl, rfl⟩)
      | (go_at_call 51; refine (within_any _ _ _ _).mono ?_; rintro e w' ⟨rfl, rfl⟩))
    go_ret
    exact ⟨by simp [check, *], ((Below.refl _ _).alloc (Nat.le_refl _) _).trans (hb1.mono (by simp))⟩
  rcases Bool.eq_false_or_eq_true (nameOk name) with k2 | k2
  rotate_left
  · go_enter Try.func30, Try.ntmps30
    go_wp2_with (first
      | (go_at_call 49; refine (zero_any hi lo _ h1 h2).mono ?_; rintro e w1 ⟨rfl, hb1⟩; obtain ⟨hc1, hf1⟩ := bcell hb1)
      | (go_at_call 50; refine (name_any name _ h5).mono ?_; rintro e w' ⟨rfl, rfl⟩)
      | (go_at_call 51; refine (within_any _ _ _ _).mono ?_; rintro e w' ⟨rfl, rfl⟩))
    go_ret
    exact ⟨by simp [check, *], ((Below.refl _ _).alloc (Nat.le_refl _) _).trans (hb1.mono (by simp))⟩
  rcases Bool.eq_false_or_eq_true (wi st 0 599) with k3 | k3
  rotate_left
  · go_enter Try.func30, Try.ntmps30
    go_wp2_with (first
      | (go_at_call 49; refine (zero_any hi lo _ h1 h2).mono ?_; rintro e w1 ⟨rfl, hb1⟩; obtain ⟨hc1, hf1⟩ := bcell hb1)
      | (go_at_call 50; refine (name_any name _ h5).mono ?_; rintro e w' ⟨rfl, rfl⟩)
      | (go_at_call 51; refine (within_any _ _ _ _).mono ?_; rintro e w' ⟨rfl, rfl⟩))
    go_ret
    exact ⟨by simp [check, *], ((Below.refl _ _).alloc (Nat.le_refl _) _).trans (hb1.mono (by simp))⟩
  rcases Bool.eq_false_or_eq_true (wi sq 0 63) with k4 | k4
  rotate_left
  · go_enter Try.func30, Try.ntmps30
    go_wp2_with (first
      | (go_at_call 49; refine (zero_any hi lo _ h1 h2).mono ?_; rintro e w1 ⟨rfl, hb1⟩; obtain ⟨hc1, hf1⟩ := bcell hb1)
      | (go_at_call 50; refine (name_any name _ h5).mono ?_; rintro e w' ⟨rfl, rfl⟩)
      | (go_at_call 51; refine (within_any _ _ _ _).mono ?_; rintro e w' ⟨rfl, rfl⟩))
    go_ret
    exact ⟨by simp [check, *], ((Below.refl _ _).alloc (Nat.le_refl _) _).trans (hb1.mono (by simp))⟩
  rcases Bool.eq_false_or_eq_true (wi kd 0 64) with k5 | k5
  rotate_left
  · go_enter Try.func30, Try.ntmps30
    go_wp2_with (first
      | (go_at_call 49; refine (zero_any hi lo _ h1 h2).mono ?_; rintro e w1 ⟨rfl, hb1⟩; obtain ⟨hc1, hf1⟩ := bcell hb1)
      | (go_at_call 50; refine (name_any name _ h5).mono ?_; rintro e w' ⟨rfl, rfl⟩)
      | (go_at_call 51; refine (within_any _ _ _ _).mono ?_; rintro e w' ⟨rfl, rfl⟩))
    go_ret
    exact ⟨by simp [check, *], ((Below.refl _ _).alloc (Nat.le_refl _) _).trans (hb1.mono (by simp))⟩
  rcases Bool.eq_false_or_eq_true (wi t0 0 1099511627776) with k6 | k6
  rotate_left
  · go_enter Try.func30, Try.ntmps30
    go_wp2_with (first
      | (go_at_call 49; refine (zero_any hi lo _ h1 h2).mono ?_; rintro e w1 ⟨rfl, hb1⟩; obtain ⟨hc1, hf1⟩ := bcell hb1)
      | (go_at_call 50; refine (name_any name _ h5).mono ?_; rintro e w' ⟨rfl, rfl⟩)
      | (go_at_call 51; refine (within_any _ _ _ _).mono ?_; rintro e w' ⟨rfl, rfl⟩))
    go_ret
    exact ⟨by simp [check, *], ((Below.refl _ _).alloc (Nat.le_refl _) _).trans (hb1.mono (by simp))⟩
  rcases Bool.eq_false_or_eq_true (wi t1 t0 1099511627776) with k7 | k7
  rotate_left
  · go_enter Try.func30, Try.ntmps30
    go_wp2_with (first
      | (go_at_call 49; refine (zero_any hi lo _ h1 h2).mono ?_; rintro e w1 ⟨rfl, hb1⟩; obtain ⟨hc1, hf1⟩ := bcell hb1)
      | (go_at_call 50; refine (name_any name _ h5).mono ?_; rintro e w' ⟨rfl, rfl⟩)
      | (go_at_call 51; refine (within_any _ _ _ _).mono ?_; rintro e w' ⟨rfl, rfl⟩))
    go_ret
    exact ⟨by simp [check, *], ((Below.refl _ _).alloc (Nat.le_refl _) _).trans (hb1.mono (by simp))⟩
  go_enter Try.func30, Try.ntmps30
  go_wp2_with (first
    | (go_at_call 49; refine (zero_any hi lo _ h1 h2).mono ?_; rintro e w1 ⟨rfl, hb1⟩; obtain ⟨hc1, hf1⟩ := bcell hb1)
    | (go_at_call 50; refine (name_any name _ h5).mono ?_; rintro e w' ⟨rfl, rfl⟩)
    | (go_at_call 51; refine (within_any _ _ _ _).mono ?_; rintro e w' ⟨rfl, rfl⟩))
  go_ret
  exact ⟨by simp [check, *], ((Below.refl _ _).alloc (Nat.le_refl _) _).trans (hb1.mono (by simp))⟩


set_option maxHeartbeats 4000000 in
set_option maxRecDepth 100000 in
theorem refCheck_any (s : Sp) (w : World) (hs : s.fits) : Calls Try.prog 31 #[s.val] w fun e w' => e = .returned (.int .i64 (check s)) ∧ Below w.heap.size w w' := by
  obtain ⟨hi, lo, id, up, name, st, sq, kd, sh, t0, t1⟩ := s
  obtain ⟨-, -, -, -, h5⟩ := hs
  simp only [Sp.val] at *
  rcases Bool.eq_false_or_eq_true (zer hi lo) with k0 | k0
  · go_enter Try.func31, Try.ntmps31
    go_wp2_with (first
      | (go_at_call 52; refine (refZero_any hi lo _).mono ?_; rintro e w1 ⟨rfl, hb1⟩; obtain ⟨hc1, hf1⟩ := bcell hb1)
      | (go_at_call 53; refine (refName_any name _ h5).mono ?_; rintro e w' ⟨rfl, rfl⟩))
    go_ret
    exact ⟨by simp [check, *], ((Below.refl _ _).alloc (Nat.le_refl _) _).trans (hb1.mono (by simp))⟩
  by_cases k1 : id = 0
  · go_enter Try.func31, Try.ntmps31
    go_wp2_with (first
      | (go_at_call 52; refine (refZero_any hi lo _).mono ?_; rintro e w1 ⟨rfl, hb1⟩; obtain ⟨hc1, hf1⟩ := bcell hb1)
      | (go_at_call 53; refine (refName_any name _ h5).mono ?_; rintro e w' ⟨rfl, rfl⟩))
    go_ret
    exact ⟨by simp [check, *], ((Below.refl _ _).alloc (Nat.le_refl _) _).trans (hb1.mono (by simp))⟩
  rcases Bool.eq_false_or_eq_true (nameOk name) with k2 | k2
  rotate_left
  · go_enter Try.func31, Try.ntmps31
    go_wp2_with (first
      | (go_at_call 52; refine (refZero_any hi lo _).mono ?_; rintro e w1 ⟨rfl, hb1⟩; obtain ⟨hc1, hf1⟩ := bcell hb1)
      | (go_at_call 53; refine (refName_any name _ h5).mono ?_; rintro e w' ⟨rfl, rfl⟩))
    go_ret
    exact ⟨by simp [check, *], ((Below.refl _ _).alloc (Nat.le_refl _) _).trans (hb1.mono (by simp))⟩
  by_cases k3 : st < 0
  · have est : wi st 0 599 = false := by simp [wi]; omega
    go_enter Try.func31, Try.ntmps31
    go_wp2_with (first
      | (go_at_call 52; refine (refZero_any hi lo _).mono ?_; rintro e w1 ⟨rfl, hb1⟩; obtain ⟨hc1, hf1⟩ := bcell hb1)
      | (go_at_call 53; refine (refName_any name _ h5).mono ?_; rintro e w' ⟨rfl, rfl⟩))
    go_ret
    exact ⟨by simp [check, *], ((Below.refl _ _).alloc (Nat.le_refl _) _).trans (hb1.mono (by simp))⟩
  have dsta : decide (st < 0) = false := by simpa using k3
  by_cases k4 : 599 < st
  · have est : wi st 0 599 = false := by simp [wi]; omega
    go_enter Try.func31, Try.ntmps31
    go_wp2_with (first
      | (go_at_call 52; refine (refZero_any hi lo _).mono ?_; rintro e w1 ⟨rfl, hb1⟩; obtain ⟨hc1, hf1⟩ := bcell hb1)
      | (go_at_call 53; refine (refName_any name _ h5).mono ?_; rintro e w' ⟨rfl, rfl⟩))
    go_ret
    exact ⟨by simp [check, *], ((Below.refl _ _).alloc (Nat.le_refl _) _).trans (hb1.mono (by simp))⟩
  have dstb : decide (599 < st) = false := by simpa using k4
  have est : wi st 0 599 = true := by simp [wi]; omega
  by_cases k5 : sq < 0
  · have esq : wi sq 0 63 = false := by simp [wi]; omega
    go_enter Try.func31, Try.ntmps31
    go_wp2_with (first
      | (go_at_call 52; refine (refZero_any hi lo _).mono ?_; rintro e w1 ⟨rfl, hb1⟩; obtain ⟨hc1, hf1⟩ := bcell hb1)
      | (go_at_call 53; refine (refName_any name _ h5).mono ?_; rintro e w' ⟨rfl, rfl⟩))
    go_ret
    exact ⟨by simp [check, *], ((Below.refl _ _).alloc (Nat.le_refl _) _).trans (hb1.mono (by simp))⟩
  have dsqa : decide (sq < 0) = false := by simpa using k5
  by_cases k6 : 64 ≤ sq
  · have esq : wi sq 0 63 = false := by simp [wi]; omega
    go_enter Try.func31, Try.ntmps31
    go_wp2_with (first
      | (go_at_call 52; refine (refZero_any hi lo _).mono ?_; rintro e w1 ⟨rfl, hb1⟩; obtain ⟨hc1, hf1⟩ := bcell hb1)
      | (go_at_call 53; refine (refName_any name _ h5).mono ?_; rintro e w' ⟨rfl, rfl⟩))
    go_ret
    exact ⟨by simp [check, *], ((Below.refl _ _).alloc (Nat.le_refl _) _).trans (hb1.mono (by simp))⟩
  have dsqb : decide (64 ≤ sq) = false := by simpa using k6
  have esq : wi sq 0 63 = true := by simp [wi]; omega
  by_cases k7 : kd < 0
  · have ekd : wi kd 0 64 = false := by simp [wi]; omega
    go_enter Try.func31, Try.ntmps31
    go_wp2_with (first
      | (go_at_call 52; refine (refZero_any hi lo _).mono ?_; rintro e w1 ⟨rfl, hb1⟩; obtain ⟨hc1, hf1⟩ := bcell hb1)
      | (go_at_call 53; refine (refName_any name _ h5).mono ?_; rintro e w' ⟨rfl, rfl⟩))
    go_ret
    exact ⟨by simp [check, *], ((Below.refl _ _).alloc (Nat.le_refl _) _).trans (hb1.mono (by simp))⟩
  have dkda : decide (kd < 0) = false := by simpa using k7
  by_cases k8 : 64 < kd
  · have ekd : wi kd 0 64 = false := by simp [wi]; omega
    go_enter Try.func31, Try.ntmps31
    go_wp2_with (first
      | (go_at_call 52; refine (refZero_any hi lo _).mono ?_; rintro e w1 ⟨rfl, hb1⟩; obtain ⟨hc1, hf1⟩ := bcell hb1)
      | (go_at_call 53; refine (refName_any name _ h5).mono ?_; rintro e w' ⟨rfl, rfl⟩))
    go_ret
    exact ⟨by simp [check, *], ((Below.refl _ _).alloc (Nat.le_refl _) _).trans (hb1.mono (by simp))⟩
  have dkdb : decide (64 < kd) = false := by simpa using k8
  have ekd : wi kd 0 64 = true := by simp [wi]; omega
  by_cases k9 : t0 < 0
  · have et0 : wi t0 0 1099511627776 = false := by simp [wi]; omega
    go_enter Try.func31, Try.ntmps31
    go_wp2_with (first
      | (go_at_call 52; refine (refZero_any hi lo _).mono ?_; rintro e w1 ⟨rfl, hb1⟩; obtain ⟨hc1, hf1⟩ := bcell hb1)
      | (go_at_call 53; refine (refName_any name _ h5).mono ?_; rintro e w' ⟨rfl, rfl⟩))
    go_ret
    exact ⟨by simp [check, *], ((Below.refl _ _).alloc (Nat.le_refl _) _).trans (hb1.mono (by simp))⟩
  have dt0a : decide (t0 < 0) = false := by simpa using k9
  by_cases k10 : 1099511627776 < t0
  · have et0 : wi t0 0 1099511627776 = false := by simp [wi]; omega
    go_enter Try.func31, Try.ntmps31
    go_wp2_with (first
      | (go_at_call 52; refine (refZero_any hi lo _).mono ?_; rintro e w1 ⟨rfl, hb1⟩; obtain ⟨hc1, hf1⟩ := bcell hb1)
      | (go_at_call 53; refine (refName_any name _ h5).mono ?_; rintro e w' ⟨rfl, rfl⟩))
    go_ret
    exact ⟨by simp [check, *], ((Below.refl _ _).alloc (Nat.le_refl _) _).trans (hb1.mono (by simp))⟩
  have dt0b : decide (1099511627776 < t0) = false := by simpa using k10
  have et0 : wi t0 0 1099511627776 = true := by simp [wi]; omega
  by_cases k11 : t1 < t0
  · have et1 : wi t1 t0 1099511627776 = false := by simp [wi]; omega
    go_enter Try.func31, Try.ntmps31
    go_wp2_with (first
      | (go_at_call 52; refine (refZero_any hi lo _).mono ?_; rintro e w1 ⟨rfl, hb1⟩; obtain ⟨hc1, hf1⟩ := bcell hb1)
      | (go_at_call 53; refine (refName_any name _ h5).mono ?_; rintro e w' ⟨rfl, rfl⟩))
    go_ret
    exact ⟨by simp [check, *], ((Below.refl _ _).alloc (Nat.le_refl _) _).trans (hb1.mono (by simp))⟩
  have dt1a : decide (t1 < t0) = false := by simpa using k11
  by_cases k12 : 1099511627776 < t1
  · have et1 : wi t1 t0 1099511627776 = false := by simp [wi]; omega
    go_enter Try.func31, Try.ntmps31
    go_wp2_with (first
      | (go_at_call 52; refine (refZero_any hi lo _).mono ?_; rintro e w1 ⟨rfl, hb1⟩; obtain ⟨hc1, hf1⟩ := bcell hb1)
      | (go_at_call 53; refine (refName_any name _ h5).mono ?_; rintro e w' ⟨rfl, rfl⟩))
    go_ret
    exact ⟨by simp [check, *], ((Below.refl _ _).alloc (Nat.le_refl _) _).trans (hb1.mono (by simp))⟩
  have dt1b : decide (1099511627776 < t1) = false := by simpa using k12
  have et1 : wi t1 t0 1099511627776 = true := by simp [wi]; omega
  go_enter Try.func31, Try.ntmps31
  go_wp2_with (first
    | (go_at_call 52; refine (refZero_any hi lo _).mono ?_; rintro e w1 ⟨rfl, hb1⟩; obtain ⟨hc1, hf1⟩ := bcell hb1)
    | (go_at_call 53; refine (refName_any name _ h5).mono ?_; rintro e w' ⟨rfl, rfl⟩))
  go_ret
  exact ⟨by simp [check, *], ((Below.refl _ _).alloc (Nat.le_refl _) _).trans (hb1.mono (by simp))⟩

end Go.Proofs.Ytkhepehgafijfaa
