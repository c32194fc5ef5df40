/- The walks of the statements on spans as bytes. Condition: what the form itself grants of arguments. -/
import Derived.Test.YtpfcipllfdallaaSpanSame
import Derived.Test.YtpfcipllfdallaaSpanWrite
import Derived.Test.YtpfcipllfdallaaSpanRefWrite
namespace Go.Proofs.Ytpfcipllfdallaa
open Go.RowKit

set_option maxHeartbeats 1000000 in
set_option maxRecDepth 100000 in
theorem known09_any (w : World) : Calls Try.prog 30 #[] w fun e w' => e = .returned (.bool true) ∧ Below w.heap.size w w' := by
  have HW : Hid (write ⟨0, 1, 2, 3, [97], 100, 1, 2, true, 5, 9⟩ = ([0, 0, 0, 0, 0, 0, 0, 0, 0, 0, 0, 0, 0, 0, 0, 1, 0, 0, 0, 0, 0, 0, 0, 2, 0, 0, 0, 0, 0, 0, 0, 3, 1, 97, 100, 1, 2, 1, 5, 4], 0)) := Lib.hid (by kernel_rfl)
  have HR : Hid (readSpan [120, 0, 0, 0, 0, 0, 0, 0, 0, 0, 0, 0, 0, 0, 0, 0, 1, 0, 0, 0, 0, 0, 0, 0, 2, 0, 0, 0, 0, 0, 0, 0, 3, 1, 97, 100, 1, 2, 1, 5, 4, 121] 1 = (⟨0, 1, 2, 3, [97], 100, 1, 2, true, 5, 9⟩, 41, 0)) := Lib.hid (by kernel_rfl)
  have HZ : Hid (check ⟨0, 0, 0, 0, [], 0, 0, 0, false, 0, 0⟩ = 11) := Lib.hid (by kernel_rfl)
  go_enter Try.func30, Try.ntmps30
  go_wp2_with fail
  refine (write_any ⟨0, 1, 2, 3, [97], 100, 1, 2, true, 5, 9⟩ _ ⟨by decide, by decide, by decide, by decide, by decide⟩).mono ?_
  rw [HW.out]
  rintro e w1 ⟨rfl, hb1⟩
  obtain ⟨hc1, hz1⟩ := bcell hb1
  have hsz1 : w.heap.size < w1.heap.size := by have := hb1.size; simp at this; omega
  have l1 : (⟨#[120]⟩ : ByteArray) = bs [120] := rfl
  have l2 : (⟨#[121]⟩ : ByteArray) = bs [121] := rfl
  go_wp2_with fail
  clear l1 l2
  refine (readSpan_any [120, 0, 0, 0, 0, 0, 0, 0, 0, 0, 0, 0, 0, 0, 0, 0, 1, 0, 0, 0, 0, 0, 0, 0, 2, 0, 0, 0, 0, 0, 0, 0, 3, 1, 97, 100, 1, 2, 1, 5, 4, 121] 1 _ (by decide) (by decide)).mono ?_
  rw [HR.out]
  simp only [Sp.val]
  rintro e w2 ⟨rfl, hb2⟩
  obtain ⟨hc2, hz2⟩ := bcell hb2
  have hsz2 : w1.heap.size ≤ w2.heap.size := hb2.size
  have hsz2b : w.heap.size < w2.heap.size := by omega
  go_wp2_with fail
  refine (check_any ⟨0, 0, 0, 0, [], 0, 0, 0, false, 0, 0⟩ _ ⟨by decide, by decide, by decide, by decide, by decide⟩).mono ?_
  rw [HZ.out]
  rintro e w3 ⟨rfl, hb3⟩
  go_wp2_with fail
  go_ret
  exact ⟨rfl, ((Below.refl _ _).alloc (Nat.le_refl _) _).trans ((hb1.mono (by simp)).trans ((hb2.mono (by omega)).trans (((Below.refl _ _).alloc (by omega) _).trans (hb3.mono (by simp; omega)))))⟩

set_option maxHeartbeats 1000000 in
set_option maxRecDepth 100000 in
theorem writes_walk (s : Sp) (w : World) (hs : s.fits) : Calls Try.prog 7 #[s.val] w fun e w' => e = .returned (.bool true) ∧ Below w.heap.size w w' := by
  have hs0 := Lib.hid hs
  obtain ⟨b, c, hw⟩ : ∃ b c, write s = (b, c) := ⟨_, _, rfl⟩
  obtain ⟨cc, hcc⟩ : ∃ cc, check s = cc := ⟨_, rfl⟩
  have HW := Lib.hid hw
  have HCC := Lib.hid hcc
  clear hw hcc
  obtain ⟨hi, lo, id, up, name, st, sq, kd, sh, t0, t1⟩ := s
  simp only [Sp.val]
  by_cases hn : 400 < name.length
  · go_enter Try.func7, Try.ntmps7
    go_wp2_with fail
    refine (known09_any _).mono ?_
    rintro e w1 ⟨rfl, hb1⟩
    go_wp2_with fail
    go_ret
    exact ⟨rfl, ((Below.refl _ _).alloc (Nat.le_refl _) _).trans (hb1.mono (by simp))⟩
  · go_enter Try.func7, Try.ntmps7
    go_wp2_with fail
    refine (write_any ⟨hi, lo, id, up, name, st, sq, kd, sh, t0, t1⟩ _ hs0.out).mono ?_
    rw [HW.out]
    rintro e w1 ⟨rfl, hb1⟩
    obtain ⟨hc1, hz1⟩ := bcell hb1
    have hsz1 : w.heap.size < w1.heap.size := by have := hb1.size; simp at this; omega
    go_wp2_with fail
    refine (refWrite_any ⟨hi, lo, id, up, name, st, sq, kd, sh, t0, t1⟩ _ hs0.out).mono ?_
    rw [HW.out]
    rintro e w2 ⟨rfl, hb2⟩
    obtain ⟨hc2, hz2⟩ := bcell hb2
    have hsz2 : w.heap.size < w2.heap.size := by have := hb2.size; omega
    go_wp2_with fail
    have g0 : ∀ x : Later w2.heap.size w2, x.1.cell? ⟨w.heap.size, 0, none⟩ = some (.int .u64 (hi : Int)) := fun x => x.cell ((hc2 _ _ hsz1).trans ((hc1 _ _ (by simp)).trans (by simp))) hsz2
    have g1 : ∀ x : Later w2.heap.size w2, x.1.cell? ⟨w.heap.size, 1, none⟩ = some (.int .u64 (lo : Int)) := fun x => x.cell ((hc2 _ _ hsz1).trans ((hc1 _ _ (by simp)).trans (by simp))) hsz2
    have g2 : ∀ x : Later w2.heap.size w2, x.1.cell? ⟨w.heap.size, 2, none⟩ = some (.int .u64 (id : Int)) := fun x => x.cell ((hc2 _ _ hsz1).trans ((hc1 _ _ (by simp)).trans (by simp))) hsz2
    have g3 : ∀ x : Later w2.heap.size w2, x.1.cell? ⟨w.heap.size, 3, none⟩ = some (.int .u64 (up : Int)) := fun x => x.cell ((hc2 _ _ hsz1).trans ((hc1 _ _ (by simp)).trans (by simp))) hsz2
    have g4 : ∀ x : Later w2.heap.size w2, x.1.cell? ⟨w.heap.size, 4, none⟩ = some (.string (bs name)) := fun x => x.cell ((hc2 _ _ hsz1).trans ((hc1 _ _ (by simp)).trans (by simp))) hsz2
    have g5 : ∀ x : Later w2.heap.size w2, x.1.cell? ⟨w.heap.size, 5, none⟩ = some (.int .i64 st) := fun x => x.cell ((hc2 _ _ hsz1).trans ((hc1 _ _ (by simp)).trans (by simp))) hsz2
    have g6 : ∀ x : Later w2.heap.size w2, x.1.cell? ⟨w.heap.size, 6, none⟩ = some (.int .i64 sq) := fun x => x.cell ((hc2 _ _ hsz1).trans ((hc1 _ _ (by simp)).trans (by simp))) hsz2
    have g7 : ∀ x : Later w2.heap.size w2, x.1.cell? ⟨w.heap.size, 7, none⟩ = some (.int .i64 kd) := fun x => x.cell ((hc2 _ _ hsz1).trans ((hc1 _ _ (by simp)).trans (by simp))) hsz2
    have g8 : ∀ x : Later w2.heap.size w2, x.1.cell? ⟨w.heap.size, 8, none⟩ = some (.bool sh) := fun x => x.cell ((hc2 _ _ hsz1).trans ((hc1 _ _ (by simp)).trans (by simp))) hsz2
    have g9 : ∀ x : Later w2.heap.size w2, x.1.cell? ⟨w.heap.size, 9, none⟩ = some (.int .i64 t0) := fun x => x.cell ((hc2 _ _ hsz1).trans ((hc1 _ _ (by simp)).trans (by simp))) hsz2
    have g10 : ∀ x : Later w2.heap.size w2, x.1.cell? ⟨w.heap.size, 10, none⟩ = some (.int .i64 t1) := fun x => x.cell ((hc2 _ _ hsz1).trans ((hc1 _ _ (by simp)).trans (by simp))) hsz2
    have hck : ∀ w0, Calls Try.prog 33 #[.agg #[(.int .u64 (hi : Int)), (.int .u64 (lo : Int)), (.int .u64 (id : Int)), (.int .u64 (up : Int)), (.string (bs name)), (.int .i64 st), (.int .i64 sq), (.int .i64 kd), (.bool sh), (.int .i64 t0), (.int .i64 t1)]] w0 fun e w' => e = .returned (.int .i64 (cc : Int)) ∧ Below w0.heap.size w0 w' := fun w0 => by
      have := check_any ⟨hi, lo, id, up, name, st, sq, kd, sh, t0, t1⟩ w0 hs0.out
      rw [HCC.out] at this; exact this
    have hrk : ∀ w0, Calls Try.prog 34 #[.agg #[(.int .u64 (hi : Int)), (.int .u64 (lo : Int)), (.int .u64 (id : Int)), (.int .u64 (up : Int)), (.string (bs name)), (.int .i64 st), (.int .i64 sq), (.int .i64 kd), (.bool sh), (.int .i64 t0), (.int .i64 t1)]] w0 fun e w' => e = .returned (.int .i64 (cc : Int)) ∧ Below w0.heap.size w0 w' := fun w0 => by
      have := refCheck_any ⟨hi, lo, id, up, name, st, sq, kd, sh, t0, t1⟩ w0 hs0.out
      rw [HCC.out] at this; exact this
    have HK := Lib.hid hck
    have HRK := Lib.hid hrk
    clear hc1 hc2 hz1 hz2 hck hrk
    refine wp_region_later w2.heap.size (by kernel_rfl) (by kernel_rfl) ?_
    repeat (go_big_quiet_step (first
      | (go_at_call 33; exact Calls.later (Nat.le_refl _) (HK.out _))
      | (go_at_call 34; exact Calls.later (Nat.le_refl _) (HRK.out _))
      | (go_at_call 30; exact Calls.later (Nat.le_refl _) (known09_any _))))
    refine wpQuiet_nil ?_
    rintro ⟨wx, hbx⟩
    go_wp2_with fail
    go_ret
    exact ⟨rfl, ((Below.refl _ _).alloc (Nat.le_refl _) _).trans ((hb1.mono (by simp)).trans ((hb2.mono (by omega)).trans (hbx.mono (by omega))))⟩

set_option maxHeartbeats 1000000 in
set_option maxRecDepth 100000 in
theorem reads_walk (l : List UInt8) (x : Int) (w : World) (hl : l.length ≤ 9223372036854775807) (hx2 : x ≤ 9223372036854775807) :
    Calls Try.prog 8 #[.string (bs l), .int .i64 x] w fun e w' => e = .returned (.bool true) ∧ Below w.heap.size w w' := by
  by_cases hn : 2000 < l.length
  · go_enter Try.func8, Try.ntmps8
    go_wp2_with fail
    refine (known09_any _).mono ?_
    rintro e w1 ⟨rfl, hb1⟩
    go_wp2_with fail
    go_ret
    exact ⟨rfl, hb1⟩
  · obtain ⟨s, a, b, hr⟩ : ∃ s a b, readRef l x = (s, a, b) := ⟨_, _, _, rfl⟩
    have HR := Lib.hid hr
    have HS : Hid (readSpan l x = (s, a, b)) := Lib.hid (by rw [read_same l x hl, hr])
    clear hr
    obtain ⟨hi, lo, id, up, name, st, sq, kd, sh, t0, t1⟩ := s
    go_enter Try.func8, Try.ntmps8
    go_wp2_with fail
    refine (readSpan_any l x _ hl hx2).mono ?_
    rw [HS.out]
    simp only [Sp.val]
    rintro e w1 ⟨rfl, hb1⟩
    go_wp2_with fail
    refine (refRead_any l x _ hl hx2).mono ?_
    rw [HR.out]
    simp only [Sp.val]
    rintro e w2 ⟨rfl, hb2⟩
    obtain ⟨hc2, hz2⟩ := bcell hb2
    have hsz2 : w1.heap.size < w2.heap.size := by have := hb2.size; simp at this; omega
    go_wp2_with fail
    refine (known09_any _).mono ?_
    rintro e w3 ⟨rfl, hb3⟩
    go_wp2_with fail
    go_ret
    have hs1 := hb1.size
    exact ⟨rfl, hb1.trans (((Below.refl _ _).alloc hs1 _).trans ((hb2.mono (by simp; omega)).trans (((Below.refl _ _).alloc (by omega) _).trans (hb3.mono (by simp; omega)))))⟩
end Go.Proofs.Ytpfcipllfdallaa
