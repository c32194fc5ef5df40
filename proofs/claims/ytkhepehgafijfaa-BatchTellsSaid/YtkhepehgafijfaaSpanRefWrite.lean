/- Walks of the reference's eight and Write. Condition: a span's fields fit their types. -/
import Derived.Test.YtkhepehgafijfaaSpanSpec
import Derived.Test.YtkhepehgafijfaaOctet
import Derived.Test.YtkhepehgafijfaaVarintText
namespace Go.Proofs.Ytkhepehgafijfaa
open Go.RowKit

set_option maxHeartbeats 400000 in
set_option maxRecDepth 100000 in
theorem eight_any (x : Int) (n : Nat) (hx : x = n) (w : World) (hn : n < 18446744073709551616) :
    Calls Try.prog 47 #[.int .u64 x] w fun e w' => e = .returned (.string (bs (Oc.digs 256 8 n))) ∧ Below w.heap.size w w' := by
  subst hx
  go_enter Try.func47, Try.ntmps47
  go_wp2_with fail
  refine (refOctPut8_any _ n rfl _ hn).mono ?_
  rintro e w1 ⟨rfl, hb⟩
  go_wp2_with fail
  go_ret
  exact ⟨rfl, hb⟩

theorem refPut_small (x : Int) (n : Nat) (hx : x = n) (w : World) (hn : n ≤ 1099511627776) :
    Calls Try.prog 26 #[.int .u64 x] w fun e w' => e = .returned (.string (bs (Vr.put n))) ∧ Below w.heap.size w w' :=
  refPut_any 9 x n w hx (by omega) (by omega) (Lib.hid (by have e : 2 * 128 ^ 9 = 18446744073709551616 := rfl; omega))

set_option maxHeartbeats 1000000 in
set_option maxRecDepth 100000 in
theorem refWrite_any (s : Sp) (w : World) (hs : s.fits) : Calls Try.prog 27 #[s.val] w fun e w' => e = .returned (.tuple #[.string (bs (write s).1), .int .i64 (write s).2]) ∧ Below w.heap.size w w' := by
  have hs0 := Lib.hid hs
  by_cases hc : check s = 0
  · have HW : Hid (write s = (spanBytes s, 0)) := Lib.hid (by simp [write, hc])
    obtain ⟨-, -, hn, c1, c2, c3, c4, c5, c6, c7, c8, c9, c10⟩ := check_zero hc
    have HC := Lib.hid hc; clear hc
    obtain ⟨hi, lo, id, up, name, st, sq, kd, sh, t0, t1⟩ := s
    simp only at hn c1 c2 c3 c4 c5 c6 c7 c8 c9 c10
    obtain ⟨h1, h2, h3, h4, h5⟩ := hs
    obtain ⟨a, rfl⟩ := Int.eq_ofNat_of_zero_le c1
    obtain ⟨b, rfl⟩ := Int.eq_ofNat_of_zero_le c3
    obtain ⟨c, rfl⟩ := Int.eq_ofNat_of_zero_le c5
    obtain ⟨d, rfl⟩ := Int.eq_ofNat_of_zero_le c7
    obtain ⟨f, rfl⟩ : ∃ f : Nat, t1 = (d : Int) + f := ⟨(t1 - d).toNat, by omega⟩
    have hnl : name.length ≤ 32 := by simp [nameOk] at hn; omega
    clear hn
    have htl : (Vr.text name).length ≤ 42 := by have := put_len name.length; simp [Vr.text]; omega
    have hdl := Oc.digs_len 256 8
    have hpa := (put_len a).2
    have hpb := (put_len b).2
    have hpc := (put_len c).2
    have hpd := (put_len d).2
    have hpf := (put_len f).2
    have hdf : (d : Int) + f - d = f := by omega
    simp only [Sp.val]
    have hp0 : Vr.put 0 = [0] := by decide
    have hp1 : Vr.put 1 = [1] := by decide
    have Hp0 := Lib.hid hp0
    have Hp1 := Lib.hid hp1
    clear hp0 hp1
    cases sh
    · go_enter Try.func27, Try.ntmps27
      go_wp2_with fail
      refine (refCheck_any ⟨hi, lo, id, up, name, a, b, c, false, d, d + f⟩ _ hs0.out).mono ?_
      rw [HC.out]
      rintro e w1 ⟨rfl, hb1⟩
      obtain ⟨hc1, hz1⟩ := bcell hb1
      have hsz1 : w.heap.size < w1.heap.size := by have := hb1.size; simp at this; omega
      go_wp2_with fail
      have g0 : ∀ x : Later w1.heap.size w1, x.1.cell? ⟨w.heap.size, 0, none⟩ = some (.int .u64 (hi : Int)) := fun x => x.cell ((hc1 _ _ (by simp)).trans (by simp)) hsz1
      have g1 : ∀ x : Later w1.heap.size w1, x.1.cell? ⟨w.heap.size, 1, none⟩ = some (.int .u64 (lo : Int)) := fun x => x.cell ((hc1 _ _ (by simp)).trans (by simp)) hsz1
      have g2 : ∀ x : Later w1.heap.size w1, x.1.cell? ⟨w.heap.size, 2, none⟩ = some (.int .u64 (id : Int)) := fun x => x.cell ((hc1 _ _ (by simp)).trans (by simp)) hsz1
      have g3 : ∀ x : Later w1.heap.size w1, x.1.cell? ⟨w.heap.size, 3, none⟩ = some (.int .u64 (up : Int)) := fun x => x.cell ((hc1 _ _ (by simp)).trans (by simp)) hsz1
      have g4 : ∀ x : Later w1.heap.size w1, x.1.cell? ⟨w.heap.size, 4, none⟩ = some (.string (bs name)) := fun x => x.cell ((hc1 _ _ (by simp)).trans (by simp)) hsz1
      have g5 : ∀ x : Later w1.heap.size w1, x.1.cell? ⟨w.heap.size, 5, none⟩ = some (.int .i64 (a : Int)) := fun x => x.cell ((hc1 _ _ (by simp)).trans (by simp)) hsz1
      have g6 : ∀ x : Later w1.heap.size w1, x.1.cell? ⟨w.heap.size, 6, none⟩ = some (.int .i64 (b : Int)) := fun x => x.cell ((hc1 _ _ (by simp)).trans (by simp)) hsz1
      have g7 : ∀ x : Later w1.heap.size w1, x.1.cell? ⟨w.heap.size, 7, none⟩ = some (.int .i64 (c : Int)) := fun x => x.cell ((hc1 _ _ (by simp)).trans (by simp)) hsz1
      have g9 : ∀ x : Later w1.heap.size w1, x.1.cell? ⟨w.heap.size, 9, none⟩ = some (.int .i64 (d : Int)) := fun x => x.cell ((hc1 _ _ (by simp)).trans (by simp)) hsz1
      have g10 : ∀ x : Later w1.heap.size w1, x.1.cell? ⟨w.heap.size, 10, none⟩ = some (.int .i64 ((d : Int) + f)) := fun x => x.cell ((hc1 _ _ (by simp)).trans (by simp)) hsz1
      clear hc1 hz1
      refine wp_region_later w1.heap.size (by kernel_rfl) (by kernel_rfl) ?_
      repeat (go_big_quiet_step (first
        | (go_at_call 47; exact Calls.later (Nat.le_refl _) (eight_any _ _ rfl _ (by assumption)))
        | (go_at_call 48; exact Calls.later (Nat.le_refl _) (refText_any name _ (by omega)))
        | (go_at_call 26; refine Calls.later (Nat.le_refl _) (refPut_small _ _ rfl _ ?_); omega)
        | (go_at_call 46; exact Calls.later (Nat.le_refl _) (refByte_any _ 0 rfl _))))
      refine wpQuiet_nil ?_
      rintro ⟨wx, hbx⟩
      go_wp2_with fail
      go_ret2
      refine ⟨?_, ((Below.refl _ _).alloc (Nat.le_refl _) _).trans ((hb1.mono (by simp)).trans (hbx.mono (by omega)))⟩
      rw [HW.out]
      show Ending.returned (.tuple #[.string (bs _), .int .i64 0]) = _
      have e : ((d : Int) + f - d).toNat = f := by omega
      simp only [spanBytes, e]
      simp [Hp0.out]
    · go_enter Try.func27, Try.ntmps27
      go_wp2_with fail
      refine (refCheck_any ⟨hi, lo, id, up, name, a, b, c, true, d, d + f⟩ _ hs0.out).mono ?_
      rw [HC.out]
      rintro e w1 ⟨rfl, hb1⟩
      obtain ⟨hc1, hz1⟩ := bcell hb1
      have hsz1 : w.heap.size < w1.heap.size := by have := hb1.size; simp at this; omega
      go_wp2_with fail
      have g0 : ∀ x : Later w1.heap.size w1, x.1.cell? ⟨w.heap.size, 0, none⟩ = some (.int .u64 (hi : Int)) := fun x => x.cell ((hc1 _ _ (by simp)).trans (by simp)) hsz1
      have g1 : ∀ x : Later w1.heap.size w1, x.1.cell? ⟨w.heap.size, 1, none⟩ = some (.int .u64 (lo : Int)) := fun x => x.cell ((hc1 _ _ (by simp)).trans (by simp)) hsz1
      have g2 : ∀ x : Later w1.heap.size w1, x.1.cell? ⟨w.heap.size, 2, none⟩ = some (.int .u64 (id : Int)) := fun x => x.cell ((hc1 _ _ (by simp)).trans (by simp)) hsz1
      have g3 : ∀ x : Later w1.heap.size w1, x.1.cell? ⟨w.heap.size, 3, none⟩ = some (.int .u64 (up : Int)) := fun x => x.cell ((hc1 _ _ (by simp)).trans (by simp)) hsz1
      have g4 : ∀ x : Later w1.heap.size w1, x.1.cell? ⟨w.heap.size, 4, none⟩ = some (.string (bs name)) := fun x => x.cell ((hc1 _ _ (by simp)).trans (by simp)) hsz1
      have g5 : ∀ x : Later w1.heap.size w1, x.1.cell? ⟨w.heap.size, 5, none⟩ = some (.int .i64 (a : Int)) := fun x => x.cell ((hc1 _ _ (by simp)).trans (by simp)) hsz1
      have g6 : ∀ x : Later w1.heap.size w1, x.1.cell? ⟨w.heap.size, 6, none⟩ = some (.int .i64 (b : Int)) := fun x => x.cell ((hc1 _ _ (by simp)).trans (by simp)) hsz1
      have g7 : ∀ x : Later w1.heap.size w1, x.1.cell? ⟨w.heap.size, 7, none⟩ = some (.int .i64 (c : Int)) := fun x => x.cell ((hc1 _ _ (by simp)).trans (by simp)) hsz1
      have g9 : ∀ x : Later w1.heap.size w1, x.1.cell? ⟨w.heap.size, 9, none⟩ = some (.int .i64 (d : Int)) := fun x => x.cell ((hc1 _ _ (by simp)).trans (by simp)) hsz1
      have g10 : ∀ x : Later w1.heap.size w1, x.1.cell? ⟨w.heap.size, 10, none⟩ = some (.int .i64 ((d : Int) + f)) := fun x => x.cell ((hc1 _ _ (by simp)).trans (by simp)) hsz1
      clear hc1 hz1
      refine wp_region_later w1.heap.size (by kernel_rfl) (by kernel_rfl) ?_
      repeat (go_big_quiet_step (first
        | (go_at_call 47; exact Calls.later (Nat.le_refl _) (eight_any _ _ rfl _ (by assumption)))
        | (go_at_call 48; exact Calls.later (Nat.le_refl _) (refText_any name _ (by omega)))
        | (go_at_call 26; refine Calls.later (Nat.le_refl _) (refPut_small _ _ rfl _ ?_); omega)
        | (go_at_call 46; exact Calls.later (Nat.le_refl _) (refByte_any _ 1 rfl _))))
      refine wpQuiet_nil ?_
      rintro ⟨wx, hbx⟩
      go_wp2_with fail
      go_ret2
      refine ⟨?_, ((Below.refl _ _).alloc (Nat.le_refl _) _).trans ((hb1.mono (by simp)).trans (hbx.mono (by omega)))⟩
      rw [HW.out]
      show Ending.returned (.tuple #[.string (bs _), .int .i64 0]) = _
      have e : ((d : Int) + f - d).toNat = f := by omega
      simp only [spanBytes, e]
      simp [Hp1.out]
  · obtain ⟨c0, hc0⟩ : ∃ c0, check s = c0 := ⟨_, rfl⟩
    have HW : Hid (write s = ([], c0)) := Lib.hid (by simp [write, hc0]; omega)
    rw [hc0] at hc
    have HC := Lib.hid hc0
    have hne : (((c0 : Nat) : Int) != 0) = true := by simp; omega
    clear hc0
    obtain ⟨hi, lo, id, up, name, st, sq, kd, sh, t0, t1⟩ := s
    simp only [Sp.val]
    go_enter Try.func27, Try.ntmps27
    go_wp2_with fail
    refine (refCheck_any ⟨hi, lo, id, up, name, st, sq, kd, sh, t0, t1⟩ _ hs0.out).mono ?_
    rw [HC.out]
    rintro e w1 ⟨rfl, hb1⟩
    obtain ⟨hc1, hz1⟩ := bcell hb1
    have hsz1 : w.heap.size < w1.heap.size := by have := hb1.size; simp at this; omega
    go_wp2_with fail
    refine (refCheck_any ⟨hi, lo, id, up, name, st, sq, kd, sh, t0, t1⟩ _ hs0.out).mono ?_
    rw [HC.out]
    rintro e w2 ⟨rfl, hb2⟩
    go_wp2_with fail
    go_ret2
    exact ⟨by rw [HW.out]; rfl, ((Below.refl _ _).alloc (Nat.le_refl _) _).trans ((hb1.mono (by simp)).trans (hb2.mono (by omega)))⟩
end Go.Proofs.Ytkhepehgafijfaa
