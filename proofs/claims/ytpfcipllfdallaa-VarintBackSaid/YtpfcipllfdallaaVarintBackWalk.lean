/- The walk of VarintBack. Condition: what the form itself grants of arguments. -/
import Derived.Test.YtpfcipllfdallaaVarintLaws
import Derived.Test.YtpfcipllfdallaaVarintBackSpec
namespace Go.Proofs.Ytpfcipllfdallaa
open Go.RowKit

set_option maxHeartbeats 400000 in
set_option maxRecDepth 100000 in
theorem back_walk (n : Nat) (la lb : List UInt8) (w : World) (hn : n < 18446744073709551616) (ha : la.length ≤ 9223372036854775807) (hb : lb.length ≤ 9223372036854775807) :
    Calls Try.prog 5 #[.int .u64 n, .string (bs la), .string (bs lb)] w fun e w' => e = .returned (.bool true) ∧ Below w.heap.size w w' := by
  by_cases h2 : 2000 < la.length
  · go_enter Try.func5, Try.ntmps5
    go_wp2_with fail
    refine (known02_any _).mono ?_
    rintro e w3 ⟨rfl, hb3⟩
    go_wp2_with fail
    go_ret
    exact ⟨rfl, hb3⟩
  by_cases h3 : 2000 < lb.length
  · go_enter Try.func5, Try.ntmps5
    go_wp2_with fail
    refine (known02_any _).mono ?_
    rintro e w3 ⟨rfl, hb3⟩
    go_wp2_with fail
    go_ret
    exact ⟨rfl, hb3⟩
  have hpl := put_len n
  have HG := Lib.hid (Vr.get_back la lb n hn)
  have HT := Lib.hid (Vr.take_back la lb (by omega))
  have htl : (Vr.text lb).length ≤ 2010 := by have := put_len lb.length; simp [Vr.text]; omega
  obtain ⟨k, t, e0, hg⟩ : ∃ a b c, Vr.get lb 0 = (a, b, c) := ⟨_, _, _, rfl⟩
  have hcase : (e0 = 0 ∧ ∃ m : Nat, t = (m : Int) ∧ 1 ≤ m ∧ m ≤ lb.length ∧ Vr.put k = lb.take m ∧ k < 18446744073709551616) ∨ e0 ≠ 0 := by
    by_cases h : e0 = 0
    · exact .inl ⟨h, Vr.put_back (by rw [← h]; exact hg)⟩
    · exact .inr h
  have H0 := Lib.hid hg
  clear hg
  rcases hcase with ⟨rfl, m, rfl, hm1, hm2, hp, hk⟩ | h0
  · have hput : ∀ w0, Calls Try.prog 15 #[.int .u64 (k : Int)] w0 fun e w' => e = .returned (.string (bs (lb.take m))) ∧ Below w0.heap.size w0 w' := fun w0 => by
      rw [← hp]; exact put_any _ k rfl _ hk
    have HP := Lib.hid hput
    clear hp hput
    go_enter Try.func5, Try.ntmps5
    go_wp2_with fail
    refine (put_any _ n rfl _ hn).mono ?_
    rintro e w1 ⟨rfl, hb1⟩
    go_wp2_with fail
    refine (get_any _ la.length _ (by simp; omega)).mono ?_
    rw [HG.out]
    rintro e w' ⟨rfl, rfl⟩
    go_wp2_with fail
    refine (get_any lb 0 _ (by omega)).mono ?_
    rw [H0.out]
    rintro e w' ⟨rfl, rfl⟩
    go_upto_region 8 with fail
    go_cut [91] (fun v wx => v = .bool false ∧ Below w.heap.size w wx)
    case first =>
      have h1t : decide ((m : Int) < 1) = false := by simp; omega
      have h2t : decide (lb.length < m) = false := by simp; omega
      refine wp_region_later w'.heap.size (by kernel_rfl) (by kernel_rfl) ?_
      repeat (go_big_quiet_step (exact Calls.later (Nat.le_refl _) (HP.out _)))
      refine wpQuiet_nil ?_
      rintro ⟨wx, hbx⟩
      go_wp2_with fail
      go_meet
      exact ⟨rfl, hb1.trans (hbx.mono hb1.size)⟩
    case rest =>
      obtain ⟨rfl, hbx⟩ := hcut
      go_wp2_with fail
      refine (text_any lb _ (by omega)).mono ?_
      rintro e w2 ⟨rfl, hb2⟩
      go_wp2_with fail
      refine (take_any _ la.length lb.length _ (by simp; omega) (by omega) (by omega)).mono ?_
      rw [HT.out]
      rintro e w' ⟨rfl, rfl⟩
      go_wp2_with fail
      refine (text_any lb _ (by omega)).mono ?_
      rintro e w3 ⟨rfl, hb3⟩
      go_wp2_with fail
      refine (known02_any _).mono ?_
      rintro e w4 ⟨rfl, hb4⟩
      go_wp2_with fail
      go_ret
      exact ⟨rfl, hbx.trans ((hb2.trans ((hb3.trans (hb4.mono hb3.size)).mono hb2.size)).mono hbx.size)⟩
  · have hd : (((e0 : Nat) : Int) == 0) = false := by simp; omega
    go_enter Try.func5, Try.ntmps5
    go_wp2_with fail
    refine (put_any _ n rfl _ hn).mono ?_
    rintro e w1 ⟨rfl, hb1⟩
    go_wp2_with fail
    refine (get_any _ la.length _ (by simp; omega)).mono ?_
    rw [HG.out]
    rintro e w' ⟨rfl, rfl⟩
    go_wp2_with fail
    refine (get_any lb 0 _ (by omega)).mono ?_
    rw [H0.out]
    rintro e w' ⟨rfl, rfl⟩
    go_upto_region 8 with fail
    go_cut [91] (fun v wx => v = .bool false ∧ Below w.heap.size w wx)
    case first =>
      refine wp_region_later w'.heap.size (by kernel_rfl) (by kernel_rfl) ?_
      repeat (go_big_quiet_step (fail))
      refine wpQuiet_nil ?_
      rintro ⟨wx, hbx⟩
      go_wp2_with fail
      go_meet
      exact ⟨rfl, hb1.trans (hbx.mono hb1.size)⟩
    case rest =>
      obtain ⟨rfl, hbx⟩ := hcut
      go_wp2_with fail
      refine (text_any lb _ (by omega)).mono ?_
      rintro e w2 ⟨rfl, hb2⟩
      go_wp2_with fail
      refine (take_any _ la.length lb.length _ (by simp; omega) (by omega) (by omega)).mono ?_
      rw [HT.out]
      rintro e w' ⟨rfl, rfl⟩
      go_wp2_with fail
      refine (text_any lb _ (by omega)).mono ?_
      rintro e w3 ⟨rfl, hb3⟩
      go_wp2_with fail
      refine (known02_any _).mono ?_
      rintro e w4 ⟨rfl, hb4⟩
      go_wp2_with fail
      go_ret
      exact ⟨rfl, hbx.trans ((hb2.trans ((hb3.trans (hb4.mono hb3.size)).mono hb2.size)).mono hbx.size)⟩
end Go.Proofs.Ytpfcipllfdallaa
