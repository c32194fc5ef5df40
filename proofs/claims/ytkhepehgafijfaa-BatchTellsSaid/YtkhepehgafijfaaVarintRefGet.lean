/- Walk of the reference's Get. Condition: the text is no longer than an int can say. -/
import Derived.Test.YtkhepehgafijfaaProg
import Derived.Test.YtkhepehgafijfaaLib
import Derived.Test.YtkhepehgafijfaaVarintSpec
namespace Go.Proofs.Ytkhepehgafijfaa
open Go.RowKit

set_option maxHeartbeats 400000 in
set_option maxRecDepth 100000 in
theorem refGet_any (l : List UInt8) (x : Int) (w : World) (hl : l.length ≤ 9223372036854775807) (hx2 : x ≤ 9223372036854775807) :
    Calls Try.prog 59 #[.string (bs l), .int .i64 x] w fun e w' => e = .returned (.tuple #[.int .u64 (Vr.get l x).1, .int .i64 (Vr.get l x).2.1, .int .i64 (Vr.get l x).2.2]) ∧ w' = w := by
  by_cases hx : x < 0
  · have HG : Hid (Vr.get l x = (0, 0, 2)) := Lib.hid (by simp [Vr.get, hx])
    go_enter Try.func59, Try.ntmps59
    go_wp2
    go_ret3
    exact ⟨by rw [HG.out]; rfl, rfl⟩
  · obtain ⟨k, rfl⟩ := Int.eq_ofNat_of_zero_le (by omega : 0 ≤ x)
    by_cases hk : l.length ≤ k
    · have hd : l.drop k = [] := List.drop_eq_nil_of_le (by omega)
      have HG : Hid (Vr.get l k = (0, 0, 5)) := Lib.hid (by simp [Vr.get, hd, Vr.span])
      go_enter Try.func59, Try.ntmps59
      go_wp2
      go_loop [7, 8, 9] (fun n p i => n = .int .u64 0 ∧ p = .int .u64 1 ∧ i = .int .i64 0) (fun _ _ _ => 0)
      case atStart => exact ⟨rfl, rfl, rfl⟩
      case round =>
        obtain ⟨rfl, rfl, rfl⟩ := hrel
        go_wp2
        go_ret3
        exact ⟨by rw [HG.out]; rfl, rfl⟩
    · go_enter Try.func59, Try.ntmps59
      go_wp2
      go_loop [7, 8, 9] (fun n p i => ∃ j q : Nat, n = .int .u64 (Vr.val ((l.drop k).take j)) ∧ p = .int .u64 q ∧ i = .int .i64 j ∧ j ≤ 9 ∧ j ≤ l.length - k ∧ Hid (q = 128 ^ j) ∧ Hid (Vr.span 0 (l.drop k) = Vr.span j ((l.drop k).drop j))) (fun _ _ i => 10 - (intOf i).toNat)
      case atStart => exact ⟨0, 1, rfl, rfl, rfl, by omega, by omega, Lib.hid rfl, Lib.hid rfl⟩
      case round =>
        obtain ⟨j, q, rfl, rfl, rfl, hj, hjl, HQ, HS⟩ := hrel
        by_cases hend : j = l.length - k
        · have HG : Hid (Vr.get l k = (0, 0, 5)) := Lib.hid (by
            rw [Vr.get_pos, HS.out, List.drop_drop, List.drop_eq_nil_of_le (by omega), Vr.span_end _ (by omega)]; rfl)
          clear HS HQ
          subst hend
          go_wp2_with fail
          go_ret3
          exact ⟨by rw [HG.out]; rfl, rfl⟩
        · have HC := Lib.hid (Vr.get_cases l k j (by omega) hj HS.out)
          have HV := Lib.hid (Vr.val_bound (l.drop k) j)
          rw [← HQ.out] at HC HV
          clear HS
          by_cases h9 : j = 9
          · subst h9
            have hi9 : (0 : Int) ≤ (k : Int) + 9 ∧ (k : Int) + 9 < (l.length : Int) := by omega
            go_wp2_with fail
            all_goals
              obtain ⟨c1, c2, c3, c4⟩ := HC.out
              go_ret3
              refine ⟨?_, rfl⟩
            · rw [c1 ⟨trivial, by omega⟩]; rfl
            · rw [c2 (by rintro ⟨-, h⟩; omega) (by omega) (by omega)]; rfl
            · rw [c3 (by rintro ⟨-, h⟩; omega) (by omega) (by omega), wrap_mul_add _ _ _ (Vr.sum_room _ q 9 _ HQ.out HV.out (by omega) (by omega) (by omega)), HQ.out]; rfl
          · have h8 : j ≤ 8 := by omega
            have hb256 := UInt8.toNat_lt l[k + j]
            go_wp2_with fail
            case roundEnd =>
              obtain ⟨c1, c2, c3, c4⟩ := HC.out
              obtain ⟨d1, d2⟩ := c4 (by omega) (by omega)
              have hq2 : q * 128 < 18446744073709551616 := by rw [HQ.out]; exact Vr.pow_room j h8
              have hs : Vr.val ((l.drop k).take j) + q * (l[k + j].toNat - 128) < 18446744073709551616 := Vr.sum_room _ q j _ HQ.out HV.out (by omega) (by omega) (by omega)
              refine ⟨⟨j + 1, q * 128, ?_, ?_, rfl, by omega, by omega, Lib.hid (by rw [HQ.out, Nat.pow_succ]), Lib.hid d1⟩, by simp [intOf]; omega⟩
              · rw [wrap_mul_add_less _ _ _ (by omega) hs, d2]
              · rw [show ((q : Int) * 128) = ((q * 128 : Nat) : Int) by simp, wrap_u64_nat _ hq2]
            all_goals
              obtain ⟨c1, c2, c3, c4⟩ := HC.out
              go_ret3
              refine ⟨?_, rfl⟩
            · rw [c2 (by omega) (by omega) (by omega)]; rfl
            · have hz : l[k + j].toNat = 0 := by assumption
              have hv : Vr.val ((l.drop k).take j) < 18446744073709551616 := by
                have := HV.out
                have := Vr.pow_room j h8
                rw [← HQ.out] at this
                omega
              rw [c3 (by omega) (by omega) (by omega), wrap_u64_nat _ hv, hz]; rfl
            · rw [c3 (by omega) (by omega) (by omega), wrap_mul_add _ _ _ (Vr.sum_room _ q j _ HQ.out HV.out (by omega) (by omega) (by omega)), HQ.out]; rfl
end Go.Proofs.Ytkhepehgafijfaa
