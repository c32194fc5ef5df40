/- Walks of varint.span and varint.Get. Condition: the text is no longer than an int can say. -/
import Derived.Test.YtkhepehgafijfaaProg
import Derived.Test.YtkhepehgafijfaaLib
import Derived.Test.YtkhepehgafijfaaVarintSpec
namespace Go.Proofs.Ytkhepehgafijfaa
open Go.RowKit

set_option maxHeartbeats 400000 in
set_option maxRecDepth 100000 in
theorem span_any (l : List UInt8) (w : World) (hl : l.length ≤ 9223372036854775807) :
    Calls Try.prog 70 #[.string (bs l)] w fun e w' => e = .returned (.tuple #[.int .i64 (Vr.span 0 l).1, .int .i64 (Vr.span 0 l).2]) ∧ w' = w := by
  go_enter Try.func70, Try.ntmps70
  go_wp2
  go_step3
  go_wp2
  go_step3
  go_wp2
  go_loop [4] (fun v => ∃ n : Nat, v = .int .i64 n ∧ n ≤ 10 ∧ n ≤ l.length ∧ Hid (Vr.span 0 l = Vr.span n (l.drop n)))
    (fun v => 10 - (intOf v).toNat)
  case atStart => exact ⟨0, rfl, by omega, by omega, Lib.hid rfl⟩
  case round =>
    obtain ⟨n, rfl, hn, hnl, HS⟩ := hrel
    by_cases h10 : n = 10
    · subst h10
      go_wp2_with fail
      go_ret2
      exact ⟨by rw [HS.out, Vr.span_ten]; rfl, rfl⟩
    by_cases hlen : n = l.length
    · subst hlen
      go_wp2_with fail
      go_ret2
      exact ⟨by rw [HS.out, List.drop_length, Vr.span_end _ h10]; rfl, rfl⟩
    have hlt : n < l.length := by omega
    have HC := Lib.hid (Vr.span_cons n l[n] (l.drop (n + 1)) h10)
    rw [← Vr.drop_get hlt] at HC
    by_cases h9 : n = 9
    · subst h9
      have hi9 : (9 : Int) < (l.length : Int) := by omega
      go_wp2_with fail
      all_goals
        go_ret2
        refine ⟨?_, rfl⟩
        rw [HS.out, HC.out]
        simp only [beq_iff_eq, beq_eq_false_iff_ne, true_and] at *
        repeat' split
        all_goals first | rfl | omega
    · go_wp2_with fail
      case roundEnd => exact ⟨⟨n + 1, rfl, by omega, by omega, Lib.hid (by rw [HS.out, HC.out, if_neg (by omega), if_neg (by omega)])⟩, by simp [intOf]; omega⟩
      all_goals
        go_ret2
        refine ⟨?_, rfl⟩
        rw [HS.out, HC.out]
        simp only [beq_iff_eq, beq_eq_false_iff_ne] at *
        repeat' split
        all_goals first | rfl | omega

set_option maxHeartbeats 400000 in
set_option maxRecDepth 100000 in
theorem get_any (l : List UInt8) (x : Int) (w : World) (hl : l.length ≤ 9223372036854775807) :
    Calls Try.prog 56 #[.string (bs l), .int .i64 x] w fun e w' => e = .returned (.tuple #[.int .u64 (Vr.get l x).1, .int .i64 (Vr.get l x).2.1, .int .i64 (Vr.get l x).2.2]) ∧ w' = w := by
  by_cases hx : x < 0
  · have HG : Hid (Vr.get l x = (0, 0, 2)) := Lib.hid (by simp [Vr.get, hx])
    go_enter Try.func56, Try.ntmps56
    go_wp2
    go_ret3
    exact ⟨by rw [HG.out]; rfl, rfl⟩
  · obtain ⟨k, rfl⟩ := Int.eq_ofNat_of_zero_le (by omega : 0 ≤ x)
    have hd0 : l.drop (k : Int).toNat = l.drop k := rfl
    by_cases hk : l.length < k
    · have hd : l.drop k = [] := List.drop_eq_nil_of_le (by omega)
      have HG : Hid (Vr.get l k = (0, 0, 5)) := Lib.hid (by simp [Vr.get, hd, Vr.span])
      go_enter Try.func56, Try.ntmps56
      go_wp2_with fail
      refine (span_any _ _ (by simp)).mono ?_
      rintro e w' ⟨rfl, rfl⟩
      go_wp2_with fail
      go_ret3
      exact ⟨by rw [HG.out]; rfl, rfl⟩
    · by_cases h0 : (Vr.span 0 (l.drop k)).2 = 0
      · generalize hm : (Vr.span 0 (l.drop k)).1 = m
        have hs : Vr.span 0 (l.drop k) = (m, 0) := Prod.ext_iff.2 ⟨hm, h0⟩
        have HS := Lib.hid hs
        have HG : Hid (Vr.get l k = (Vr.val ((l.drop k).take m), (k : Int) + (m : Int), 0)) := Lib.hid (by simp [Vr.get, hs])
        obtain ⟨_, hm10, hml, _⟩ := Vr.span_ok _ 0 m (by omega) hs
        simp only [List.length_drop, Nat.sub_zero] at hml
        clear h0 hm hs
        go_enter Try.func56, Try.ntmps56
        go_wp2_with fail
        refine (span_any _ _ (by simp; omega)).mono ?_
        rw [HS.out]
        rintro e w' ⟨rfl, rfl⟩
        go_wp2_with fail
        go_loop [9, 10] (fun n i => ∃ j : Nat, i = .int .i64 ((j : Int) - 1) ∧ j ≤ m ∧ n = .int .u64 (Vr.val (((l.drop k).take m).drop j))) (fun _ i => (intOf i + 1).toNat)
        case atStart =>
          exact ⟨m, rfl, by omega, by rw [List.drop_of_length_le (by simp; omega)]; rfl⟩
        case round =>
          obtain ⟨j, rfl, hj, rfl⟩ := hrel
          by_cases h1 : 1 ≤ j
          · go_wp2_with fail
            refine ⟨⟨j - 1, by rw [show ((j - 1 : Nat) : Int) = (j : Int) - 1 by omega], by omega, ?_⟩, by simp [intOf]; omega⟩
            rw [or_shift7 _ _ (Vr.val_room HS.out j h1 hj) (UInt8.toNat_lt _), Vr.val_back l k m j h1 hj (by omega)]
          · obtain rfl : j = 0 := by omega
            go_wp2_with fail
            go_ret3
            exact ⟨by rw [HG.out]; rfl, rfl⟩
      · generalize hm : (Vr.span 0 (l.drop k)).2 = m at h0
        have hm1 : (Vr.span 0 (l.drop k)).1 = 0 := by
          have := Vr.span_err (l.drop k) 0
          omega
        have HS : Hid (Vr.span 0 (l.drop k) = (0, m)) := Lib.hid (Prod.ext_iff.2 ⟨hm1, hm⟩)
        have HG : Hid (Vr.get l k = (0, 0, m)) := Lib.hid (by simp [Vr.get, hm, h0]; omega)
        have hm0 : (((m : Nat) : Int) != 0) = true := by simp; omega
        clear hm hm1
        go_enter Try.func56, Try.ntmps56
        go_wp2_with fail
        refine (span_any _ _ (by simp; omega)).mono ?_
        rw [HS.out]
        rintro e w' ⟨rfl, rfl⟩
        go_wp2_with fail
        go_ret3
        exact ⟨by rw [HG.out]; rfl, rfl⟩
end Go.Proofs.Ytkhepehgafijfaa
