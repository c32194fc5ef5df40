/- Walks of Take, of the program and of the reference. Condition: the text is no longer than an int can say. -/
import Derived.Test.YtkhepehgafijfaaVarintGet
import Derived.Test.YtkhepehgafijfaaVarintRefGet
namespace Go.Proofs.Ytkhepehgafijfaa
open Go.RowKit

set_option maxHeartbeats 400000 in
set_option maxRecDepth 100000 in
theorem take_any (l : List UInt8) (x most : Int) (w : World) (hl : l.length ≤ 9223372036854775807) (hx2 : x ≤ 9223372036854775807) (hm2 : most ≤ 9223372036854775807) :
    Calls Try.prog 81 #[.string (bs l), .int .i64 x, .int .i64 most] w fun e w' => e = .returned (.tuple #[.string (bs (Vr.take l x most).1), .int .i64 (Vr.take l x most).2.1, .int .i64 (Vr.take l x most).2.2]) ∧ w' = w := by
  by_cases h0 : (Vr.get l x).2.2 = 0
  · obtain ⟨n, nx, hg⟩ : ∃ n nx, Vr.get l x = (n, nx, 0) := ⟨(Vr.get l x).1, (Vr.get l x).2.1, by rw [← h0]⟩
    obtain ⟨k, m, rfl, rfl, hkm, h1, h2, -, -, h64⟩ := Vr.get_ok hg
    have HG := Lib.hid hg
    by_cases ha : most < 0
    · have HT : Hid (Vr.take l k most = ([], 0, 6)) := Lib.hid (Vr.take_long hg (by omega))
      clear hg h0
      go_enter Try.func81, Try.ntmps81
      go_wp2_with fail
      refine (get_any _ _ _ (by omega)).mono ?_
      rw [HG.out]
      rintro e w' ⟨rfl, rfl⟩
      go_wp2_with fail
      go_ret3
      exact ⟨by rw [HT.out]; rfl, rfl⟩
    · have hw : IntKind.u64.wrap most = most := by
        obtain ⟨q, rfl⟩ := Int.eq_ofNat_of_zero_le (by omega : 0 ≤ most)
        exact wrap_u64_nat _ (by omega)
      by_cases hb : most < (n : Int)
      · have HT : Hid (Vr.take l k most = ([], 0, 6)) := Lib.hid (Vr.take_long hg (by omega))
        clear hg h0
        go_enter Try.func81, Try.ntmps81
        go_wp2_with fail
        refine (get_any _ _ _ (by omega)).mono ?_
        rw [HG.out]
        rintro e w' ⟨rfl, rfl⟩
        go_wp2_with fail
        go_ret3
        exact ⟨by rw [HT.out]; rfl, rfl⟩
      · by_cases hc : (l.length : Int) - ((k + m : Nat) : Int) < (n : Int)
        · have HT : Hid (Vr.take l k most = ([], 0, 5)) := Lib.hid (Vr.take_short hg (by omega) hc)
          clear hg h0
          go_enter Try.func81, Try.ntmps81
          go_wp2_with fail
          refine (get_any _ _ _ (by omega)).mono ?_
          rw [HG.out]
          rintro e w' ⟨rfl, rfl⟩
          go_wp2_with fail
          go_ret3
          exact ⟨by rw [HT.out]; rfl, rfl⟩
        · have HT : Hid (Vr.take l k most = ((l.drop (k + m)).take n, ((k + m : Nat) : Int) + n, 0)) := Lib.hid (by rw [Vr.take_fine hg (by omega) hc]; rfl)
          clear hg h0
          go_enter Try.func81, Try.ntmps81
          go_wp2_with fail
          refine (get_any _ _ _ (by omega)).mono ?_
          rw [HG.out]
          rintro e w' ⟨rfl, rfl⟩
          go_wp2_with fail
          go_ret3
          exact ⟨by rw [HT.out]; simp, rfl⟩
  · obtain ⟨e0, he⟩ : ∃ e0, (Vr.get l x).2.2 = e0 := ⟨_, rfl⟩
    rw [he] at h0
    have HG : Hid (Vr.get l x = (0, 0, e0)) := Lib.hid (by
      obtain ⟨a, b⟩ := Vr.get_err (l := l) (x := x) (by omega)
      exact Prod.ext_iff.2 ⟨a, Prod.ext_iff.2 ⟨b, he⟩⟩)
    have HT : Hid (Vr.take l x most = ([], 0, e0)) := Lib.hid (by simp [Vr.take, he, h0])
    have hne : (((e0 : Nat) : Int) != 0) = true := by simp; omega
    clear he h0
    go_enter Try.func81, Try.ntmps81
    go_wp2_with fail
    refine (get_any _ _ _ (by omega)).mono ?_
    rw [HG.out]
    rintro e w' ⟨rfl, rfl⟩
    go_wp2_with fail
    go_ret3
    exact ⟨by rw [HT.out]; rfl, rfl⟩

set_option maxHeartbeats 400000 in
set_option maxRecDepth 100000 in
theorem refTake_any (l : List UInt8) (x most : Int) (w : World) (hl : l.length ≤ 9223372036854775807) (hx2 : x ≤ 9223372036854775807) (hm2 : most ≤ 9223372036854775807) :
    Calls Try.prog 61 #[.string (bs l), .int .i64 x, .int .i64 most] w fun e w' => e = .returned (.tuple #[.string (bs (Vr.take l x most).1), .int .i64 (Vr.take l x most).2.1, .int .i64 (Vr.take l x most).2.2]) ∧ w' = w := by
  by_cases h0 : (Vr.get l x).2.2 = 0
  · obtain ⟨n, nx, hg⟩ : ∃ n nx, Vr.get l x = (n, nx, 0) := ⟨(Vr.get l x).1, (Vr.get l x).2.1, by rw [← h0]⟩
    obtain ⟨k, m, rfl, rfl, hkm, h1, h2, -, -, h64⟩ := Vr.get_ok hg
    have HG := Lib.hid hg
    by_cases ha : most < 0
    · have HT : Hid (Vr.take l k most = ([], 0, 6)) := Lib.hid (Vr.take_long hg (by omega))
      clear hg h0
      go_enter Try.func61, Try.ntmps61
      go_wp2_with fail
      refine (refGet_any _ _ _ (by omega) (by omega)).mono ?_
      rw [HG.out]
      rintro e w' ⟨rfl, rfl⟩
      go_wp2_with fail
      go_ret3
      exact ⟨by rw [HT.out]; rfl, rfl⟩
    · have hw : IntKind.u64.wrap most = most := by
        obtain ⟨q, rfl⟩ := Int.eq_ofNat_of_zero_le (by omega : 0 ≤ most)
        exact wrap_u64_nat _ (by omega)
      by_cases hb : most < (n : Int)
      · have HT : Hid (Vr.take l k most = ([], 0, 6)) := Lib.hid (Vr.take_long hg (by omega))
        clear hg h0
        go_enter Try.func61, Try.ntmps61
        go_wp2_with fail
        refine (refGet_any _ _ _ (by omega) (by omega)).mono ?_
        rw [HG.out]
        rintro e w' ⟨rfl, rfl⟩
        go_wp2_with fail
        go_ret3
        exact ⟨by rw [HT.out]; rfl, rfl⟩
      · by_cases hc : (l.length : Int) - ((k + m : Nat) : Int) < (n : Int)
        · have HT : Hid (Vr.take l k most = ([], 0, 5)) := Lib.hid (Vr.take_short hg (by omega) hc)
          clear hg h0
          go_enter Try.func61, Try.ntmps61
          go_wp2_with fail
          refine (refGet_any _ _ _ (by omega) (by omega)).mono ?_
          rw [HG.out]
          rintro e w' ⟨rfl, rfl⟩
          go_wp2_with fail
          go_ret3
          exact ⟨by rw [HT.out]; rfl, rfl⟩
        · have HT : Hid (Vr.take l k most = ((l.drop (k + m)).take n, ((k + m : Nat) : Int) + n, 0)) := Lib.hid (by rw [Vr.take_fine hg (by omega) hc]; rfl)
          clear hg h0
          go_enter Try.func61, Try.ntmps61
          go_wp2_with fail
          refine (refGet_any _ _ _ (by omega) (by omega)).mono ?_
          rw [HG.out]
          rintro e w' ⟨rfl, rfl⟩
          go_wp2_with fail
          go_ret3
          exact ⟨by rw [HT.out]; simp, rfl⟩
  · obtain ⟨e0, he⟩ : ∃ e0, (Vr.get l x).2.2 = e0 := ⟨_, rfl⟩
    rw [he] at h0
    have HG : Hid (Vr.get l x = (0, 0, e0)) := Lib.hid (by
      obtain ⟨a, b⟩ := Vr.get_err (l := l) (x := x) (by omega)
      exact Prod.ext_iff.2 ⟨a, Prod.ext_iff.2 ⟨b, he⟩⟩)
    have HT : Hid (Vr.take l x most = ([], 0, e0)) := Lib.hid (by simp [Vr.take, he, h0])
    have hne : (((e0 : Nat) : Int) != 0) = true := by simp; omega
    clear he h0
    go_enter Try.func61, Try.ntmps61
    go_wp2_with fail
    refine (refGet_any _ _ _ (by omega) (by omega)).mono ?_
    rw [HG.out]
    rintro e w' ⟨rfl, rfl⟩
    go_wp2_with fail
    go_ret3
    exact ⟨by rw [HT.out]; rfl, rfl⟩

end Go.Proofs.Ytkhepehgafijfaa
