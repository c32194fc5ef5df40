/- Walks of octet's within, split, Put and Get at the widths that the program uses, and of the reference's. Conditions: those widths; numbers that fit. -/
import Derived.Test.YtkhepehgafijfaaProg
import Derived.Test.YtkhepehgafijfaaLib
import Derived.Test.YtkhepehgafijfaaOctetSpec
import Derived.Test.YtkhepehgafijfaaVarintPut
namespace Go.Proofs.Ytkhepehgafijfaa
open Go.RowKit

/-- What a function leaves that answers bytes of its own. -/
def RowOf (w : World) (l : List UInt8) (e : Ending) (w' : World) : Prop := ∃ v, e = .returned v ∧ BRow w' w.heap.size 5 v l ∧ Below w.heap.size w w'

set_option maxHeartbeats 400000 in
set_option maxRecDepth 100000 in
theorem within_8_8 (x : Int) (n : Nat) (hx : x = n) (w : World) (_hn : n < 18446744073709551616) :
    Calls Try.prog 65 #[.int .u64 x, .int .i64 8, .int .i64 8] w fun e w' => e = .returned (.bool true) ∧ w' = w := by
  subst hx
  go_enter Try.func65, Try.ntmps65
  go_wp2_with fail
  go_ret
  exact ⟨by first | rfl | (refine congrArg (fun r => Ending.returned (.bool r)) (?_ : _ = true); simp; omega), rfl⟩

set_option maxHeartbeats 400000 in
set_option maxRecDepth 100000 in
theorem within_8_4 (x : Int) (n : Nat) (hx : x = n) (w : World) (hn : n < 4294967296) :
    Calls Try.prog 65 #[.int .u64 x, .int .i64 8, .int .i64 4] w fun e w' => e = .returned (.bool true) ∧ w' = w := by
  subst hx
  go_enter Try.func65, Try.ntmps65
  go_wp2_with fail
  go_ret
  exact ⟨by first | rfl | (refine congrArg (fun r => Ending.returned (.bool r)) (?_ : _ = true); simp; omega), rfl⟩

set_option maxHeartbeats 400000 in
set_option maxRecDepth 100000 in
theorem split_8 (k : Nat) (x y : Int) (n : Nat) (hx : x = n) (hy : y = k) (w : World) (hn : n < 18446744073709551616) (h1 : 1 ≤ k) (h16 : k ≤ 16) :
    Calls Try.prog 66 #[.int .u64 x, .int .i64 8, .int .i64 y] w (RowOf w (Oc.digs 256 k n)) := by
  subst hx; subst hy
  go_enter Try.func66, Try.ntmps66
  go_wp2_with (at_make; refine wpList_make_bytes w rfl (.tmp 9) (.tmp 9) 40 rfl w.heap.size 5 Try.underlying40 info_u8 k rfl rfl (by omega) (Nat.le_refl _) ?_; intro w1 hrow hb)
  go_loopw [0, 12] (fun m v wr => ∃ i q : Nat, v = .int .i64 i ∧ m = .int .u64 q ∧ i ≤ k ∧ q < 18446744073709551616 ∧ Hid (q = n / 256 ^ i) ∧ BRow wr w.heap.size 5 (.slice (some ⟨w.heap.size, 0, none⟩) k k) (Oc.part 256 k i n) ∧ Below w.heap.size w wr)
    (fun _ v _ => k - (intOf v).toNat)
  case atStart => exact ⟨0, n, rfl, rfl, by omega, hn, Lib.hid (by simp), by rw [Oc.part_zero]; exact hrow, hb⟩
  case round =>
    obtain ⟨i, q, rfl, rfl, hi, hq, HQ, hown, hbr⟩ := hrel
    by_cases hlt : i < k
    · have HL := Lib.hid (Oc.part_len 256 k i n hi)
      obtain ⟨old, hcell⟩ : ∃ old : Int, wr.cell? ⟨w.heap.size, k - 1 - i, none⟩ = some (.int .u8 old) := ⟨_, hown.cell (k - 1 - i) (by have := HL.out; omega)⟩
      have hfz := hown.frozen HL.out.symm (k - 1 - i)
      have hz : w.heap.size < wr.heap.size := (hown.lt _ rfl).2
      go_wp2_with fail
      refine ⟨⟨i + 1, q / 256, rfl, rfl, by omega, by omega, Lib.hid (by rw [HQ.out, Nat.div_div_eq_div_mul, Nat.pow_succ]), ?_, hbr.setCell (Nat.le_refl _) _⟩, by simp [intOf]; omega⟩
      rw [bits_and_255, HQ.out, ← Oc.part_next _ _ _ _ hlt]
      exact hown.store HL.out.symm _ _
    · obtain rfl : i = k := by omega
      go_wp2_with fail
      go_ret
      exact ⟨_, rfl, by rw [← Oc.part_full]; exact hown, hbr⟩


set_option maxHeartbeats 400000 in
set_option maxRecDepth 100000 in
theorem octPut8_any (x : Int) (n : Nat) (hx : x = n) (w : World) (hn : n < 18446744073709551616) :
    Calls Try.prog 43 #[.int .u64 x, .int .i64 8] w fun e w' => e = .returned (.tuple #[.string (bs (Oc.digs 256 8 n)), .int .i64 0]) ∧ Below w.heap.size w w' := by
  subst hx
  go_enter Try.func43, Try.ntmps43
  go_wp2_with fail
  refine (within_8_8 _ n rfl _ hn).mono ?_
  rintro e w' ⟨rfl, rfl⟩
  go_wp2_with fail
  refine (split_8 8 _ _ n rfl rfl _ (by omega) (by omega) (by omega)).mono ?_
  rintro e w1 ⟨v, rfl, hrow, hb⟩
  go_wp2_with (refine wpList_string_row rfl (.tmp 18) 40 9 rfl _ _ _ _ hrow Try.underlying40 Try.underlying5 Try.underlying9 rfl ?_)
  go_ret2
  exact ⟨rfl, hb⟩

set_option maxHeartbeats 400000 in
set_option maxRecDepth 100000 in
theorem octPut4_any (x : Int) (n : Nat) (hx : x = n) (w : World) (hn : n < 4294967296) :
    Calls Try.prog 43 #[.int .u64 x, .int .i64 4] w fun e w' => e = .returned (.tuple #[.string (bs (Oc.digs 256 4 n)), .int .i64 0]) ∧ Below w.heap.size w w' := by
  subst hx
  go_enter Try.func43, Try.ntmps43
  go_wp2_with fail
  refine (within_8_4 _ n rfl _ hn).mono ?_
  rintro e w' ⟨rfl, rfl⟩
  go_wp2_with fail
  refine (split_8 4 _ _ n rfl rfl _ (by omega) (by omega) (by omega)).mono ?_
  rintro e w1 ⟨v, rfl, hrow, hb⟩
  go_wp2_with (refine wpList_string_row rfl (.tmp 18) 40 9 rfl _ _ _ _ hrow Try.underlying40 Try.underlying5 Try.underlying9 rfl ?_)
  go_ret2
  exact ⟨rfl, hb⟩


set_option maxHeartbeats 400000 in
set_option maxRecDepth 100000 in
theorem octGet8_any (l : List UInt8) (x : Int) (k : Nat) (hx : x = k) (w : World) (hl : l.length ≤ 9223372036854775807) (hk : k ≤ 9223372036854775807) :
    Calls Try.prog 80 #[.string (bs l), .int .i64 x, .int .i64 8] w fun e w' => e = .returned (.tuple #[.int .u64 (Oc.get8 l k).1, .int .i64 (Oc.get8 l k).2]) ∧ w' = w := by
  subst hx
  by_cases hs : l.length < k + 8
  · have HG : Hid (Oc.get8 l k = (0, 5)) := Lib.hid (by simp [Oc.get8, hs])
    go_enter Try.func80, Try.ntmps80
    go_wp2_with fail
    go_ret2
    exact ⟨by rw [HG.out]; rfl, rfl⟩
  · have HG : Hid (Oc.get8 l k = (Oc.num ((l.drop k).take 8), 0)) := Lib.hid (by simp [Oc.get8, hs])
    go_enter Try.func80, Try.ntmps80
    go_wp2_with fail
    go_loop [8, 25] (fun n i => ∃ j : Nat, i = .int .i64 j ∧ j ≤ 8 ∧ n = .int .u64 (Oc.num ((l.drop k).take j))) (fun _ i => 8 - (intOf i).toNat)
    case atStart => exact ⟨0, rfl, by omega, rfl⟩
    case round =>
      obtain ⟨j, rfl, hj, rfl⟩ := hrel
      by_cases hlt : j < 8
      · go_wp2_with fail
        have hb := UInt8.toNat_lt l[k + j]
        have hr := Oc.num_room (l.drop k) j hlt
        exact ⟨⟨j + 1, rfl, by omega, by rw [or_shift8 _ _ (by omega) hb, Oc.num_next l k j (by omega)]⟩, by simp [intOf]; omega⟩
      · obtain rfl : j = 8 := by omega
        go_wp2_with fail
        go_ret2
        exact ⟨by rw [HG.out]; rfl, rfl⟩

set_option maxHeartbeats 400000 in
set_option maxRecDepth 100000 in
theorem refGet8_any (l : List UInt8) (x : Int) (k : Nat) (hx : x = k) (w : World) (hl : l.length ≤ 9223372036854775807) (hk : k ≤ 9223372036854775807) :
    Calls Try.prog 72 #[.string (bs l), .int .i64 x, .int .i64 8] w fun e w' => e = .returned (.tuple #[.int .u64 (Oc.get8 l k).1, .int .i64 (Oc.get8 l k).2]) ∧ w' = w := by
  subst hx
  by_cases hs : l.length < k + 8
  · have HG : Hid (Oc.get8 l k = (0, 5)) := Lib.hid (by simp [Oc.get8, hs])
    by_cases hs2 : l.length ≤ k
    all_goals
      go_enter Try.func72, Try.ntmps72
      go_wp2_with fail
      go_ret2
      exact ⟨by rw [HG.out]; rfl, rfl⟩
  · have HG : Hid (Oc.get8 l k = (Oc.num ((l.drop k).take 8), 0)) := Lib.hid (by simp [Oc.get8, hs])
    have hd1 : decide (l.length ≤ k) = false := by simp; omega
    have hd2 : decide ((l.length : Int) - (k : Int) < 8) = false := by simp; omega
    go_enter Try.func72, Try.ntmps72
    go_wp2_with fail
    go_loop [8, 9] (fun n i => ∃ j : Nat, i = .int .i64 j ∧ j ≤ 8 ∧ n = .int .u64 (Oc.num ((l.drop k).take j))) (fun _ i => 8 - (intOf i).toNat)
    case atStart => exact ⟨0, rfl, by omega, rfl⟩
    case round =>
      obtain ⟨j, rfl, hj, rfl⟩ := hrel
      by_cases hlt : j < 8
      · go_wp2_with fail
        have hb := UInt8.toNat_lt l[k + j]
        have hr := Oc.num_room (l.drop k) j hlt
        exact ⟨⟨j + 1, rfl, by omega, by rw [wrap_times256 _ _ (by omega), Oc.num_next l k j (by omega)]⟩, by simp [intOf]; omega⟩
      · obtain rfl : j = 8 := by omega
        go_wp2_with fail
        go_ret2
        exact ⟨by rw [HG.out]; rfl, rfl⟩

set_option maxHeartbeats 400000 in
set_option maxRecDepth 100000 in
theorem refFits8_any (x : Int) (n : Nat) (hx : x = n) (w : World) (hn : n < 18446744073709551616) :
    Calls Try.prog 64 #[.int .u64 x, .int .u64 256, .int .i64 8] w fun e w' => e = .returned (.bool true) ∧ w' = w := by
  subst hx
  go_enter Try.func64, Try.ntmps64
  go_wp2_with fail
  go_loop [0, 7] (fun m v => ∃ i q : Nat, v = .int .i64 i ∧ m = .int .u64 q ∧ i ≤ 8 ∧ q < 18446744073709551616 ∧ Hid (q = n / 256 ^ i)) (fun _ v => 8 - (intOf v).toNat)
  case atStart => exact ⟨0, n, rfl, rfl, by omega, by omega, Lib.hid (by simp)⟩
  case round =>
    obtain ⟨i, q, rfl, rfl, hi, hq, HQ⟩ := hrel
    by_cases hlt : i < 8
    · go_wp2_with fail
      exact ⟨⟨i + 1, q / 256, rfl, rfl, by omega, by omega, Lib.hid (by rw [HQ.out, Nat.div_div_eq_div_mul, Nat.pow_succ])⟩, by simp [intOf]; omega⟩
    · obtain rfl : i = 8 := by omega
      have h0 : q = 0 := by
        have := HQ.out
        rw [show (256 : Nat) ^ 8 = 18446744073709551616 from rfl] at this
        omega
      subst h0
      go_wp2_with fail
      go_ret
      exact ⟨rfl, rfl⟩

set_option maxHeartbeats 400000 in
set_option maxRecDepth 100000 in
theorem refOctPut8_any (x : Int) (n : Nat) (hx : x = n) (w : World) (hn : n < 18446744073709551616) :
    Calls Try.prog 40 #[.int .u64 x, .int .i64 8] w fun e w' => e = .returned (.tuple #[.string (bs (Oc.digs 256 8 n)), .int .i64 0]) ∧ Below w.heap.size w w' := by
  subst hx
  go_enter Try.func40, Try.ntmps40
  go_wp2_with fail
  refine (refFits8_any _ n rfl _ hn).mono ?_
  rintro e w' ⟨rfl, rfl⟩
  go_wp2_with fail
  obtain ⟨w0, hw0⟩ : ∃ w0 : World, w0 = w' := ⟨_, rfl⟩
  have HW := Lib.hid hw0
  clear hw0
  go_loopw [0, 6, 7] (fun m s v wr => ∃ i q : Nat, v = .int .i64 i ∧ m = .int .u64 q ∧ i ≤ 8 ∧ q < 18446744073709551616 ∧ Hid (q = n / 256 ^ i) ∧ s = .string (bs (Oc.digs 256 i n)) ∧ Below w0.heap.size w0 wr) (fun _ _ v _ => 8 - (intOf v).toNat)
  case atStart => exact ⟨0, n, rfl, rfl, by omega, by omega, Lib.hid (by simp), rfl, by rw [HW.out]; exact Below.refl _ _⟩
  case round =>
    obtain ⟨i, q, rfl, rfl, hi, hq, HQ, rfl, hbr⟩ := hrel
    by_cases hlt : i < 8
    · have hdl := Oc.digs_len 256 i n
      have HD := Lib.hid (Oc.digs_front 256 i n)
      rw [← HQ.out] at HD
      have hle : (Oc.digs 256 i n).length ≤ 8 := by omega
      clear hdl
      go_wp2_with fail
      refine (refByte_any _ q rfl _).mono ?_
      rintro e w2 ⟨rfl, hb⟩
      go_wp2_with fail
      exact ⟨⟨i + 1, q / 256, rfl, rfl, by omega, by omega, Lib.hid (by rw [HQ.out, Nat.div_div_eq_div_mul, Nat.pow_succ]), by rw [HD.out, ofNat_mod], hbr.trans (hb.mono hbr.size)⟩, by simp [intOf]; omega⟩
    · obtain rfl : i = 8 := by omega
      go_wp2_with fail
      go_ret2
      exact ⟨rfl, by rw [← HW.out]; exact hbr⟩

set_option maxHeartbeats 400000 in
set_option maxRecDepth 100000 in
theorem refFits4_any (x : Int) (n : Nat) (hx : x = n) (w : World) (hn : n < 4294967296) :
    Calls Try.prog 64 #[.int .u64 x, .int .u64 256, .int .i64 4] w fun e w' => e = .returned (.bool true) ∧ w' = w := by
  subst hx
  go_enter Try.func64, Try.ntmps64
  go_wp2_with fail
  go_loop [0, 7] (fun m v => ∃ i q : Nat, v = .int .i64 i ∧ m = .int .u64 q ∧ i ≤ 4 ∧ q < 18446744073709551616 ∧ Hid (q = n / 256 ^ i)) (fun _ v => 4 - (intOf v).toNat)
  case atStart => exact ⟨0, n, rfl, rfl, by omega, by omega, Lib.hid (by simp)⟩
  case round =>
    obtain ⟨i, q, rfl, rfl, hi, hq, HQ⟩ := hrel
    by_cases hlt : i < 4
    · go_wp2_with fail
      exact ⟨⟨i + 1, q / 256, rfl, rfl, by omega, by omega, Lib.hid (by rw [HQ.out, Nat.div_div_eq_div_mul, Nat.pow_succ])⟩, by simp [intOf]; omega⟩
    · obtain rfl : i = 4 := by omega
      have h0 : q = 0 := by
        have := HQ.out
        rw [show (256 : Nat) ^ 4 = 4294967296 from rfl] at this
        omega
      subst h0
      go_wp2_with fail
      go_ret
      exact ⟨rfl, rfl⟩

set_option maxHeartbeats 400000 in
set_option maxRecDepth 100000 in
theorem refOctPut4_any (x : Int) (n : Nat) (hx : x = n) (w : World) (hn : n < 4294967296) :
    Calls Try.prog 40 #[.int .u64 x, .int .i64 4] w fun e w' => e = .returned (.tuple #[.string (bs (Oc.digs 256 4 n)), .int .i64 0]) ∧ Below w.heap.size w w' := by
  subst hx
  go_enter Try.func40, Try.ntmps40
  go_wp2_with fail
  refine (refFits4_any _ n rfl _ hn).mono ?_
  rintro e w' ⟨rfl, rfl⟩
  go_wp2_with fail
  obtain ⟨w0, hw0⟩ : ∃ w0 : World, w0 = w' := ⟨_, rfl⟩
  have HW := Lib.hid hw0
  clear hw0
  go_loopw [0, 6, 7] (fun m s v wr => ∃ i q : Nat, v = .int .i64 i ∧ m = .int .u64 q ∧ i ≤ 4 ∧ q < 18446744073709551616 ∧ Hid (q = n / 256 ^ i) ∧ s = .string (bs (Oc.digs 256 i n)) ∧ Below w0.heap.size w0 wr) (fun _ _ v _ => 4 - (intOf v).toNat)
  case atStart => exact ⟨0, n, rfl, rfl, by omega, by omega, Lib.hid (by simp), rfl, by rw [HW.out]; exact Below.refl _ _⟩
  case round =>
    obtain ⟨i, q, rfl, rfl, hi, hq, HQ, rfl, hbr⟩ := hrel
    by_cases hlt : i < 4
    · have hdl := Oc.digs_len 256 i n
      have HD := Lib.hid (Oc.digs_front 256 i n)
      rw [← HQ.out] at HD
      have hle : (Oc.digs 256 i n).length ≤ 8 := by omega
      clear hdl
      go_wp2_with fail
      refine (refByte_any _ q rfl _).mono ?_
      rintro e w2 ⟨rfl, hb⟩
      go_wp2_with fail
      exact ⟨⟨i + 1, q / 256, rfl, rfl, by omega, by omega, Lib.hid (by rw [HQ.out, Nat.div_div_eq_div_mul, Nat.pow_succ]), by rw [HD.out, ofNat_mod], hbr.trans (hb.mono hbr.size)⟩, by simp [intOf]; omega⟩
    · obtain rfl : i = 4 := by omega
      go_wp2_with fail
      go_ret2
      exact ⟨rfl, by rw [← HW.out]; exact hbr⟩

end Go.Proofs.Ytkhepehgafijfaa
