/- Walks of octet's within, split, Put and Get at the widths that the program uses, and of the reference's. Conditions: those widths; numbers that fit.; Walks of varint.span and varint.Get. Condition: the text is no longer than an int can say.; Walk of the reference's Get. Condition: the text is no longer than an int can say.; Walks of Take, of the program and of the reference. Condition: the text is no longer than an int can say. -/
import Derived.Test.YtfbhdkkmcfnghaaGreatProg
import Derived.Test.YtfbhdkkmcfnghaaGreatM01
import Derived.Test.YtfbhdkkmcfnghaaGreatM09

section
namespace Go.Proofs.YtfbhdkkmcfnghaaGreat
open Go.RowKit

/-- What a function leaves that answers bytes of its own. -/
def RowOf (w : World) (l : List UInt8) (e : Ending) (w' : World) : Prop := ∃ v, e = .returned v ∧ BRow w' w.heap.size 5 v l ∧ Below w.heap.size w w'

set_option maxHeartbeats 400000 in
set_option maxRecDepth 100000 in
theorem within_8_8 (x : Int) (n : Nat) (hx : x = n) (w : World) (_hn : n < 18446744073709551616) :
    Calls Tryz.prog 160 #[.int .u64 x, .int .i64 8, .int .i64 8] w fun e w' => e = .returned (.bool true) ∧ w' = w := by
  subst hx
  go_enter Tryz.func160, Tryz.ntmps160
  go_wp2_with fail
  go_ret
  exact ⟨by first | rfl | (refine congrArg (fun r => Ending.returned (.bool r)) (?_ : _ = true); simp; omega), rfl⟩

set_option maxHeartbeats 400000 in
set_option maxRecDepth 100000 in
theorem within_8_4 (x : Int) (n : Nat) (hx : x = n) (w : World) (hn : n < 4294967296) :
    Calls Tryz.prog 160 #[.int .u64 x, .int .i64 8, .int .i64 4] w fun e w' => e = .returned (.bool true) ∧ w' = w := by
  subst hx
  go_enter Tryz.func160, Tryz.ntmps160
  go_wp2_with fail
  go_ret
  exact ⟨by first | rfl | (refine congrArg (fun r => Ending.returned (.bool r)) (?_ : _ = true); simp; omega), rfl⟩

set_option maxHeartbeats 400000 in
set_option maxRecDepth 100000 in
theorem split_8 (k : Nat) (x y : Int) (n : Nat) (hx : x = n) (hy : y = k) (w : World) (hn : n < 18446744073709551616) (h1 : 1 ≤ k) (h16 : k ≤ 16) :
    Calls Tryz.prog 161 #[.int .u64 x, .int .i64 8, .int .i64 y] w (RowOf w (Oc.digs 256 k n)) := by
  subst hx; subst hy
  go_enter Tryz.func161, Tryz.ntmps161
  go_wp2_with (at_make; refine wpList_make_bytes w rfl (.tmp 9) (.tmp 9) 152 rfl w.heap.size 5 Tryz.underlying152 info_u8 k rfl rfl (by omega) (Nat.le_refl _) ?_; intro w1 hrow hb)
  go_loopw [0, 12] (fun m v wr => ∃ i q : Nat, v = .int .i64 i ∧ m = .int .u64 q ∧ i ≤ k ∧ q < 18446744073709551616 ∧ Hid (q = n / 256 ^ i) ∧ BRow wr w.heap.size 5 (.slice (some ⟨w.heap.size, 0, none⟩) k k) (Oc.part 256 k i n) ∧ Below w.heap.size w wr)
    (fun _ v _ => k - (intOf v).toNat)
  case atStart => exact ⟨0, n, rfl, rfl, by omega, hn, Lib.hid (by simp), by rw [Oc.part_zero]; exact hrow, hb⟩
  case round =>
    obtain ⟨i, q, rfl, rfl, hi, hq, HQ, hown, hbr⟩ := hrel
    by_cases hlt : i < k
    · have HL := Lib.hid (Oc.part_len 256 k i n hi)
      obtain ⟨old, hcell⟩ : ∃ old : Int, wr.cell? ⟨w.heap.size, k - 1 - i, none⟩ = some (.int .u8 old) := ⟨_, hown.cell (k - 1 - i) (by have := HL.out; omega)⟩
      have hfz := hown.frozen HL.out.symm (k - 1 - i)
      have hz : w.heap.size < wr.heap.size := (hown.lt _ rfl).2
      go_wp2_with fail
      refine ⟨⟨i + 1, q / 256, rfl, rfl, by omega, by omega, Lib.hid (by rw [HQ.out, Nat.div_div_eq_div_mul, Nat.pow_succ]), ?_, hbr.setCell (Nat.le_refl _) _⟩, by simp [intOf]; omega⟩
      rw [bits_and_255, HQ.out, ← Oc.part_next _ _ _ _ hlt]
      exact hown.store HL.out.symm _ _
    · obtain rfl : i = k := by omega
      go_wp2_with fail
      go_ret
      exact ⟨_, rfl, by rw [← Oc.part_full]; exact hown, hbr⟩


set_option maxHeartbeats 400000 in
set_option maxRecDepth 100000 in
theorem octPut8_any (x : Int) (n : Nat) (hx : x = n) (w : World) (hn : n < 18446744073709551616) :
    Calls Tryz.prog 134 #[.int .u64 x, .int .i64 8] w fun e w' => e = .returned (.tuple #[.string (bs (Oc.digs 256 8 n)), .int .i64 0]) ∧ Below w.heap.size w w' := by
  subst hx
  go_enter Tryz.func134, Tryz.ntmps134
  go_wp2_with fail
  refine (within_8_8 _ n rfl _ hn).mono ?_
  rintro e w' ⟨rfl, rfl⟩
  go_wp2_with fail
  refine (split_8 8 _ _ n rfl rfl _ (by omega) (by omega) (by omega)).mono ?_
  rintro e w1 ⟨v, rfl, hrow, hb⟩
  go_wp2_with (refine wpList_string_row rfl (.tmp 18) 152 9 rfl _ _ _ _ hrow Tryz.underlying152 Tryz.underlying5 Tryz.underlying9 rfl ?_)
  go_ret2
  exact ⟨rfl, hb⟩

set_option maxHeartbeats 400000 in
set_option maxRecDepth 100000 in
theorem octPut4_any (x : Int) (n : Nat) (hx : x = n) (w : World) (hn : n < 4294967296) :
    Calls Tryz.prog 134 #[.int .u64 x, .int .i64 4] w fun e w' => e = .returned (.tuple #[.string (bs (Oc.digs 256 4 n)), .int .i64 0]) ∧ Below w.heap.size w w' := by
  subst hx
  go_enter Tryz.func134, Tryz.ntmps134
  go_wp2_with fail
  refine (within_8_4 _ n rfl _ hn).mono ?_
  rintro e w' ⟨rfl, rfl⟩
  go_wp2_with fail
  refine (split_8 4 _ _ n rfl rfl _ (by omega) (by omega) (by omega)).mono ?_
  rintro e w1 ⟨v, rfl, hrow, hb⟩
  go_wp2_with (refine wpList_string_row rfl (.tmp 18) 152 9 rfl _ _ _ _ hrow Tryz.underlying152 Tryz.underlying5 Tryz.underlying9 rfl ?_)
  go_ret2
  exact ⟨rfl, hb⟩


set_option maxHeartbeats 400000 in
set_option maxRecDepth 100000 in
theorem octGet8_any (l : List UInt8) (x : Int) (k : Nat) (hx : x = k) (w : World) (hl : l.length ≤ 9223372036854775807) (hk : k ≤ 9223372036854775807) :
    Calls Tryz.prog 168 #[.string (bs l), .int .i64 x, .int .i64 8] w fun e w' => e = .returned (.tuple #[.int .u64 (Oc.get8 l k).1, .int .i64 (Oc.get8 l k).2]) ∧ w' = w := by
  subst hx
  by_cases hs : l.length < k + 8
  · have HG : Hid (Oc.get8 l k = (0, 5)) := Lib.hid (by simp [Oc.get8, hs])
    go_enter Tryz.func168, Tryz.ntmps168
    go_wp2_with fail
    go_ret2
    exact ⟨by rw [HG.out]; rfl, rfl⟩
  · have HG : Hid (Oc.get8 l k = (Oc.num ((l.drop k).take 8), 0)) := Lib.hid (by simp [Oc.get8, hs])
    go_enter Tryz.func168, Tryz.ntmps168
    go_wp2_with fail
    go_loop [8, 25] (fun n i => ∃ j : Nat, i = .int .i64 j ∧ j ≤ 8 ∧ n = .int .u64 (Oc.num ((l.drop k).take j))) (fun _ i => 8 - (intOf i).toNat)
    case atStart => exact ⟨0, rfl, by omega, rfl⟩
    case round =>
      obtain ⟨j, rfl, hj, rfl⟩ := hrel
      by_cases hlt : j < 8
      · go_wp2_with fail
        have hb := UInt8.toNat_lt l[k + j]
        have hr := Oc.num_room (l.drop k) j hlt
        exact ⟨⟨j + 1, rfl, by omega, by rw [or_shift8 _ _ (by omega) hb, Oc.num_next l k j (by omega)]⟩, by simp [intOf]; omega⟩
      · obtain rfl : j = 8 := by omega
        go_wp2_with fail
        go_ret2
        exact ⟨by rw [HG.out]; rfl, rfl⟩

set_option maxHeartbeats 400000 in
set_option maxRecDepth 100000 in
theorem refGet8_any (l : List UInt8) (x : Int) (k : Nat) (hx : x = k) (w : World) (hl : l.length ≤ 9223372036854775807) (hk : k ≤ 9223372036854775807) :
    Calls Tryz.prog 137 #[.string (bs l), .int .i64 x, .int .i64 8] w fun e w' => e = .returned (.tuple #[.int .u64 (Oc.get8 l k).1, .int .i64 (Oc.get8 l k).2]) ∧ w' = w := by
  subst hx
  by_cases hs : l.length < k + 8
  · have HG : Hid (Oc.get8 l k = (0, 5)) := Lib.hid (by simp [Oc.get8, hs])
    by_cases hs2 : l.length ≤ k
    all_goals
      go_enter Tryz.func137, Tryz.ntmps137
      go_wp2_with fail
      go_ret2
      exact ⟨by rw [HG.out]; rfl, rfl⟩
  · have HG : Hid (Oc.get8 l k = (Oc.num ((l.drop k).take 8), 0)) := Lib.hid (by simp [Oc.get8, hs])
    have hd1 : decide (l.length ≤ k) = false := by simp; omega
    have hd2 : decide ((l.length : Int) - (k : Int) < 8) = false := by simp; omega
    go_enter Tryz.func137, Tryz.ntmps137
    go_wp2_with fail
    go_loop [8, 9] (fun n i => ∃ j : Nat, i = .int .i64 j ∧ j ≤ 8 ∧ n = .int .u64 (Oc.num ((l.drop k).take j))) (fun _ i => 8 - (intOf i).toNat)
    case atStart => exact ⟨0, rfl, by omega, rfl⟩
    case round =>
      obtain ⟨j, rfl, hj, rfl⟩ := hrel
      by_cases hlt : j < 8
      · go_wp2_with fail
        have hb := UInt8.toNat_lt l[k + j]
        have hr := Oc.num_room (l.drop k) j hlt
        exact ⟨⟨j + 1, rfl, by omega, by rw [wrap_times256 _ _ (by omega), Oc.num_next l k j (by omega)]⟩, by simp [intOf]; omega⟩
      · obtain rfl : j = 8 := by omega
        go_wp2_with fail
        go_ret2
        exact ⟨by rw [HG.out]; rfl, rfl⟩

set_option maxHeartbeats 400000 in
set_option maxRecDepth 100000 in
theorem refFits8_any (x : Int) (n : Nat) (hx : x = n) (w : World) (hn : n < 18446744073709551616) :
    Calls Tryz.prog 116 #[.int .u64 x, .int .u64 256, .int .i64 8] w fun e w' => e = .returned (.bool true) ∧ w' = w := by
  subst hx
  go_enter Tryz.func116, Tryz.ntmps116
  go_wp2_with fail
  go_loop [0, 7] (fun m v => ∃ i q : Nat, v = .int .i64 i ∧ m = .int .u64 q ∧ i ≤ 8 ∧ q < 18446744073709551616 ∧ Hid (q = n / 256 ^ i)) (fun _ v => 8 - (intOf v).toNat)
  case atStart => exact ⟨0, n, rfl, rfl, by omega, by omega, Lib.hid (by simp)⟩
  case round =>
    obtain ⟨i, q, rfl, rfl, hi, hq, HQ⟩ := hrel
    by_cases hlt : i < 8
    · go_wp2_with fail
      exact ⟨⟨i + 1, q / 256, rfl, rfl, by omega, by omega, Lib.hid (by rw [HQ.out, Nat.div_div_eq_div_mul, Nat.pow_succ])⟩, by simp [intOf]; omega⟩
    · obtain rfl : i = 8 := by omega
      have h0 : q = 0 := by
        have := HQ.out
        rw [show (256 : Nat) ^ 8 = 18446744073709551616 from rfl] at this
        omega
      subst h0
      go_wp2_with fail
      go_ret
      exact ⟨rfl, rfl⟩

set_option maxHeartbeats 400000 in
set_option maxRecDepth 100000 in
theorem refOctPut8_any (x : Int) (n : Nat) (hx : x = n) (w : World) (hn : n < 18446744073709551616) :
    Calls Tryz.prog 78 #[.int .u64 x, .int .i64 8] w fun e w' => e = .returned (.tuple #[.string (bs (Oc.digs 256 8 n)), .int .i64 0]) ∧ Below w.heap.size w w' := by
  subst hx
  go_enter Tryz.func78, Tryz.ntmps78
  go_wp2_with fail
  refine (refFits8_any _ n rfl _ hn).mono ?_
  rintro e w' ⟨rfl, rfl⟩
  go_wp2_with fail
  obtain ⟨w0, hw0⟩ : ∃ w0 : World, w0 = w' := ⟨_, rfl⟩
  have HW := Lib.hid hw0
  clear hw0
  go_loopw [0, 6, 7] (fun m s v wr => ∃ i q : Nat, v = .int .i64 i ∧ m = .int .u64 q ∧ i ≤ 8 ∧ q < 18446744073709551616 ∧ Hid (q = n / 256 ^ i) ∧ s = .string (bs (Oc.digs 256 i n)) ∧ Below w0.heap.size w0 wr) (fun _ _ v _ => 8 - (intOf v).toNat)
  case atStart => exact ⟨0, n, rfl, rfl, by omega, by omega, Lib.hid (by simp), rfl, by rw [HW.out]; exact Below.refl _ _⟩
  case round =>
    obtain ⟨i, q, rfl, rfl, hi, hq, HQ, rfl, hbr⟩ := hrel
    by_cases hlt : i < 8
    · have hdl := Oc.digs_len 256 i n
      have HD := Lib.hid (Oc.digs_front 256 i n)
      rw [← HQ.out] at HD
      have hle : (Oc.digs 256 i n).length ≤ 8 := by omega
      clear hdl
      go_wp2_with fail
      refine (refByte_any _ q rfl _).mono ?_
      rintro e w2 ⟨rfl, hb⟩
      go_wp2_with fail
      exact ⟨⟨i + 1, q / 256, rfl, rfl, by omega, by omega, Lib.hid (by rw [HQ.out, Nat.div_div_eq_div_mul, Nat.pow_succ]), by rw [HD.out, ofNat_mod], hbr.trans (hb.mono hbr.size)⟩, by simp [intOf]; omega⟩
    · obtain rfl : i = 8 := by omega
      go_wp2_with fail
      go_ret2
      exact ⟨rfl, by rw [← HW.out]; exact hbr⟩

set_option maxHeartbeats 400000 in
set_option maxRecDepth 100000 in
theorem refFits4_any (x : Int) (n : Nat) (hx : x = n) (w : World) (hn : n < 4294967296) :
    Calls Tryz.prog 116 #[.int .u64 x, .int .u64 256, .int .i64 4] w fun e w' => e = .returned (.bool true) ∧ w' = w := by
  subst hx
  go_enter Tryz.func116, Tryz.ntmps116
  go_wp2_with fail
  go_loop [0, 7] (fun m v => ∃ i q : Nat, v = .int .i64 i ∧ m = .int .u64 q ∧ i ≤ 4 ∧ q < 18446744073709551616 ∧ Hid (q = n / 256 ^ i)) (fun _ v => 4 - (intOf v).toNat)
  case atStart => exact ⟨0, n, rfl, rfl, by omega, by omega, Lib.hid (by simp)⟩
  case round =>
    obtain ⟨i, q, rfl, rfl, hi, hq, HQ⟩ := hrel
    by_cases hlt : i < 4
    · go_wp2_with fail
      exact ⟨⟨i + 1, q / 256, rfl, rfl, by omega, by omega, Lib.hid (by rw [HQ.out, Nat.div_div_eq_div_mul, Nat.pow_succ])⟩, by simp [intOf]; omega⟩
    · obtain rfl : i = 4 := by omega
      have h0 : q = 0 := by
        have := HQ.out
        rw [show (256 : Nat) ^ 4 = 4294967296 from rfl] at this
        omega
      subst h0
      go_wp2_with fail
      go_ret
      exact ⟨rfl, rfl⟩

set_option maxHeartbeats 400000 in
set_option maxRecDepth 100000 in
theorem refOctPut4_any (x : Int) (n : Nat) (hx : x = n) (w : World) (hn : n < 4294967296) :
    Calls Tryz.prog 78 #[.int .u64 x, .int .i64 4] w fun e w' => e = .returned (.tuple #[.string (bs (Oc.digs 256 4 n)), .int .i64 0]) ∧ Below w.heap.size w w' := by
  subst hx
  go_enter Tryz.func78, Tryz.ntmps78
  go_wp2_with fail
  refine (refFits4_any _ n rfl _ hn).mono ?_
  rintro e w' ⟨rfl, rfl⟩
  go_wp2_with fail
  obtain ⟨w0, hw0⟩ : ∃ w0 : World, w0 = w' := ⟨_, rfl⟩
  have HW := Lib.hid hw0
  clear hw0
  go_loopw [0, 6, 7] (fun m s v wr => ∃ i q : Nat, v = .int .i64 i ∧ m = .int .u64 q ∧ i ≤ 4 ∧ q < 18446744073709551616 ∧ Hid (q = n / 256 ^ i) ∧ s = .string (bs (Oc.digs 256 i n)) ∧ Below w0.heap.size w0 wr) (fun _ _ v _ => 4 - (intOf v).toNat)
  case atStart => exact ⟨0, n, rfl, rfl, by omega, by omega, Lib.hid (by simp), rfl, by rw [HW.out]; exact Below.refl _ _⟩
  case round =>
    obtain ⟨i, q, rfl, rfl, hi, hq, HQ, rfl, hbr⟩ := hrel
    by_cases hlt : i < 4
    · have hdl := Oc.digs_len 256 i n
      have HD := Lib.hid (Oc.digs_front 256 i n)
      rw [← HQ.out] at HD
      have hle : (Oc.digs 256 i n).length ≤ 8 := by omega
      clear hdl
      go_wp2_with fail
      refine (refByte_any _ q rfl _).mono ?_
      rintro e w2 ⟨rfl, hb⟩
      go_wp2_with fail
      exact ⟨⟨i + 1, q / 256, rfl, rfl, by omega, by omega, Lib.hid (by rw [HQ.out, Nat.div_div_eq_div_mul, Nat.pow_succ]), by rw [HD.out, ofNat_mod], hbr.trans (hb.mono hbr.size)⟩, by simp [intOf]; omega⟩
    · obtain rfl : i = 4 := by omega
      go_wp2_with fail
      go_ret2
      exact ⟨rfl, by rw [← HW.out]; exact hbr⟩

end Go.Proofs.YtfbhdkkmcfnghaaGreat
end

section
namespace Go.Proofs.YtfbhdkkmcfnghaaGreat
open Go.RowKit

set_option maxHeartbeats 400000 in
set_option maxRecDepth 100000 in
theorem span_any (l : List UInt8) (w : World) (hl : l.length ≤ 9223372036854775807) :
    Calls Tryz.prog 121 #[.string (bs l)] w fun e w' => e = .returned (.tuple #[.int .i64 (Vr.span 0 l).1, .int .i64 (Vr.span 0 l).2]) ∧ w' = w := by
  go_enter Tryz.func121, Tryz.ntmps121
  go_wp2
  go_step3
  go_wp2
  go_step3
  go_wp2
  go_loop [4] (fun v => ∃ n : Nat, v = .int .i64 n ∧ n ≤ 10 ∧ n ≤ l.length ∧ Hid (Vr.span 0 l = Vr.span n (l.drop n)))
    (fun v => 10 - (intOf v).toNat)
  case atStart => exact ⟨0, rfl, by omega, by omega, Lib.hid rfl⟩
  case round =>
    obtain ⟨n, rfl, hn, hnl, HS⟩ := hrel
    by_cases h10 : n = 10
    · subst h10
      go_wp2_with fail
      go_ret2
      exact ⟨by rw [HS.out, Vr.span_ten]; rfl, rfl⟩
    by_cases hlen : n = l.length
    · subst hlen
      go_wp2_with fail
      go_ret2
      exact ⟨by rw [HS.out, List.drop_length, Vr.span_end _ h10]; rfl, rfl⟩
    have hlt : n < l.length := by omega
    have HC := Lib.hid (Vr.span_cons n l[n] (l.drop (n + 1)) h10)
    rw [← Vr.drop_get hlt] at HC
    by_cases h9 : n = 9
    · subst h9
      have hi9 : (9 : Int) < (l.length : Int) := by omega
      go_wp2_with fail
      all_goals
        go_ret2
        refine ⟨?_, rfl⟩
        rw [HS.out, HC.out]
        simp only [beq_iff_eq, beq_eq_false_iff_ne, true_and] at *
        repeat' split
        all_goals first | rfl | omega
    · go_wp2_with fail
      case roundEnd => exact ⟨⟨n + 1, rfl, by omega, by omega, Lib.hid (by rw [HS.out, HC.out, if_neg (by omega), if_neg (by omega)])⟩, by simp [intOf]; omega⟩
      all_goals
        go_ret2
        refine ⟨?_, rfl⟩
        rw [HS.out, HC.out]
        simp only [beq_iff_eq, beq_eq_false_iff_ne] at *
        repeat' split
        all_goals first | rfl | omega

set_option maxHeartbeats 400000 in
set_option maxRecDepth 100000 in
theorem get_any (l : List UInt8) (x : Int) (w : World) (hl : l.length ≤ 9223372036854775807) :
    Calls Tryz.prog 85 #[.string (bs l), .int .i64 x] w fun e w' => e = .returned (.tuple #[.int .u64 (Vr.get l x).1, .int .i64 (Vr.get l x).2.1, .int .i64 (Vr.get l x).2.2]) ∧ w' = w := by
  by_cases hx : x < 0
  · have HG : Hid (Vr.get l x = (0, 0, 2)) := Lib.hid (by simp [Vr.get, hx])
    go_enter Tryz.func85, Tryz.ntmps85
    go_wp2
    go_ret3
    exact ⟨by rw [HG.out]; rfl, rfl⟩
  · obtain ⟨k, rfl⟩ := Int.eq_ofNat_of_zero_le (by omega : 0 ≤ x)
    have hd0 : l.drop (k : Int).toNat = l.drop k := rfl
    by_cases hk : l.length < k
    · have hd : l.drop k = [] := List.drop_eq_nil_of_le (by omega)
      have HG : Hid (Vr.get l k = (0, 0, 5)) := Lib.hid (by simp [Vr.get, hd, Vr.span])
      go_enter Tryz.func85, Tryz.ntmps85
      go_wp2_with fail
      refine (span_any _ _ (by simp)).mono ?_
      rintro e w' ⟨rfl, rfl⟩
      go_wp2_with fail
      go_ret3
      exact ⟨by rw [HG.out]; rfl, rfl⟩
    · by_cases h0 : (Vr.span 0 (l.drop k)).2 = 0
      · generalize hm : (Vr.span 0 (l.drop k)).1 = m
        have hs : Vr.span 0 (l.drop k) = (m, 0) := Prod.ext_iff.2 ⟨hm, h0⟩
        have HS := Lib.hid hs
        have HG : Hid (Vr.get l k = (Vr.val ((l.drop k).take m), (k : Int) + (m : Int), 0)) := Lib.hid (by simp [Vr.get, hs])
        obtain ⟨_, hm10, hml, _⟩ := Vr.span_ok _ 0 m (by omega) hs
        simp only [List.length_drop, Nat.sub_zero] at hml
        clear h0 hm hs
        go_enter Tryz.func85, Tryz.ntmps85
        go_wp2_with fail
        refine (span_any _ _ (by simp; omega)).mono ?_
        rw [HS.out]
        rintro e w' ⟨rfl, rfl⟩
        go_wp2_with fail
        go_loop [9, 10] (fun n i => ∃ j : Nat, i = .int .i64 ((j : Int) - 1) ∧ j ≤ m ∧ n = .int .u64 (Vr.val (((l.drop k).take m).drop j))) (fun _ i => (intOf i + 1).toNat)
        case atStart =>
          exact ⟨m, rfl, by omega, by rw [List.drop_of_length_le (by simp; omega)]; rfl⟩
        case round =>
          obtain ⟨j, rfl, hj, rfl⟩ := hrel
          by_cases h1 : 1 ≤ j
          · go_wp2_with fail
            refine ⟨⟨j - 1, by rw [show ((j - 1 : Nat) : Int) = (j : Int) - 1 by omega], by omega, ?_⟩, by simp [intOf]; omega⟩
            rw [or_shift7 _ _ (Vr.val_room HS.out j h1 hj) (UInt8.toNat_lt _), Vr.val_back l k m j h1 hj (by omega)]
          · obtain rfl : j = 0 := by omega
            go_wp2_with fail
            go_ret3
            exact ⟨by rw [HG.out]; rfl, rfl⟩
      · generalize hm : (Vr.span 0 (l.drop k)).2 = m at h0
        have hm1 : (Vr.span 0 (l.drop k)).1 = 0 := by
          have := Vr.span_err (l.drop k) 0
          omega
        have HS : Hid (Vr.span 0 (l.drop k) = (0, m)) := Lib.hid (Prod.ext_iff.2 ⟨hm1, hm⟩)
        have HG : Hid (Vr.get l k = (0, 0, m)) := Lib.hid (by simp [Vr.get, hm, h0]; omega)
        have hm0 : (((m : Nat) : Int) != 0) = true := by simp; omega
        clear hm hm1
        go_enter Tryz.func85, Tryz.ntmps85
        go_wp2_with fail
        refine (span_any _ _ (by simp; omega)).mono ?_
        rw [HS.out]
        rintro e w' ⟨rfl, rfl⟩
        go_wp2_with fail
        go_ret3
        exact ⟨by rw [HG.out]; rfl, rfl⟩
end Go.Proofs.YtfbhdkkmcfnghaaGreat
end

section
namespace Go.Proofs.YtfbhdkkmcfnghaaGreat
open Go.RowKit

set_option maxHeartbeats 400000 in
set_option maxRecDepth 100000 in
theorem refGet_any (l : List UInt8) (x : Int) (w : World) (hl : l.length ≤ 9223372036854775807) (hx2 : x ≤ 9223372036854775807) :
    Calls Tryz.prog 98 #[.string (bs l), .int .i64 x] w fun e w' => e = .returned (.tuple #[.int .u64 (Vr.get l x).1, .int .i64 (Vr.get l x).2.1, .int .i64 (Vr.get l x).2.2]) ∧ w' = w := by
  by_cases hx : x < 0
  · have HG : Hid (Vr.get l x = (0, 0, 2)) := Lib.hid (by simp [Vr.get, hx])
    go_enter Tryz.func98, Tryz.ntmps98
    go_wp2
    go_ret3
    exact ⟨by rw [HG.out]; rfl, rfl⟩
  · obtain ⟨k, rfl⟩ := Int.eq_ofNat_of_zero_le (by omega : 0 ≤ x)
    by_cases hk : l.length ≤ k
    · have hd : l.drop k = [] := List.drop_eq_nil_of_le (by omega)
      have HG : Hid (Vr.get l k = (0, 0, 5)) := Lib.hid (by simp [Vr.get, hd, Vr.span])
      go_enter Tryz.func98, Tryz.ntmps98
      go_wp2
      go_loop [7, 8, 9] (fun n p i => n = .int .u64 0 ∧ p = .int .u64 1 ∧ i = .int .i64 0) (fun _ _ _ => 0)
      case atStart => exact ⟨rfl, rfl, rfl⟩
      case round =>
        obtain ⟨rfl, rfl, rfl⟩ := hrel
        go_wp2
        go_ret3
        exact ⟨by rw [HG.out]; rfl, rfl⟩
    · go_enter Tryz.func98, Tryz.ntmps98
      go_wp2
      go_loop [7, 8, 9] (fun n p i => ∃ j q : Nat, n = .int .u64 (Vr.val ((l.drop k).take j)) ∧ p = .int .u64 q ∧ i = .int .i64 j ∧ j ≤ 9 ∧ j ≤ l.length - k ∧ Hid (q = 128 ^ j) ∧ Hid (Vr.span 0 (l.drop k) = Vr.span j ((l.drop k).drop j))) (fun _ _ i => 10 - (intOf i).toNat)
      case atStart => exact ⟨0, 1, rfl, rfl, rfl, by omega, by omega, Lib.hid rfl, Lib.hid rfl⟩
      case round =>
        obtain ⟨j, q, rfl, rfl, rfl, hj, hjl, HQ, HS⟩ := hrel
        by_cases hend : j = l.length - k
        · have HG : Hid (Vr.get l k = (0, 0, 5)) := Lib.hid (by
            rw [Vr.get_pos, HS.out, List.drop_drop, List.drop_eq_nil_of_le (by omega), Vr.span_end _ (by omega)]; rfl)
          clear HS HQ
          subst hend
          go_wp2_with fail
          go_ret3
          exact ⟨by rw [HG.out]; rfl, rfl⟩
        · have HC := Lib.hid (Vr.get_cases l k j (by omega) hj HS.out)
          have HV := Lib.hid (Vr.val_bound (l.drop k) j)
          rw [← HQ.out] at HC HV
          clear HS
          by_cases h9 : j = 9
          · subst h9
            have hi9 : (0 : Int) ≤ (k : Int) + 9 ∧ (k : Int) + 9 < (l.length : Int) := by omega
            go_wp2_with fail
            all_goals
              obtain ⟨c1, c2, c3, c4⟩ := HC.out
              go_ret3
              refine ⟨?_, rfl⟩
            · rw [c1 ⟨trivial, by omega⟩]; rfl
            · rw [c2 (by rintro ⟨-, h⟩; omega) (by omega) (by omega)]; rfl
            · rw [c3 (by rintro ⟨-, h⟩; omega) (by omega) (by omega), wrap_mul_add _ _ _ (Vr.sum_room _ q 9 _ HQ.out HV.out (by omega) (by omega) (by omega)), HQ.out]; rfl
          · have h8 : j ≤ 8 := by omega
            have hb256 := UInt8.toNat_lt l[k + j]
            go_wp2_with fail
            case roundEnd =>
              obtain ⟨c1, c2, c3, c4⟩ := HC.out
              obtain ⟨d1, d2⟩ := c4 (by omega) (by omega)
              have hq2 : q * 128 < 18446744073709551616 := by rw [HQ.out]; exact Vr.pow_room j h8
              have hs : Vr.val ((l.drop k).take j) + q * (l[k + j].toNat - 128) < 18446744073709551616 := Vr.sum_room _ q j _ HQ.out HV.out (by omega) (by omega) (by omega)
              refine ⟨⟨j + 1, q * 128, ?_, ?_, rfl, by omega, by omega, Lib.hid (by rw [HQ.out, Nat.pow_succ]), Lib.hid d1⟩, by simp [intOf]; omega⟩
              · rw [wrap_mul_add_less _ _ _ (by omega) hs, d2]
              · rw [show ((q : Int) * 128) = ((q * 128 : Nat) : Int) by simp, wrap_u64_nat _ hq2]
            all_goals
              obtain ⟨c1, c2, c3, c4⟩ := HC.out
              go_ret3
              refine ⟨?_, rfl⟩
            · rw [c2 (by omega) (by omega) (by omega)]; rfl
            · have hz : l[k + j].toNat = 0 := by assumption
              have hv : Vr.val ((l.drop k).take j) < 18446744073709551616 := by
                have := HV.out
                have := Vr.pow_room j h8
                rw [← HQ.out] at this
                omega
              rw [c3 (by omega) (by omega) (by omega), wrap_u64_nat _ hv, hz]; rfl
            · rw [c3 (by omega) (by omega) (by omega), wrap_mul_add _ _ _ (Vr.sum_room _ q j _ HQ.out HV.out (by omega) (by omega) (by omega)), HQ.out]; rfl
end Go.Proofs.YtfbhdkkmcfnghaaGreat
end

section
namespace Go.Proofs.YtfbhdkkmcfnghaaGreat
open Go.RowKit

set_option maxHeartbeats 400000 in
set_option maxRecDepth 100000 in
theorem take_any (l : List UInt8) (x most : Int) (w : World) (hl : l.length ≤ 9223372036854775807) (hx2 : x ≤ 9223372036854775807) (hm2 : most ≤ 9223372036854775807) :
    Calls Tryz.prog 169 #[.string (bs l), .int .i64 x, .int .i64 most] w fun e w' => e = .returned (.tuple #[.string (bs (Vr.take l x most).1), .int .i64 (Vr.take l x most).2.1, .int .i64 (Vr.take l x most).2.2]) ∧ w' = w := by
  by_cases h0 : (Vr.get l x).2.2 = 0
  · obtain ⟨n, nx, hg⟩ : ∃ n nx, Vr.get l x = (n, nx, 0) := ⟨(Vr.get l x).1, (Vr.get l x).2.1, by rw [← h0]⟩
    obtain ⟨k, m, rfl, rfl, hkm, h1, h2, -, -, h64⟩ := Vr.get_ok hg
    have HG := Lib.hid hg
    by_cases ha : most < 0
    · have HT : Hid (Vr.take l k most = ([], 0, 6)) := Lib.hid (Vr.take_long hg (by omega))
      clear hg h0
      go_enter Tryz.func169, Tryz.ntmps169
      go_wp2_with fail
      refine (get_any _ _ _ (by omega)).mono ?_
      rw [HG.out]
      rintro e w' ⟨rfl, rfl⟩
      go_wp2_with fail
      go_ret3
      exact ⟨by rw [HT.out]; rfl, rfl⟩
    · have hw : IntKind.u64.wrap most = most := by
        obtain ⟨q, rfl⟩ := Int.eq_ofNat_of_zero_le (by omega : 0 ≤ most)
        exact wrap_u64_nat _ (by omega)
      by_cases hb : most < (n : Int)
      · have HT : Hid (Vr.take l k most = ([], 0, 6)) := Lib.hid (Vr.take_long hg (by omega))
        clear hg h0
        go_enter Tryz.func169, Tryz.ntmps169
        go_wp2_with fail
        refine (get_any _ _ _ (by omega)).mono ?_
        rw [HG.out]
        rintro e w' ⟨rfl, rfl⟩
        go_wp2_with fail
        go_ret3
        exact ⟨by rw [HT.out]; rfl, rfl⟩
      · by_cases hc : (l.length : Int) - ((k + m : Nat) : Int) < (n : Int)
        · have HT : Hid (Vr.take l k most = ([], 0, 5)) := Lib.hid (Vr.take_short hg (by omega) hc)
          clear hg h0
          go_enter Tryz.func169, Tryz.ntmps169
          go_wp2_with fail
          refine (get_any _ _ _ (by omega)).mono ?_
          rw [HG.out]
          rintro e w' ⟨rfl, rfl⟩
          go_wp2_with fail
          go_ret3
          exact ⟨by rw [HT.out]; rfl, rfl⟩
        · have HT : Hid (Vr.take l k most = ((l.drop (k + m)).take n, ((k + m : Nat) : Int) + n, 0)) := Lib.hid (by rw [Vr.take_fine hg (by omega) hc]; rfl)
          clear hg h0
          go_enter Tryz.func169, Tryz.ntmps169
          go_wp2_with fail
          refine (get_any _ _ _ (by omega)).mono ?_
          rw [HG.out]
          rintro e w' ⟨rfl, rfl⟩
          go_wp2_with fail
          go_ret3
          exact ⟨by rw [HT.out]; simp, rfl⟩
  · obtain ⟨e0, he⟩ : ∃ e0, (Vr.get l x).2.2 = e0 := ⟨_, rfl⟩
    rw [he] at h0
    have HG : Hid (Vr.get l x = (0, 0, e0)) := Lib.hid (by
      obtain ⟨a, b⟩ := Vr.get_err (l := l) (x := x) (by omega)
      exact Prod.ext_iff.2 ⟨a, Prod.ext_iff.2 ⟨b, he⟩⟩)
    have HT : Hid (Vr.take l x most = ([], 0, e0)) := Lib.hid (by simp [Vr.take, he, h0])
    have hne : (((e0 : Nat) : Int) != 0) = true := by simp; omega
    clear he h0
    go_enter Tryz.func169, Tryz.ntmps169
    go_wp2_with fail
    refine (get_any _ _ _ (by omega)).mono ?_
    rw [HG.out]
    rintro e w' ⟨rfl, rfl⟩
    go_wp2_with fail
    go_ret3
    exact ⟨by rw [HT.out]; rfl, rfl⟩

set_option maxHeartbeats 400000 in
set_option maxRecDepth 100000 in
theorem refTake_any (l : List UInt8) (x most : Int) (w : World) (hl : l.length ≤ 9223372036854775807) (hx2 : x ≤ 9223372036854775807) (hm2 : most ≤ 9223372036854775807) :
    Calls Tryz.prog 100 #[.string (bs l), .int .i64 x, .int .i64 most] w fun e w' => e = .returned (.tuple #[.string (bs (Vr.take l x most).1), .int .i64 (Vr.take l x most).2.1, .int .i64 (Vr.take l x most).2.2]) ∧ w' = w := by
  by_cases h0 : (Vr.get l x).2.2 = 0
  · obtain ⟨n, nx, hg⟩ : ∃ n nx, Vr.get l x = (n, nx, 0) := ⟨(Vr.get l x).1, (Vr.get l x).2.1, by rw [← h0]⟩
    obtain ⟨k, m, rfl, rfl, hkm, h1, h2, -, -, h64⟩ := Vr.get_ok hg
    have HG := Lib.hid hg
    by_cases ha : most < 0
    · have HT : Hid (Vr.take l k most = ([], 0, 6)) := Lib.hid (Vr.take_long hg (by omega))
      clear hg h0
      go_enter Tryz.func100, Tryz.ntmps100
      go_wp2_with fail
      refine (refGet_any _ _ _ (by omega) (by omega)).mono ?_
      rw [HG.out]
      rintro e w' ⟨rfl, rfl⟩
      go_wp2_with fail
      go_ret3
      exact ⟨by rw [HT.out]; rfl, rfl⟩
    · have hw : IntKind.u64.wrap most = most := by
        obtain ⟨q, rfl⟩ := Int.eq_ofNat_of_zero_le (by omega : 0 ≤ most)
        exact wrap_u64_nat _ (by omega)
      by_cases hb : most < (n : Int)
      · have HT : Hid (Vr.take l k most = ([], 0, 6)) := Lib.hid (Vr.take_long hg (by omega))
        clear hg h0
        go_enter Tryz.func100, Tryz.ntmps100
        go_wp2_with fail
        refine (refGet_any _ _ _ (by omega) (by omega)).mono ?_
        rw [HG.out]
        rintro e w' ⟨rfl, rfl⟩
        go_wp2_with fail
        go_ret3
        exact ⟨by rw [HT.out]; rfl, rfl⟩
      · by_cases hc : (l.length : Int) - ((k + m : Nat) : Int) < (n : Int)
        · have HT : Hid (Vr.take l k most = ([], 0, 5)) := Lib.hid (Vr.take_short hg (by omega) hc)
          clear hg h0
          go_enter Tryz.func100, Tryz.ntmps100
          go_wp2_with fail
          refine (refGet_any _ _ _ (by omega) (by omega)).mono ?_
          rw [HG.out]
          rintro e w' ⟨rfl, rfl⟩
          go_wp2_with fail
          go_ret3
          exact ⟨by rw [HT.out]; rfl, rfl⟩
        · have HT : Hid (Vr.take l k most = ((l.drop (k + m)).take n, ((k + m : Nat) : Int) + n, 0)) := Lib.hid (by rw [Vr.take_fine hg (by omega) hc]; rfl)
          clear hg h0
          go_enter Tryz.func100, Tryz.ntmps100
          go_wp2_with fail
          refine (refGet_any _ _ _ (by omega) (by omega)).mono ?_
          rw [HG.out]
          rintro e w' ⟨rfl, rfl⟩
          go_wp2_with fail
          go_ret3
          exact ⟨by rw [HT.out]; simp, rfl⟩
  · obtain ⟨e0, he⟩ : ∃ e0, (Vr.get l x).2.2 = e0 := ⟨_, rfl⟩
    rw [he] at h0
    have HG : Hid (Vr.get l x = (0, 0, e0)) := Lib.hid (by
      obtain ⟨a, b⟩ := Vr.get_err (l := l) (x := x) (by omega)
      exact Prod.ext_iff.2 ⟨a, Prod.ext_iff.2 ⟨b, he⟩⟩)
    have HT : Hid (Vr.take l x most = ([], 0, e0)) := Lib.hid (by simp [Vr.take, he, h0])
    have hne : (((e0 : Nat) : Int) != 0) = true := by simp; omega
    clear he h0
    go_enter Tryz.func100, Tryz.ntmps100
    go_wp2_with fail
    refine (refGet_any _ _ _ (by omega) (by omega)).mono ?_
    rw [HG.out]
    rintro e w' ⟨rfl, rfl⟩
    go_wp2_with fail
    go_ret3
    exact ⟨by rw [HT.out]; rfl, rfl⟩

end Go.Proofs.YtfbhdkkmcfnghaaGreat
end
