/- Walks of octet's Hex and Unhex, and of ids' texts. Conditions: numbers that fit; the widths that the program uses. -/
import Derived.Test.YtfbhdkkmcfnghaaGreatDoorInSpec
import Derived.Test.YtfbhdkkmcfnghaaGreatDoorProg
import Derived.Test.YtfbhdkkmcfnghaaGreatDoorLib
import Derived.Test.YtfbhdkkmcfnghaaGreatDoorKit
namespace Go.Proofs.YtfbhdkkmcfnghaaGreatDoor
open Go.RowKit
set_option linter.unusedVariables false

theorem in_info_u8 : (Tryz.prog.info? 5).map (fun i => (i.zero, i.size, i.bytes)) = some (some (.int .u8 0), 1, 1) := by kernel_rfl
theorem mod_16 (q : Nat) : ((q : Int) % 16) = ((UInt8.ofNat (q % 16)).toNat : Int) := by
  have e : (UInt8.ofNat (q % 16)).toNat = q % 16 := by simp; omega
  rw [e]; omega

set_option maxHeartbeats 400000 in
set_option maxRecDepth 100000 in
theorem within_4 (k : Nat) (x y : Int) (n : Nat) (hx : x = n) (hy : y = k) (w : World) (hn : n < 18446744073709551616) (hk : k = 16 ∨ k = 2 ∧ n < 256) :
    Calls Tryz.prog 123 #[.int .u64 x, .int .i64 4, .int .i64 y] w fun e w' => e = .returned (.bool true) ∧ w' = w := by
  subst hx; subst hy
  rcases hk with rfl | ⟨rfl, h2⟩
  all_goals
    go_enter Tryz.func123, Tryz.ntmps123
    go_wp2_with fail
    go_ret
    exact ⟨by first | rfl | (refine congrArg (fun r => Ending.returned (.bool r)) (?_ : _ = true); simp; omega), rfl⟩

set_option maxHeartbeats 400000 in
set_option maxRecDepth 100000 in
theorem split_4 (k : Nat) (x y : Int) (n : Nat) (hx : x = n) (hy : y = k) (w : World) (hn : n < 18446744073709551616) (h1 : 1 ≤ k) (h16 : k ≤ 16) :
    Calls Tryz.prog 124 #[.int .u64 x, .int .i64 4, .int .i64 y] w fun e w' => ∃ cap, e = .returned (.slice (some ⟨w.heap.size, 0, none⟩) k cap) ∧ BRow w' w.heap.size 5 (.slice (some ⟨w.heap.size, 0, none⟩) k cap) (Oc.digs 16 k n) ∧ Below w.heap.size w w' := by
  subst hx; subst hy
  go_enter Tryz.func124, Tryz.ntmps124
  go_wp2_with (at_make; refine wpList_make_bytes w rfl (.tmp 9) (.tmp 9) 102 rfl w.heap.size 5 Tryz.underlying102 in_info_u8 k rfl rfl (by omega) (Nat.le_refl _) ?_; intro w1 hrow hb)
  go_loopw [0, 12] (fun m v wr => ∃ i q : Nat, v = .int .i64 i ∧ m = .int .u64 q ∧ i ≤ k ∧ q < 18446744073709551616 ∧ Hid (q = n / 16 ^ i) ∧ BRow wr w.heap.size 5 (.slice (some ⟨w.heap.size, 0, none⟩) k k) (Oc.part 16 k i n) ∧ Below w.heap.size w wr)
    (fun _ v _ => k - (intOf v).toNat)
  case atStart => exact ⟨0, n, rfl, rfl, by omega, hn, Lib.hid (by simp), by rw [Oc.part_zero]; exact hrow, hb⟩
  case round =>
    obtain ⟨i, q, rfl, rfl, hi, hq, HQ, hown, hbr⟩ := hrel
    by_cases hlt : i < k
    · have HL := Lib.hid (Oc.part_len 16 k i n hi)
      obtain ⟨old, hcell⟩ : ∃ old : Int, wr.cell? ⟨w.heap.size, k - 1 - i, none⟩ = some (.int .u8 old) := ⟨_, hown.cell (k - 1 - i) (by have := HL.out; omega)⟩
      have hfz := hown.frozen HL.out.symm (k - 1 - i)
      have hz : w.heap.size < wr.heap.size := (hown.lt _ rfl).2
      go_wp2_with fail
      refine ⟨⟨i + 1, q / 16, rfl, rfl, by omega, by omega, Lib.hid (by rw [HQ.out, Nat.div_div_eq_div_mul, Nat.pow_succ]), ?_, hbr.setCell (Nat.le_refl _) _⟩, by simp [intOf]; omega⟩
      rw [mod_16, HQ.out, ← Oc.part_next _ _ _ _ hlt]
      exact hown.store HL.out.symm _ _
    · obtain rfl : i = k := by omega
      go_wp2_with fail
      go_ret
      exact ⟨_, rfl, by rw [← Oc.part_full]; exact hown, hbr⟩

/-- The first digits are texts already. -/
def In.part (k n i : Nat) : List UInt8 := ((Oc.digs 16 k n).take i).map In.dig ++ (Oc.digs 16 k n).drop i
theorem In.part_len (k n i : Nat) (h : i ≤ k) : (In.part k n i).length = k := by simp [In.part, Oc.digs_len]; omega
theorem In.part_get (k n i : Nat) (h : i < k) : (In.part k n i)[i]? = (Oc.digs 16 k n)[i]? := by
  have := Oc.digs_len 16 k n
  unfold In.part
  rw [List.getElem?_append_right (by simp; omega)]
  simp only [List.length_map, List.length_take, List.getElem?_drop]
  congr 1
  omega
theorem In.part_next (k n i : Nat) (h : i < k) (d : UInt8) (hd : (Oc.digs 16 k n)[i]? = some d) : (In.part k n i).set i (In.dig d) = In.part k n (i + 1) := by
  have hl := Oc.digs_len 16 k n
  have hi : i < (Oc.digs 16 k n).length := by omega
  have hdd : (Oc.digs 16 k n)[i] = d := by rw [List.getElem?_eq_getElem hi] at hd; exact Option.some.inj hd
  unfold In.part
  rw [List.set_append_right _ _ (by simp; omega), List.drop_eq_getElem_cons hi, List.take_succ_eq_append_getElem hi]
  simp only [List.length_map, List.length_take]
  rw [show i - min i (Oc.digs 16 k n).length = 0 by omega]
  simp [hdd]
theorem In.digit_lt (k n i : Nat) (d : UInt8) (h : (Oc.digs 16 k n)[i]? = some d) : d.toNat < 16 := by
  have hm := List.mem_of_getElem? h
  clear h
  induction k generalizing n with
  | zero => simp [Oc.digs] at hm
  | succ k ih =>
    rw [Oc.digs] at hm
    rcases List.mem_append.1 hm with h | h
    · exact ih _ h
    · simp at h; subst h; simp; omega
theorem dig_index : ∀ d : Nat, d < 16 → (⟨#[48, 49, 50, 51, 52, 53, 54, 55, 56, 57, 97, 98, 99, 100, 101, 102]⟩ : ByteArray).data[d]? = some (In.dig (UInt8.ofNat d)) := by decide

set_option maxHeartbeats 400000 in
set_option maxRecDepth 100000 in
theorem octHex_any (k : Nat) (x y : Int) (n : Nat) (hx : x = n) (hy : y = k) (w : World) (hn : n < 18446744073709551616) (hk : k = 16 ∨ k = 2 ∧ n < 256) :
    Calls Tryz.prog 69 #[.int .u64 x, .int .i64 y] w fun e w' => e = .returned (.tuple #[.string (bs (In.hex k n)), .int .i64 0]) ∧ Below w.heap.size w w' := by
  subst hx; subst hy
  have h1 : 1 ≤ k := by omega
  have h16 : k ≤ 16 := by omega
  have HK := Lib.hid hk
  clear hk
  go_enter Tryz.func69, Tryz.ntmps69
  go_wp2_with fail
  refine (within_4 k _ _ n rfl rfl _ hn HK.out).mono ?_
  rintro e w' ⟨rfl, rfl⟩
  go_wp2_with fail
  refine (split_4 k _ _ n rfl rfl _ hn h1 h16).mono ?_
  rintro e w1 ⟨cap, rfl, hrow, hb⟩
  obtain ⟨w0, hw0⟩ : ∃ w0 : World, w0 = w' := ⟨_, rfl⟩
  have HW := Lib.hid hw0
  rw [← hw0] at hrow hb ⊢
  clear hw0
  go_wp2_with fail
  go_loopw [7, 8, 24] (fun _ _ v wr => ∃ i : Nat, v = .int .i64 i ∧ i ≤ k ∧ BRow wr w0.heap.size 5 (.slice (some ⟨w0.heap.size, 0, none⟩) k cap) (In.part k n i) ∧ Below w0.heap.size w0 wr)
    (fun _ _ v _ => k - (intOf v).toNat)
  case atStart => exact ⟨0, rfl, by omega, by simpa [In.part] using hrow, hb⟩
  case round =>
    obtain ⟨i, rfl, hi, hown, hbr⟩ := hrel
    by_cases hlt : i < k
    · have HL := Lib.hid (In.part_len k n i hi)
      obtain ⟨d, hd⟩ : ∃ d, (Oc.digs 16 k n)[i]? = some d := ⟨_, List.getElem?_eq_getElem (by rw [Oc.digs_len]; exact hlt)⟩
      have hd16 := In.digit_lt k n i d hd
      have hpd : (In.part k n i)[i]? = some d := by rw [In.part_get k n i hlt]; exact hd
      have HD := Lib.hid hd
      have hcell : wr.cell? ⟨w0.heap.size, i, none⟩ = some (.int .u8 (d.toNat : Int)) := by
        have := hown.cell i (by have := HL.out; omega)
        rw [this]
        rw [List.getElem?_eq_getElem (by have := HL.out; omega)] at hpd
        rw [Option.some.inj hpd]
      have hfz := hown.frozen HL.out.symm i
      have hz : w0.heap.size < wr.heap.size := (hown.lt _ rfl).2
      have hix := dig_index d.toNat hd16
      rw [UInt8.ofNat_toNat] at hix
      clear hd hpd
      go_wp2_with fail
      refine ⟨⟨i + 1, rfl, by omega, ?_, hbr.setCell (Nat.le_refl _) _⟩, by simp [intOf]; omega⟩
      rw [← In.part_next k n i hlt d HD.out]
      have hix2 : ∀ h, (⟨#[48, 49, 50, 51, 52, 53, 54, 55, 56, 57, 97, 98, 99, 100, 101, 102]⟩ : ByteArray)[d.toNat]'h = In.dig d := fun h => by
        have e := hix
        rw [Array.getElem?_eq_getElem h] at e
        exact Option.some.inj e
      rw [hix2]
      exact hown.store HL.out.symm _ _
    · obtain rfl : i = k := by omega
      have e : In.part i n i = In.hex i n := by unfold In.part In.hex; rw [List.take_of_length_le (by rw [Oc.digs_len]; omega), List.drop_of_length_le (by rw [Oc.digs_len]; omega)]; simp
      rw [e] at hown
      go_wp2_with (refine wpList_string_row rfl (.tmp 35) 102 9 rfl _ _ _ _ hown Tryz.underlying102 Tryz.underlying5 Tryz.underlying9 rfl ?_)
      go_ret2
      exact ⟨rfl, by rw [← HW.out]; exact hbr⟩

set_option maxHeartbeats 400000 in
set_option maxRecDepth 100000 in
theorem octValue_any (b : UInt8) (w : World) : Calls Tryz.prog 137 #[.int .u8 (b.toNat : Int)] w fun e w' => e = .returned (.int .u64 (In.value b : Nat)) ∧ w' = w := by
  have hb := UInt8.toNat_lt b
  unfold In.value
  generalize b.toNat = n at hb ⊢
  by_cases h1 : 48 ≤ n ∧ n ≤ 57
  · rw [if_pos h1]
    obtain ⟨h1, h2⟩ := h1
    have e : ((n - 48 : Nat) : Int) = (n : Int) - 48 := by omega
    rw [e]
    go_enter Tryz.func137, Tryz.ntmps137
    go_wp2_with fail
    go_ret
    exact ⟨by first | rfl | (refine congrArg (fun r => Ending.returned (.int .u64 r)) ?_; omega), rfl⟩
  rw [if_neg h1]
  by_cases h2 : 97 ≤ n ∧ n ≤ 102
  · rw [if_pos h2]
    obtain ⟨h2, h3⟩ := h2
    have e : ((n - 87 : Nat) : Int) = (n : Int) - 97 + 10 := by omega
    rw [e]
    have hd : ¬ ((n : Int) ≤ 57) := by omega
    go_enter Tryz.func137, Tryz.ntmps137
    go_wp2_with fail
    go_ret
    exact ⟨by first | rfl | (refine congrArg (fun r => Ending.returned (.int .u64 r)) ?_; omega), rfl⟩
  rw [if_neg h2]
  by_cases h3 : 48 ≤ n
  · have hd : ¬ ((n : Int) ≤ 57) := by omega
    by_cases h4 : 97 ≤ n
    · have hd2 : ¬ ((n : Int) ≤ 102) := by omega
      go_enter Tryz.func137, Tryz.ntmps137
      go_wp2_with fail
      go_ret
      exact ⟨rfl, rfl⟩
    · go_enter Tryz.func137, Tryz.ntmps137
      go_wp2_with fail
      go_ret
      exact ⟨rfl, rfl⟩
  · go_enter Tryz.func137, Tryz.ntmps137
    go_wp2_with fail
    go_ret
    exact ⟨rfl, rfl⟩

theorem or_shift4 (v b : Nat) (hv : v * 16 < 18446744073709551616) (hb : b < 16) :
    bits .or .u64 ((v : Int) * 16) (b : Int) = ((16 * v + b : Nat) : Int) := by
  rw [show ((v : Int) * 16) = ((v * 16 : Nat) : Int) by omega, bits_or_u64_nat _ _ hv (by omega)]
  have := Nat.two_pow_add_eq_or_of_lt (i := 4) (b := b) (by omega) v
  rw [show v * 16 = 2 ^ 4 * v by omega, ← this]

set_option maxHeartbeats 400000 in
set_option maxRecDepth 100000 in
theorem octUnhex_any (l : List UInt8) (w : World) (hl : l.length ≤ 9223372036854775807) :
    Calls Tryz.prog 92 #[.string (bs l)] w fun e w' => e = .returned (.tuple #[.int .u64 ((In.unhex l).1 : Nat), .int .i64 ((In.unhex l).2 : Nat)]) ∧ w' = w := by
  by_cases h1 : l.length < 1
  · have HU : Stow (In.unhex l = (0, 3)) := ⟨by unfold In.unhex; rw [if_neg (by omega)]⟩
    go_enter Tryz.func92, Tryz.ntmps92
    go_wp2_with fail
    go_ret2
    exact ⟨by rw [HU.out]; rfl, rfl⟩
  by_cases h2 : 16 < l.length
  · have HU : Stow (In.unhex l = (0, 3)) := ⟨by unfold In.unhex; rw [if_neg (by omega)]⟩
    go_enter Tryz.func92, Tryz.ntmps92
    go_wp2_with fail
    go_ret2
    exact ⟨by rw [HU.out]; rfl, rfl⟩
  go_enter Tryz.func92, Tryz.ntmps92
  go_wp2_with fail
  go_loopw [4, 5, 6, 17] (fun m _ _ v wr => wr = w ∧ ∃ i : Nat, v = .int .i64 i ∧ i ≤ l.length ∧ m = .int .u64 (In.num (l.take i) : Nat) ∧ Stow (In.isHex (l.take i) = true)) (fun _ _ _ v _ => l.length - (intOf v).toNat)
  case atStart => exact ⟨rfl, 0, rfl, by omega, rfl, ⟨rfl⟩⟩
  case round =>
    obtain ⟨rfl, i, rfl, hi, rfl, HX⟩ := hrel
    by_cases hlt : i < l.length
    · have hnl := In.num_lt (l.take i) HX.out
      have h15 : (l.take i).length ≤ 15 := by simp; omega
      have hroom : In.num (l.take i) < 1152921504606846976 := by
        have h3 : 16 ^ (l.take i).length ≤ 16 ^ 15 := Nat.pow_le_pow_right (by omega) h15
        have e : (16 : Nat) ^ 15 = 1152921504606846976 := rfl
        omega
      have HN := Stow.mk (In.num_next l i hlt)
      obtain ⟨v, hv⟩ : ∃ v, In.value l[i] = v := ⟨_, rfl⟩
      have hv16 := In.value_le l[i]
      rw [hv] at hv16
      have HV := Stow.mk hv
      generalize In.num (l.take i) = q at hnl hroom HN ⊢
      clear hnl h15 hv
      go_wp2_with fail
      refine (octValue_any l[i] _).mono ?_
      rw [HV.out]
      rintro e w' ⟨rfl, rfl⟩
      by_cases hb : v < 16
      · go_wp2_with fail
        refine ⟨⟨by trivial, i + 1, rfl, by omega, ?_, ⟨?_⟩⟩, by simp [intOf]; omega⟩
        · rw [HN.out, HV.out, or_shift4 _ _ (by omega) hb]
        · rw [In.isHex_next l i hlt, HX.out, HV.out]; simpa using hb
      · have HU : Stow (In.unhex l = (0, 3)) := ⟨by unfold In.unhex; rw [if_neg]; rw [In.isHex_bad hlt (by rw [HV.out]; exact hb)]; simp⟩
        have h15 : (15 : Int) < v := by omega
        go_wp2_with fail
        go_ret2
        exact ⟨by rw [HU.out]; rfl, rfl⟩
    · obtain rfl : i = l.length := by omega
      have HU : Stow (In.unhex l = (In.num l, 0)) := ⟨by have := HX.out; rw [List.take_length] at this; unfold In.unhex; rw [if_pos ⟨by omega, by omega, this⟩]⟩
      rw [List.take_length]
      go_wp2_with fail
      go_ret2
      exact ⟨by rw [HU.out]; rfl, rfl⟩
end Go.Proofs.YtfbhdkkmcfnghaaGreatDoor
