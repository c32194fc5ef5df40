/- Walks of crc's Of, tail, Seal and Open, and of the reference's. Condition: texts are no longer than an int can say. -/
import Derived.Test.YtkhepehgafijfaaKit
import Derived.Test.YtkhepehgafijfaaCrcSpec
import Derived.Test.YtkhepehgafijfaaOctet
namespace Go.Proofs.Ytkhepehgafijfaa
open Go.RowKit

theorem ofInt_u32 (a : Nat) (ha : a < 4294967296) : (BitVec.ofInt 32 (a : Int)).toNat = a := by
  rw [BitVec.ofInt_natCast, BitVec.toNat_ofNat]; exact Nat.mod_eq_of_lt (by omega)
theorem wrap_u32_nat (a : Nat) (h : a < 4294967296) : IntKind.u32.wrap (a : Int) = a := by
  simp [IntKind.wrap, IntKind.bits, IntKind.signed]; omega
theorem bits_xor_u32 (a b : Nat) (ha : a < 4294967296) (hb : b < 4294967296) : bits .xor .u32 (a : Int) (b : Int) = ((a ^^^ b : Nat) : Int) := by
  have hx : a ^^^ b < 2 ^ 32 := Nat.xor_lt_two_pow (by omega) (by omega)
  show IntKind.u32.wrap ((BitVec.ofInt 32 (a : Int) ^^^ BitVec.ofInt 32 (b : Int)).toNat : Int) = _
  rw [BitVec.toNat_xor, ofInt_u32 a ha, ofInt_u32 b hb, wrap_u32_nat _ (by omega)]
theorem bits_and1_u32 (a : Nat) (ha : a < 4294967296) : bits .and .u32 (a : Int) 1 = ((a % 2 : Nat) : Int) := by
  show IntKind.u32.wrap ((BitVec.ofInt 32 (a : Int) &&& BitVec.ofInt 32 (1 : Int)).toNat : Int) = _
  rw [BitVec.toNat_and, ofInt_u32 a ha, show (BitVec.ofInt 32 (1 : Int)).toNat = 1 from rfl, Nat.and_one_is_mod, wrap_u32_nat _ (by omega)]

theorem turn_u32 (m : Nat) (hm : m < 4294967296) : bits .xor .u32 IntKind.u32.max (m : Int) = ((4294967295 - m : Nat) : Int) := by
  have h := bits_xor_u32 4294967295 m (by omega) hm
  rw [show ((4294967295 : Nat) : Int) = IntKind.u32.max from rfl] at h
  rw [h]
  refine congrArg (fun n : Nat => (n : Int)) ?_
  apply Nat.eq_of_testBit_eq
  intro i
  rw [Nat.testBit_xor, show 4294967295 - m = 2 ^ 32 - (m + 1) by omega, Nat.testBit_two_pow_sub_succ (by omega), show (4294967295 : Nat) = 2 ^ 32 - 1 from rfl, Nat.testBit_two_pow_sub_one]
  by_cases hi : i < 32
  · simp [hi]
  · have : m.testBit i = false := Nat.testBit_lt_two_pow (Nat.lt_of_lt_of_le (by omega : m < 2 ^ 32) (Nat.pow_le_pow_right (by omega) (by omega)))
    simp [hi, this]

set_option maxHeartbeats 400000 in
set_option maxRecDepth 100000 in
theorem crcShift_any (x : Int) (n : Nat) (hx : x = n) (w : World) (hn : n < 4294967296) :
    Calls Try.prog 79 #[.int .u32 x] w fun e w' => e = .returned (.int .u32 (Crc.shift n : Nat)) ∧ w' = w := by
  subst hx
  have e1 := bits_and1_u32 n hn
  have e2 : bits .xor .u32 ((n : Int) / 2) 3988292384 = ((n / 2 ^^^ 3988292384 : Nat) : Int) := bits_xor_u32 (n / 2) 3988292384 (by omega) (by omega)
  by_cases h : n % 2 = 1
  · have HS : Hid (Crc.shift n = (n / 2) ^^^ 3988292384) := Lib.hid (by simp [Crc.shift, h])
    go_enter Try.func79, Try.ntmps79
    go_wp2_with fail
    go_ret
    exact ⟨by rw [HS.out]; rfl, rfl⟩
  · have h0 : n % 2 = 0 := by omega
    have HS : Hid (Crc.shift n = n / 2) := Lib.hid (by simp [Crc.shift, h])
    go_enter Try.func79, Try.ntmps79
    go_wp2_with fail
    go_ret
    exact ⟨by rw [HS.out]; rfl, rfl⟩

set_option maxHeartbeats 400000 in
set_option maxRecDepth 100000 in
theorem crcStep_any (x : Int) (n : Nat) (hx : x = n) (w : World) (hn : n < 4294967296) :
    Calls Try.prog 73 #[.int .u32 x] w fun e w' => e = .returned (.int .u32 (Crc.shifts 8 n : Nat)) ∧ w' = w := by
  subst hx
  go_enter Try.func73, Try.ntmps73
  go_wp2_with fail
  go_loop [0, 3] (fun s v => ∃ i m : Nat, v = .int .i64 i ∧ s = .int .u32 m ∧ i ≤ 8 ∧ m < 4294967296 ∧ Stow (m = Crc.shifts i n)) (fun _ v => 8 - (intOf v).toNat)
  case atStart => exact ⟨0, n, rfl, rfl, by omega, hn, ⟨rfl⟩⟩
  case round =>
    obtain ⟨i, m, rfl, rfl, hi, hm, HM⟩ := hrel
    by_cases hlt : i < 8
    · go_wp2_with fail
      refine (crcShift_any _ m rfl _ hm).mono ?_
      rintro e w' ⟨rfl, rfl⟩
      go_wp2_with fail
      exact ⟨⟨i + 1, Crc.shift m, rfl, rfl, by omega, Crc.shift_lt hm, ⟨by rw [HM.out]; rfl⟩⟩, by simp [intOf]; omega⟩
    · obtain rfl : i = 8 := by omega
      go_wp2_with fail
      go_ret
      exact ⟨by rw [HM.out]; rfl, rfl⟩

set_option maxHeartbeats 400000 in
set_option maxRecDepth 100000 in
theorem crcOf_any (l : List UInt8) (w : World) (hl : l.length ≤ 9223372036854775807) :
    Calls Try.prog 67 #[.string (bs l)] w fun e w' => e = .returned (.int .u32 (Crc.of l : Nat)) ∧ w' = w := by
  go_enter Try.func67, Try.ntmps67
  go_wp2_with fail
  go_loop [3, 4, 7] (fun s _ v => ∃ i m : Nat, v = .int .i64 i ∧ s = .int .u32 m ∧ i ≤ l.length ∧ m < 4294967296 ∧ Stow (m = Crc.sum (l.take i))) (fun _ _ v => l.length - (intOf v).toNat)
  case atStart => exact ⟨0, 4294967295, rfl, rfl, by omega, by omega, ⟨rfl⟩⟩
  case round =>
    obtain ⟨i, m, rfl, rfl, hi, hm, HM⟩ := hrel
    by_cases hlt : i < l.length
    · have hb := UInt8.toNat_lt l[i]
      have e1 : bits .xor .u32 (m : Int) ((l[i].toNat : Nat) : Int) = ((m ^^^ l[i].toNat : Nat) : Int) := bits_xor_u32 m _ hm (by omega)
      have e2 : IntKind.u32.wrap ((l[i].toNat : Nat) : Int) = l[i].toNat := wrap_u32_nat _ (by omega)
      go_wp2_with fail
      refine (crcStep_any _ (m ^^^ l[i].toNat) e1 _ (Nat.xor_lt_two_pow (n := 32) (by omega) (by omega))).mono ?_
      rintro e w' ⟨rfl, rfl⟩
      go_wp2_with fail
      refine ⟨⟨i + 1, Crc.step m l[i], rfl, rfl, by omega, Crc.step_lt _ hm, ⟨?_⟩⟩, by simp [intOf]; omega⟩
      rw [List.take_succ_eq_append_getElem hlt, Crc.sum_snoc, ← HM.out]
    · obtain rfl : i = l.length := by omega
      go_wp2_with fail
      go_ret
      have e := HM.out
      rw [List.take_length] at e
      refine ⟨?_, rfl⟩
      rw [Crc.of, ← e]
      exact congrArg (fun r => Ending.returned (.int .u32 r)) (turn_u32 m hm)

set_option maxHeartbeats 400000 in
set_option maxRecDepth 100000 in
theorem refCrcOf_any (l : List UInt8) (w : World) (hl : l.length ≤ 9223372036854775807) :
    Calls Try.prog 41 #[.string (bs l)] w fun e w' => e = .returned (.int .u32 (Crc.of l : Nat)) ∧ w' = w := by
  go_enter Try.func41, Try.ntmps41
  go_wp2_with fail
  go_loop [3, 4, 5, 6, 7] (fun s v _ _ _ => ∃ i m : Nat, v = .int .i64 i ∧ s = .int .u32 m ∧ i ≤ l.length ∧ m < 4294967296 ∧ Stow (m = Crc.sum (l.take i))) (fun _ v _ _ _ => l.length - (intOf v).toNat)
  case atStart => exact ⟨0, 4294967295, rfl, rfl, by omega, by omega, ⟨rfl⟩⟩
  case round =>
    obtain ⟨i, m, rfl, rfl, hi, hm, HM⟩ := hrel
    by_cases hlt : i < l.length
    · have hb := UInt8.toNat_lt l[i]
      go_wp2_with fail
      go_loop [3, 5, 6, 7] (fun s v _ _ => ∃ j q : Nat, v = .int .i64 j ∧ s = .int .u32 q ∧ j ≤ 8 ∧ q < 4294967296 ∧ Stow (q = Crc.rsteps l[i].toNat j m)) (fun _ v _ _ => 8 - (intOf v).toNat)
      case atStart => exact ⟨0, m, rfl, rfl, by omega, hm, ⟨rfl⟩⟩
      case round =>
        obtain ⟨j, q, rfl, rfl, hj, hq, HQ⟩ := hrel
        by_cases hj8 : j < 8
        · go_wp2_with fail
          all_goals
            have hd : ∀ b : Bool, (((q : Int) % 2 != (l[i].toNat : Int) / 2 ^ j % 2) = b) → ((q % 2 != l[i].toNat / 2 ^ j % 2) = b) := fun b hb' => by
              rw [← hb', Bool.eq_iff_iff]
              have e : ((l[i].toNat : Int) / 2 ^ j % 2) = ((l[i].toNat / 2 ^ j % 2 : Nat) : Int) := by simp
              have e' : ((q : Int) % 2) = ((q % 2 : Nat) : Int) := by simp
              rw [e, e']
              simp only [bne_iff_ne, ne_eq]
              omega
            have hd2 := hd _ ‹_›
          · refine ⟨⟨j + 1, q / 2 ^^^ 3988292384, rfl, congrArg _ (bits_xor_u32 (q / 2) 3988292384 (by omega) (by omega)), by omega, Nat.xor_lt_two_pow (n := 32) (by omega) (by omega), ⟨?_⟩⟩, by simp [intOf]; omega⟩
            simp only [Crc.rsteps, Crc.rstep]
            rw [← HQ.out, if_pos (by simpa using hd2)]
          · refine ⟨⟨j + 1, q / 2, rfl, rfl, by omega, by omega, ⟨?_⟩⟩, by simp [intOf]; omega⟩
            simp only [Crc.rsteps, Crc.rstep]
            rw [← HQ.out, if_neg (by simpa using hd2)]
        · obtain rfl : j = 8 := by omega
          go_wp2_with fail
          refine ⟨⟨i + 1, q, rfl, rfl, by omega, hq, ⟨?_⟩⟩, by simp [intOf]; omega⟩
          rw [HQ.out, Crc.rsteps_byte, List.take_succ_eq_append_getElem hlt, Crc.sum_snoc, ← HM.out]
    · obtain rfl : i = l.length := by omega
      go_wp2_with fail
      go_ret
      have e := HM.out
      rw [List.take_length] at e
      exact ⟨by rw [Crc.of, ← e]; exact congrArg (fun r => Ending.returned (.int .u32 r)) (by omega), rfl⟩
/-- A text with its sum behind. -/
def seal_ (l : List UInt8) : List UInt8 := l ++ Oc.digs 256 4 (Crc.of l)

set_option maxHeartbeats 400000 in
set_option maxRecDepth 100000 in
theorem crcTail_any (l : List UInt8) (w : World) (hl : l.length ≤ 9223372036854775807) :
    Calls Try.prog 45 #[.string (bs l)] w fun e w' => e = .returned (.string (bs (Oc.digs 256 4 (Crc.of l)))) ∧ Below w.heap.size w w' := by
  have hlt := Crc.of_lt l
  obtain ⟨n, hn⟩ : ∃ n, Crc.of l = n := ⟨_, rfl⟩
  have HN := Stow.mk hn
  rw [hn] at hlt ⊢
  clear hn
  have e2 : IntKind.u64.wrap (n : Int) = n := wrap_u64_nat n (by omega)
  go_enter Try.func45, Try.ntmps45
  go_wp2_with fail
  refine (crcOf_any l _ hl).mono ?_
  rw [HN.out]
  rintro e w' ⟨rfl, rfl⟩
  go_wp2_with fail
  refine (octPut4_any _ n rfl _ hlt).mono ?_
  rintro e w1 ⟨rfl, hb1⟩
  go_wp2_with fail
  go_ret
  exact ⟨rfl, hb1⟩

set_option maxHeartbeats 400000 in
set_option maxRecDepth 100000 in
theorem crcSeal_any (l : List UInt8) (w : World) (hl : l.length ≤ 1099511627776) :
    Calls Try.prog 25 #[.string (bs l)] w fun e w' => e = .returned (.string (bs (seal_ l))) ∧ Below w.heap.size w w' := by
  have hd := Oc.digs_len 256 4 (Crc.of l)
  have hs : seal_ l = l ++ Oc.digs 256 4 (Crc.of l) := rfl
  obtain ⟨d, hd2⟩ : ∃ d, Oc.digs 256 4 (Crc.of l) = d := ⟨_, rfl⟩
  have HD := Stow.mk hd2
  rw [hd2] at hd hs
  have HS := Stow.mk hs
  have hd4 : d.length ≤ 4 := by omega
  clear hs hd hd2
  go_enter Try.func25, Try.ntmps25
  go_wp2_with fail
  refine (crcTail_any l _ (by omega)).mono ?_
  rw [HD.out]
  rintro e w1 ⟨rfl, hb1⟩
  go_wp2_with fail
  go_ret
  exact ⟨by rw [HS.out]; rfl, hb1⟩

set_option maxHeartbeats 400000 in
set_option maxRecDepth 100000 in
theorem refCrcSeal_any (l : List UInt8) (w : World) (hl : l.length ≤ 1099511627776) :
    Calls Try.prog 22 #[.string (bs l)] w fun e w' => e = .returned (.string (bs (seal_ l))) ∧ Below w.heap.size w w' := by
  have hlt := Crc.of_lt l
  have hs : seal_ l = l ++ Oc.digs 256 4 (Crc.of l) := rfl
  have HS := Stow.mk hs
  clear hs
  obtain ⟨n, hn⟩ : ∃ n, Crc.of l = n := ⟨_, rfl⟩
  have HN := Stow.mk hn
  rw [hn] at hlt
  clear hn
  have e2 : IntKind.u64.wrap (n : Int) = n := wrap_u64_nat n (by omega)
  go_enter Try.func22, Try.ntmps22
  go_wp2_with fail
  refine (refCrcOf_any l _ (by omega)).mono ?_
  rw [HN.out]
  rintro e w' ⟨rfl, rfl⟩
  go_wp2_with fail
  have hd := Oc.digs_len 256 4 n
  have hd4 : (Oc.digs 256 4 n).length ≤ 4 := by omega
  clear hd
  refine (refOctPut4_any _ n rfl _ hlt).mono ?_
  rintro e w1 ⟨rfl, hb1⟩
  go_wp2_with fail
  go_ret
  exact ⟨by rw [HS.out, HN.out]; rfl, hb1⟩

/-- What is sealed, or why nothing is. -/
def unsl (l : List UInt8) : List UInt8 × Nat :=
  if l.length < 4 then ([], 5) else if Oc.digs 256 4 (Crc.of (l.take (l.length - 4))) ≠ l.drop (l.length - 4) then ([], 4) else (l.take (l.length - 4), 0)

set_option maxHeartbeats 400000 in
set_option maxRecDepth 100000 in
theorem crcOpen_any (l : List UInt8) (w : World) (hl : l.length ≤ 9223372036854775807) :
    Calls Try.prog 54 #[.string (bs l)] w fun e w' => e = .returned (.tuple #[.string (bs (unsl l).1), .int .i64 ((unsl l).2 : Nat)]) ∧ Below w.heap.size w w' := by
  by_cases h4 : l.length < 4
  · have HU : Stow (unsl l = ([], 5)) := ⟨by simp [unsl, h4]⟩
    go_enter Try.func54, Try.ntmps54
    go_wp2_with fail
    go_ret2
    exact ⟨by rw [HU.out]; rfl, Below.self _⟩
  · obtain ⟨k, hk⟩ : ∃ k, l.length = k + 4 := ⟨l.length - 4, by omega⟩
    have hkd : l.length - 4 = k := by omega
    obtain ⟨t, ht⟩ : ∃ t, Oc.digs 256 4 (Crc.of (l.take k)) = t := ⟨_, rfl⟩
    have HT := Stow.mk ht
    obtain ⟨d, hd⟩ : ∃ d, l.drop k = d := ⟨_, rfl⟩
    have HD := Stow.mk hd
    have HU : Stow (unsl l = if t ≠ d then ([], 4) else (l.take k, 0)) := ⟨by unfold unsl; rw [if_neg h4, hkd, ht, hd]⟩
    clear hd ht
    have HK := Stow.mk hk
    have hk1 : k ≤ l.length := by omega
    have ek : (l.length : Int) - 4 = k := by omega
    clear hk hkd
    have hct : ∀ w0, Calls Try.prog 45 #[.string (bs (l.take k))] w0 fun e w' => e = .returned (.string (bs t)) ∧ Below w0.heap.size w0 w' := fun w0 => by
      have := crcTail_any (l.take k) w0 (by simp; omega)
      rwa [HT.out] at this
    have HC := Stow.mk hct
    clear hct
    have hb : ∃ b : Bool, (t == l.drop k) = b := ⟨_, rfl⟩
    obtain ⟨b, hb⟩ := hb
    have HB : Stow (b = true ↔ t = d) := ⟨by rw [← hb, HD.out]; simp⟩
    go_enter Try.func54, Try.ntmps54
    go_wp2_with fail
    refine wp_region_later w.heap.size (by kernel_rfl) (by kernel_rfl) ?_
    repeat (go_big_quiet_step (first | (go_at_call 45; exact Calls.later (Nat.le_refl _) (HC.out _))))
    refine wpQuiet_nil ?_
    rintro ⟨wx, hbx⟩
    cases b
    · go_wp2_with fail
      go_ret2
      exact ⟨by rw [HU.out, if_pos (fun e => by simpa using HB.out.2 e)]; rfl, hbx⟩
    · go_wp2_with fail
      go_ret2
      exact ⟨by rw [HU.out, if_neg (fun e => e (HB.out.1 (by simp)))]; rfl, hbx⟩

theorem unsl_seal {l : List UInt8} {k : Nat} (hk : l.length = k + 4) : seal_ (l.take k) = l ↔ Oc.digs 256 4 (Crc.of (l.take k)) = l.drop k := by
  unfold seal_
  constructor
  · intro h
    have h2 := congrArg (List.drop k) h
    rw [List.drop_append_of_le_length (by simp; omega)] at h2
    rwa [List.drop_eq_nil_of_le (by simp; omega), List.nil_append] at h2
  · intro h
    rw [h, List.take_append_drop]

set_option maxHeartbeats 400000 in
set_option maxRecDepth 100000 in
theorem refCrcOpen_any (l : List UInt8) (w : World) (hl : l.length ≤ 1099511627776) :
    Calls Try.prog 58 #[.string (bs l)] w fun e w' => e = .returned (.tuple #[.string (bs (unsl l).1), .int .i64 ((unsl l).2 : Nat)]) ∧ Below w.heap.size w w' := by
  by_cases h4 : l.length < 4
  · have HU : Stow (unsl l = ([], 5)) := ⟨by simp [unsl, h4]⟩
    go_enter Try.func58, Try.ntmps58
    go_wp2_with fail
    go_ret2
    exact ⟨by rw [HU.out]; rfl, Below.self _⟩
  · obtain ⟨k, hk⟩ : ∃ k, l.length = k + 4 := ⟨l.length - 4, by omega⟩
    have hkd : l.length - 4 = k := by omega
    have hb : ∃ b : Bool, (seal_ (l.take k) == l) = b := ⟨_, rfl⟩
    obtain ⟨b, hb⟩ := hb
    obtain ⟨t, ht⟩ : ∃ t, seal_ (l.take k) = t := ⟨_, rfl⟩
    have HU : Stow (unsl l = if b = true then (l.take k, 0) else ([], 4)) := ⟨by
      unfold unsl
      rw [if_neg h4, hkd]
      have e := unsl_seal hk
      by_cases hq : seal_ (l.take k) = l
      · rw [if_neg (fun n => n (e.1 hq)), if_pos (by rw [← hb]; simpa using hq)]
      · rw [if_pos (fun n => hq (e.2 n)), if_neg (by rw [← hb]; simpa using hq)]⟩
    have HT := Stow.mk ht
    rw [ht] at hb
    clear ht
    have HK := Stow.mk hk
    have hk1 : k ≤ l.length := by omega
    have ek : (l.length : Int) - 4 = k := by omega
    clear hk hkd
    go_enter Try.func58, Try.ntmps58
    go_wp2_with fail
    refine (refCrcSeal_any (l.take k) _ (by simp; omega)).mono ?_
    rw [HT.out]
    rintro e w1 ⟨rfl, hb1⟩
    cases b
    · go_wp2_with fail
      go_ret2
      exact ⟨by rw [HU.out]; rfl, hb1⟩
    · go_wp2_with fail
      go_ret2
      exact ⟨by rw [HU.out]; rfl, hb1⟩
end Go.Proofs.Ytkhepehgafijfaa
