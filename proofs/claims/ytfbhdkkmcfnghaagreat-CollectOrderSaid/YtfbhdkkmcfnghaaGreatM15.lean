/- ; Walks of crc's Of, tail, Seal and Open, and of the reference's. Condition: texts are no longer than an int can say.; Batches as bytes, in plain Lean. No condition.; Walks of Text, of the program and of the reference. Condition: the text has at most 2^40 bytes. -/
import Derived.Test.YtfbhdkkmcfnghaaGreatM01
import Derived.Test.YtfbhdkkmcfnghaaGreatM10
import Derived.Test.YtfbhdkkmcfnghaaGreatM14
import Derived.Test.YtfbhdkkmcfnghaaGreatM09

section
/- Sums of bytes, in plain Lean: as the program makes them and as the document says, and that a byte that is another one is told. No condition. -/
namespace Go.Proofs.YtfbhdkkmcfnghaaGreat.Crc

/-- A bit falls out. -/
def shift (s : Nat) : Nat := if s % 2 = 1 then (s / 2) ^^^ 3988292384 else s / 2
/-- So many bits fall out. -/
def shifts : Nat → Nat → Nat
  | 0, s => s
  | k + 1, s => shift (shifts k s)
def step (s : Nat) (b : UInt8) : Nat := shifts 8 (s ^^^ b.toNat)
/-- The sum, before its bits are turned. -/
def sum (l : List UInt8) : Nat := l.foldl step 4294967295
def of (l : List UInt8) : Nat := 4294967295 - sum l

theorem shift_lt {s : Nat} (h : s < 4294967296) : shift s < 4294967296 := by
  unfold shift
  split
  · exact Nat.xor_lt_two_pow (n := 32) (by omega) (by omega)
  · omega
theorem shifts_lt (k : Nat) {s : Nat} (h : s < 4294967296) : shifts k s < 4294967296 := by
  induction k with
  | zero => exact h
  | succ k ih => exact shift_lt ih
theorem step_lt {s : Nat} (b : UInt8) (h : s < 4294967296) : step s b < 4294967296 :=
  shifts_lt 8 (Nat.xor_lt_two_pow (n := 32) (by omega) (by have := UInt8.toNat_lt b; omega))
theorem fold_lt (l : List UInt8) : ∀ s, s < 4294967296 → l.foldl step s < 4294967296 := by
  induction l with
  | nil => intro s h; exact h
  | cons b t ih => intro s h; exact ih _ (step_lt b h)
theorem sum_lt (l : List UInt8) : sum l < 4294967296 := fold_lt l _ (by omega)
theorem of_lt (l : List UInt8) : of l < 4294967296 := by unfold of; omega
theorem sum_snoc (l : List UInt8) (b : UInt8) : sum (l ++ [b]) = step (sum l) b := by simp [sum]

/-! The document's way: the byte's bits one by one. -/
/-- One bit more of a byte: what has fallen out of the sum is held against it. -/
def rstep (s b i : Nat) : Nat := if s % 2 ≠ b / 2 ^ i % 2 then (s / 2) ^^^ 3988292384 else s / 2
def rsteps (b : Nat) : Nat → Nat → Nat
  | 0, s => s
  | k + 1, s => rstep (rsteps b k s) b k

theorem xor_mod2 (a b : Nat) : (a ^^^ b) % 2 = 1 ↔ a % 2 ≠ b % 2 := by
  have h := Nat.testBit_xor a b 0
  simp only [Nat.testBit_zero] at h
  have ha : a % 2 = 0 ∨ a % 2 = 1 := by omega
  have hb : b % 2 = 0 ∨ b % 2 = 1 := by omega
  have hx : (a ^^^ b) % 2 = 0 ∨ (a ^^^ b) % 2 = 1 := by omega
  rcases ha with ha | ha <;> rcases hb with hb | hb <;> rcases hx with hx | hx <;> simp_all
theorem xor_div2 (a b : Nat) : (a ^^^ b) / 2 = (a / 2) ^^^ (b / 2) := by
  apply Nat.eq_of_testBit_eq
  intro i
  simp [Nat.testBit_div_two, Nat.testBit_xor]
theorem rsteps_same (b : Nat) (k s : Nat) : shifts k (s ^^^ b) = rsteps b k s ^^^ (b / 2 ^ k) := by
  induction k with
  | zero => simp [shifts, rsteps]
  | succ k ih =>
    simp only [shifts, rsteps]
    rw [ih]
    have e : b / 2 ^ (k + 1) = b / 2 ^ k / 2 := by rw [Nat.pow_succ, Nat.div_div_eq_div_mul]
    unfold shift rstep
    by_cases h : rsteps b k s % 2 = b / 2 ^ k % 2
    · rw [if_neg (by rw [xor_mod2]; simpa using h), if_neg (by simpa using h), xor_div2, e]
    · rw [if_pos (by rw [xor_mod2]; exact h), if_pos h, xor_div2, e, Nat.xor_assoc, Nat.xor_comm (b / 2 ^ k / 2), ← Nat.xor_assoc]
theorem rsteps_byte (b : UInt8) (s : Nat) : rsteps b.toNat 8 s = step s b := by
  have h := rsteps_same b.toNat 8 s
  have hb := UInt8.toNat_lt b
  rw [show b.toNat / 2 ^ 8 = 0 by omega, Nat.xor_zero] at h
  exact h.symm
theorem rsteps_lt (b k : Nat) {s : Nat} (h : s < 4294967296) : rsteps b k s < 4294967296 := by
  induction k with
  | zero => exact h
  | succ k ih =>
    simp only [rsteps, rstep]
    split
    · exact Nat.xor_lt_two_pow (n := 32) (by omega) (by omega)
    · omega

/-! A byte that is another one is told. -/
theorem shift_inj {a b : Nat} (ha : a < 4294967296) (hb : b < 4294967296) (h : shift a = shift b) : a = b := by
  have hp : ∀ x, x < 2147483648 → (x ^^^ 3988292384) / 2147483648 = 1 := by
    intro x hx
    have e : (x ^^^ 3988292384) / 2 ^ 31 = x / 2 ^ 31 ^^^ 3988292384 / 2 ^ 31 := by
      apply Nat.eq_of_testBit_eq
      intro i
      rw [Nat.testBit_div_two_pow, Nat.testBit_xor, Nat.testBit_xor, Nat.testBit_div_two_pow, Nat.testBit_div_two_pow]
    rw [show (2147483648 : Nat) = 2 ^ 31 from rfl, e]
    rw [show x / 2 ^ 31 = 0 by omega]
    decide
  have hx : ∀ x y : Nat, x ^^^ 3988292384 = y ^^^ 3988292384 → x = y := fun x y e => by
    have := congrArg (· ^^^ 3988292384) e
    simpa [Nat.xor_assoc] using this
  unfold shift at h
  by_cases h1 : a % 2 = 1
  · by_cases h2 : b % 2 = 1
    · rw [if_pos h1, if_pos h2] at h
      have := hx _ _ h
      omega
    · rw [if_pos h1, if_neg h2] at h
      have := hp (a / 2) (by omega)
      rw [h] at this
      omega
  · by_cases h2 : b % 2 = 1
    · rw [if_neg h1, if_pos h2] at h
      have := hp (b / 2) (by omega)
      rw [← h] at this
      omega
    · rw [if_neg h1, if_neg h2] at h
      omega
theorem shifts_inj (k : Nat) {a b : Nat} (ha : a < 4294967296) (hb : b < 4294967296) (h : shifts k a = shifts k b) : a = b := by
  induction k with
  | zero => exact h
  | succ k ih => exact ih (shift_inj (shifts_lt k ha) (shifts_lt k hb) h)
theorem step_inj_sum {a b : Nat} (c : UInt8) (ha : a < 4294967296) (hb : b < 4294967296) (h : step a c = step b c) : a = b := by
  have hc := UInt8.toNat_lt c
  have := shifts_inj 8 (Nat.xor_lt_two_pow (n := 32) (by omega) (by omega)) (Nat.xor_lt_two_pow (n := 32) (by omega) (by omega)) h
  have e := congrArg (· ^^^ c.toNat) this
  simpa [Nat.xor_assoc] using e
theorem step_inj_byte {a : Nat} {c d : UInt8} (ha : a < 4294967296) (h : step a c = step a d) : c = d := by
  have hc := UInt8.toNat_lt c
  have hd := UInt8.toNat_lt d
  have := shifts_inj 8 (Nat.xor_lt_two_pow (n := 32) (by omega) (by omega)) (Nat.xor_lt_two_pow (n := 32) (by omega) (by omega)) h
  have e := congrArg (a ^^^ ·) this
  simp only [← Nat.xor_assoc, Nat.xor_self, Nat.zero_xor] at e
  exact UInt8.toNat_inj.1 e
theorem fold_inj (l : List UInt8) : ∀ a b, a < 4294967296 → b < 4294967296 → l.foldl step a = l.foldl step b → a = b := by
  induction l with
  | nil => intro a b _ _ h; exact h
  | cons c t ih => intro a b ha hb h; exact step_inj_sum c ha hb (ih _ _ (step_lt c ha) (step_lt c hb) h)
/-- Texts that part at one byte have other sums. -/
theorem of_apart (p q : List UInt8) (c d : UInt8) (h : c ≠ d) : of (p ++ c :: q) ≠ of (p ++ d :: q) := by
  intro e
  have h1 := sum_lt (p ++ c :: q)
  have h2 := sum_lt (p ++ d :: q)
  have e1 : sum (p ++ c :: q) = sum (p ++ d :: q) := by unfold of at e; omega
  simp only [sum, List.foldl_append, List.foldl_cons] at e1
  have hp := fold_lt p 4294967295 (by omega)
  exact h (step_inj_byte hp (fold_inj q _ _ (step_lt c hp) (step_lt d hp) e1))

end Go.Proofs.YtfbhdkkmcfnghaaGreat.Crc
end

section
namespace Go.Proofs.YtfbhdkkmcfnghaaGreat
open Go.RowKit

theorem ofInt_u32 (a : Nat) (ha : a < 4294967296) : (BitVec.ofInt 32 (a : Int)).toNat = a := by
  rw [BitVec.ofInt_natCast, BitVec.toNat_ofNat]; exact Nat.mod_eq_of_lt (by omega)
theorem wrap_u32_nat (a : Nat) (h : a < 4294967296) : IntKind.u32.wrap (a : Int) = a := by
  simp [IntKind.wrap, IntKind.bits, IntKind.signed]; omega
theorem bits_xor_u32 (a b : Nat) (ha : a < 4294967296) (hb : b < 4294967296) : bits .xor .u32 (a : Int) (b : Int) = ((a ^^^ b : Nat) : Int) := by
  have hx : a ^^^ b < 2 ^ 32 := Nat.xor_lt_two_pow (by omega) (by omega)
  show IntKind.u32.wrap ((BitVec.ofInt 32 (a : Int) ^^^ BitVec.ofInt 32 (b : Int)).toNat : Int) = _
  rw [BitVec.toNat_xor, ofInt_u32 a ha, ofInt_u32 b hb, wrap_u32_nat _ (by omega)]
theorem bits_and1_u32 (a : Nat) (ha : a < 4294967296) : bits .and .u32 (a : Int) 1 = ((a % 2 : Nat) : Int) := by
  show IntKind.u32.wrap ((BitVec.ofInt 32 (a : Int) &&& BitVec.ofInt 32 (1 : Int)).toNat : Int) = _
  rw [BitVec.toNat_and, ofInt_u32 a ha, show (BitVec.ofInt 32 (1 : Int)).toNat = 1 from rfl, Nat.and_one_is_mod, wrap_u32_nat _ (by omega)]

theorem turn_u32 (m : Nat) (hm : m < 4294967296) : bits .xor .u32 IntKind.u32.max (m : Int) = ((4294967295 - m : Nat) : Int) := by
  have h := bits_xor_u32 4294967295 m (by omega) hm
  rw [show ((4294967295 : Nat) : Int) = IntKind.u32.max from rfl] at h
  rw [h]
  refine congrArg (fun n : Nat => (n : Int)) ?_
  apply Nat.eq_of_testBit_eq
  intro i
  rw [Nat.testBit_xor, show 4294967295 - m = 2 ^ 32 - (m + 1) by omega, Nat.testBit_two_pow_sub_succ (by omega), show (4294967295 : Nat) = 2 ^ 32 - 1 from rfl, Nat.testBit_two_pow_sub_one]
  by_cases hi : i < 32
  · simp [hi]
  · have : m.testBit i = false := Nat.testBit_lt_two_pow (Nat.lt_of_lt_of_le (by omega : m < 2 ^ 32) (Nat.pow_le_pow_right (by omega) (by omega)))
    simp [hi, this]

set_option maxHeartbeats 400000 in
set_option maxRecDepth 100000 in
theorem crcShift_any (x : Int) (n : Nat) (hx : x = n) (w : World) (hn : n < 4294967296) :
    Calls Tryz.prog 175 #[.int .u32 x] w fun e w' => e = .returned (.int .u32 (Crc.shift n : Nat)) ∧ w' = w := by
  subst hx
  have e1 := bits_and1_u32 n hn
  have e2 : bits .xor .u32 ((n : Int) / 2) 3988292384 = ((n / 2 ^^^ 3988292384 : Nat) : Int) := bits_xor_u32 (n / 2) 3988292384 (by omega) (by omega)
  by_cases h : n % 2 = 1
  · have HS : Hid (Crc.shift n = (n / 2) ^^^ 3988292384) := Lib.hid (by simp [Crc.shift, h])
    go_enter Tryz.func175, Tryz.ntmps175
    go_wp2_with fail
    go_ret
    exact ⟨by rw [HS.out]; rfl, rfl⟩
  · have h0 : n % 2 = 0 := by omega
    have HS : Hid (Crc.shift n = n / 2) := Lib.hid (by simp [Crc.shift, h])
    go_enter Tryz.func175, Tryz.ntmps175
    go_wp2_with fail
    go_ret
    exact ⟨by rw [HS.out]; rfl, rfl⟩

set_option maxHeartbeats 400000 in
set_option maxRecDepth 100000 in
theorem crcStep_any (x : Int) (n : Nat) (hx : x = n) (w : World) (hn : n < 4294967296) :
    Calls Tryz.prog 162 #[.int .u32 x] w fun e w' => e = .returned (.int .u32 (Crc.shifts 8 n : Nat)) ∧ w' = w := by
  subst hx
  go_enter Tryz.func162, Tryz.ntmps162
  go_wp2_with fail
  go_loop [0, 3] (fun s v => ∃ i m : Nat, v = .int .i64 i ∧ s = .int .u32 m ∧ i ≤ 8 ∧ m < 4294967296 ∧ Stow (m = Crc.shifts i n)) (fun _ v => 8 - (intOf v).toNat)
  case atStart => exact ⟨0, n, rfl, rfl, by omega, hn, ⟨rfl⟩⟩
  case round =>
    obtain ⟨i, m, rfl, rfl, hi, hm, HM⟩ := hrel
    by_cases hlt : i < 8
    · go_wp2_with fail
      refine (crcShift_any _ m rfl _ hm).mono ?_
      rintro e w' ⟨rfl, rfl⟩
      go_wp2_with fail
      exact ⟨⟨i + 1, Crc.shift m, rfl, rfl, by omega, Crc.shift_lt hm, ⟨by rw [HM.out]; rfl⟩⟩, by simp [intOf]; omega⟩
    · obtain rfl : i = 8 := by omega
      go_wp2_with fail
      go_ret
      exact ⟨by rw [HM.out]; rfl, rfl⟩

set_option maxHeartbeats 400000 in
set_option maxRecDepth 100000 in
theorem crcOf_any (l : List UInt8) (w : World) (hl : l.length ≤ 9223372036854775807) :
    Calls Tryz.prog 135 #[.string (bs l)] w fun e w' => e = .returned (.int .u32 (Crc.of l : Nat)) ∧ w' = w := by
  go_enter Tryz.func135, Tryz.ntmps135
  go_wp2_with fail
  go_loop [3, 4, 7] (fun s _ v => ∃ i m : Nat, v = .int .i64 i ∧ s = .int .u32 m ∧ i ≤ l.length ∧ m < 4294967296 ∧ Stow (m = Crc.sum (l.take i))) (fun _ _ v => l.length - (intOf v).toNat)
  case atStart => exact ⟨0, 4294967295, rfl, rfl, by omega, by omega, ⟨rfl⟩⟩
  case round =>
    obtain ⟨i, m, rfl, rfl, hi, hm, HM⟩ := hrel
    by_cases hlt : i < l.length
    · have hb := UInt8.toNat_lt l[i]
      have e1 : bits .xor .u32 (m : Int) ((l[i].toNat : Nat) : Int) = ((m ^^^ l[i].toNat : Nat) : Int) := bits_xor_u32 m _ hm (by omega)
      have e2 : IntKind.u32.wrap ((l[i].toNat : Nat) : Int) = l[i].toNat := wrap_u32_nat _ (by omega)
      go_wp2_with fail
      refine (crcStep_any _ (m ^^^ l[i].toNat) e1 _ (Nat.xor_lt_two_pow (n := 32) (by omega) (by omega))).mono ?_
      rintro e w' ⟨rfl, rfl⟩
      go_wp2_with fail
      refine ⟨⟨i + 1, Crc.step m l[i], rfl, rfl, by omega, Crc.step_lt _ hm, ⟨?_⟩⟩, by simp [intOf]; omega⟩
      rw [List.take_succ_eq_append_getElem hlt, Crc.sum_snoc, ← HM.out]
    · obtain rfl : i = l.length := by omega
      go_wp2_with fail
      go_ret
      have e := HM.out
      rw [List.take_length] at e
      refine ⟨?_, rfl⟩
      rw [Crc.of, ← e]
      exact congrArg (fun r => Ending.returned (.int .u32 r)) (turn_u32 m hm)

set_option maxHeartbeats 400000 in
set_option maxRecDepth 100000 in
theorem refCrcOf_any (l : List UInt8) (w : World) (hl : l.length ≤ 9223372036854775807) :
    Calls Tryz.prog 79 #[.string (bs l)] w fun e w' => e = .returned (.int .u32 (Crc.of l : Nat)) ∧ w' = w := by
  go_enter Tryz.func79, Tryz.ntmps79
  go_wp2_with fail
  go_loop [3, 4, 5, 6, 7] (fun s v _ _ _ => ∃ i m : Nat, v = .int .i64 i ∧ s = .int .u32 m ∧ i ≤ l.length ∧ m < 4294967296 ∧ Stow (m = Crc.sum (l.take i))) (fun _ v _ _ _ => l.length - (intOf v).toNat)
  case atStart => exact ⟨0, 4294967295, rfl, rfl, by omega, by omega, ⟨rfl⟩⟩
  case round =>
    obtain ⟨i, m, rfl, rfl, hi, hm, HM⟩ := hrel
    by_cases hlt : i < l.length
    · have hb := UInt8.toNat_lt l[i]
      go_wp2_with fail
      go_loop [3, 5, 6, 7] (fun s v _ _ => ∃ j q : Nat, v = .int .i64 j ∧ s = .int .u32 q ∧ j ≤ 8 ∧ q < 4294967296 ∧ Stow (q = Crc.rsteps l[i].toNat j m)) (fun _ v _ _ => 8 - (intOf v).toNat)
      case atStart => exact ⟨0, m, rfl, rfl, by omega, hm, ⟨rfl⟩⟩
      case round =>
        obtain ⟨j, q, rfl, rfl, hj, hq, HQ⟩ := hrel
        by_cases hj8 : j < 8
        · go_wp2_with fail
          all_goals
            have hd : ∀ b : Bool, (((q : Int) % 2 != (l[i].toNat : Int) / 2 ^ j % 2) = b) → ((q % 2 != l[i].toNat / 2 ^ j % 2) = b) := fun b hb' => by
              rw [← hb', Bool.eq_iff_iff]
              have e : ((l[i].toNat : Int) / 2 ^ j % 2) = ((l[i].toNat / 2 ^ j % 2 : Nat) : Int) := by simp
              have e' : ((q : Int) % 2) = ((q % 2 : Nat) : Int) := by simp
              rw [e, e']
              simp only [bne_iff_ne, ne_eq]
              omega
            have hd2 := hd _ ‹_›
          · refine ⟨⟨j + 1, q / 2 ^^^ 3988292384, rfl, congrArg _ (bits_xor_u32 (q / 2) 3988292384 (by omega) (by omega)), by omega, Nat.xor_lt_two_pow (n := 32) (by omega) (by omega), ⟨?_⟩⟩, by simp [intOf]; omega⟩
            simp only [Crc.rsteps, Crc.rstep]
            rw [← HQ.out, if_pos (by simpa using hd2)]
          · refine ⟨⟨j + 1, q / 2, rfl, rfl, by omega, by omega, ⟨?_⟩⟩, by simp [intOf]; omega⟩
            simp only [Crc.rsteps, Crc.rstep]
            rw [← HQ.out, if_neg (by simpa using hd2)]
        · obtain rfl : j = 8 := by omega
          go_wp2_with fail
          refine ⟨⟨i + 1, q, rfl, rfl, by omega, hq, ⟨?_⟩⟩, by simp [intOf]; omega⟩
          rw [HQ.out, Crc.rsteps_byte, List.take_succ_eq_append_getElem hlt, Crc.sum_snoc, ← HM.out]
    · obtain rfl : i = l.length := by omega
      go_wp2_with fail
      go_ret
      have e := HM.out
      rw [List.take_length] at e
      exact ⟨by rw [Crc.of, ← e]; exact congrArg (fun r => Ending.returned (.int .u32 r)) (by omega), rfl⟩
/-- A text with its sum behind. -/
def seal_ (l : List UInt8) : List UInt8 := l ++ Oc.digs 256 4 (Crc.of l)

set_option maxHeartbeats 400000 in
set_option maxRecDepth 100000 in
theorem crcTail_any (l : List UInt8) (w : World) (hl : l.length ≤ 9223372036854775807) :
    Calls Tryz.prog 94 #[.string (bs l)] w fun e w' => e = .returned (.string (bs (Oc.digs 256 4 (Crc.of l)))) ∧ Below w.heap.size w w' := by
  have hlt := Crc.of_lt l
  obtain ⟨n, hn⟩ : ∃ n, Crc.of l = n := ⟨_, rfl⟩
  have HN := Stow.mk hn
  rw [hn] at hlt ⊢
  clear hn
  have e2 : IntKind.u64.wrap (n : Int) = n := wrap_u64_nat n (by omega)
  go_enter Tryz.func94, Tryz.ntmps94
  go_wp2_with fail
  refine (crcOf_any l _ hl).mono ?_
  rw [HN.out]
  rintro e w' ⟨rfl, rfl⟩
  go_wp2_with fail
  refine (octPut4_any _ n rfl _ hlt).mono ?_
  rintro e w1 ⟨rfl, hb1⟩
  go_wp2_with fail
  go_ret
  exact ⟨rfl, hb1⟩

set_option maxHeartbeats 400000 in
set_option maxRecDepth 100000 in
theorem crcSeal_any (l : List UInt8) (w : World) (hl : l.length ≤ 1099511627776) :
    Calls Tryz.prog 55 #[.string (bs l)] w fun e w' => e = .returned (.string (bs (seal_ l))) ∧ Below w.heap.size w w' := by
  have hd := Oc.digs_len 256 4 (Crc.of l)
  have hs : seal_ l = l ++ Oc.digs 256 4 (Crc.of l) := rfl
  obtain ⟨d, hd2⟩ : ∃ d, Oc.digs 256 4 (Crc.of l) = d := ⟨_, rfl⟩
  have HD := Stow.mk hd2
  rw [hd2] at hd hs
  have HS := Stow.mk hs
  have hd4 : d.length ≤ 4 := by omega
  clear hs hd hd2
  go_enter Tryz.func55, Tryz.ntmps55
  go_wp2_with fail
  refine (crcTail_any l _ (by omega)).mono ?_
  rw [HD.out]
  rintro e w1 ⟨rfl, hb1⟩
  go_wp2_with fail
  go_ret
  exact ⟨by rw [HS.out]; rfl, hb1⟩

set_option maxHeartbeats 400000 in
set_option maxRecDepth 100000 in
theorem refCrcSeal_any (l : List UInt8) (w : World) (hl : l.length ≤ 1099511627776) :
    Calls Tryz.prog 46 #[.string (bs l)] w fun e w' => e = .returned (.string (bs (seal_ l))) ∧ Below w.heap.size w w' := by
  have hlt := Crc.of_lt l
  have hs : seal_ l = l ++ Oc.digs 256 4 (Crc.of l) := rfl
  have HS := Stow.mk hs
  clear hs
  obtain ⟨n, hn⟩ : ∃ n, Crc.of l = n := ⟨_, rfl⟩
  have HN := Stow.mk hn
  rw [hn] at hlt
  clear hn
  have e2 : IntKind.u64.wrap (n : Int) = n := wrap_u64_nat n (by omega)
  go_enter Tryz.func46, Tryz.ntmps46
  go_wp2_with fail
  refine (refCrcOf_any l _ (by omega)).mono ?_
  rw [HN.out]
  rintro e w' ⟨rfl, rfl⟩
  go_wp2_with fail
  have hd := Oc.digs_len 256 4 n
  have hd4 : (Oc.digs 256 4 n).length ≤ 4 := by omega
  clear hd
  refine (refOctPut4_any _ n rfl _ hlt).mono ?_
  rintro e w1 ⟨rfl, hb1⟩
  go_wp2_with fail
  go_ret
  exact ⟨by rw [HS.out, HN.out]; rfl, hb1⟩

/-- What is sealed, or why nothing is. -/
def unsl (l : List UInt8) : List UInt8 × Nat :=
  if l.length < 4 then ([], 5) else if Oc.digs 256 4 (Crc.of (l.take (l.length - 4))) ≠ l.drop (l.length - 4) then ([], 4) else (l.take (l.length - 4), 0)

set_option maxHeartbeats 400000 in
set_option maxRecDepth 100000 in
theorem crcOpen_any (l : List UInt8) (w : World) (hl : l.length ≤ 9223372036854775807) :
    Calls Tryz.prog 82 #[.string (bs l)] w fun e w' => e = .returned (.tuple #[.string (bs (unsl l).1), .int .i64 ((unsl l).2 : Nat)]) ∧ Below w.heap.size w w' := by
  by_cases h4 : l.length < 4
  · have HU : Stow (unsl l = ([], 5)) := ⟨by simp [unsl, h4]⟩
    go_enter Tryz.func82, Tryz.ntmps82
    go_wp2_with fail
    go_ret2
    exact ⟨by rw [HU.out]; rfl, Below.self _⟩
  · obtain ⟨k, hk⟩ : ∃ k, l.length = k + 4 := ⟨l.length - 4, by omega⟩
    have hkd : l.length - 4 = k := by omega
    obtain ⟨t, ht⟩ : ∃ t, Oc.digs 256 4 (Crc.of (l.take k)) = t := ⟨_, rfl⟩
    have HT := Stow.mk ht
    obtain ⟨d, hd⟩ : ∃ d, l.drop k = d := ⟨_, rfl⟩
    have HD := Stow.mk hd
    have HU : Stow (unsl l = if t ≠ d then ([], 4) else (l.take k, 0)) := ⟨by unfold unsl; rw [if_neg h4, hkd, ht, hd]⟩
    clear hd ht
    have HK := Stow.mk hk
    have hk1 : k ≤ l.length := by omega
    have ek : (l.length : Int) - 4 = k := by omega
    clear hk hkd
    have hct : ∀ w0, Calls Tryz.prog 94 #[.string (bs (l.take k))] w0 fun e w' => e = .returned (.string (bs t)) ∧ Below w0.heap.size w0 w' := fun w0 => by
      have := crcTail_any (l.take k) w0 (by simp; omega)
      rwa [HT.out] at this
    have HC := Stow.mk hct
    clear hct
    have hb : ∃ b : Bool, (t == l.drop k) = b := ⟨_, rfl⟩
    obtain ⟨b, hb⟩ := hb
    have HB : Stow (b = true ↔ t = d) := ⟨by rw [← hb, HD.out]; simp⟩
    go_enter Tryz.func82, Tryz.ntmps82
    go_wp2_with fail
    refine wp_region_later w.heap.size (by kernel_rfl) (by kernel_rfl) ?_
    repeat (go_big_quiet_step (first | (go_at_call 94; exact Calls.later (Nat.le_refl _) (HC.out _))))
    refine wpQuiet_nil ?_
    rintro ⟨wx, hbx⟩
    cases b
    · go_wp2_with fail
      go_ret2
      exact ⟨by rw [HU.out, if_pos (fun e => by simpa using HB.out.2 e)]; rfl, hbx⟩
    · go_wp2_with fail
      go_ret2
      exact ⟨by rw [HU.out, if_neg (fun e => e (HB.out.1 (by simp)))]; rfl, hbx⟩

theorem unsl_seal {l : List UInt8} {k : Nat} (hk : l.length = k + 4) : seal_ (l.take k) = l ↔ Oc.digs 256 4 (Crc.of (l.take k)) = l.drop k := by
  unfold seal_
  constructor
  · intro h
    have h2 := congrArg (List.drop k) h
    rw [List.drop_append_of_le_length (by simp; omega)] at h2
    rwa [List.drop_eq_nil_of_le (by simp; omega), List.nil_append] at h2
  · intro h
    rw [h, List.take_append_drop]

set_option maxHeartbeats 400000 in
set_option maxRecDepth 100000 in
theorem refCrcOpen_any (l : List UInt8) (w : World) (hl : l.length ≤ 1099511627776) :
    Calls Tryz.prog 96 #[.string (bs l)] w fun e w' => e = .returned (.tuple #[.string (bs (unsl l).1), .int .i64 ((unsl l).2 : Nat)]) ∧ Below w.heap.size w w' := by
  by_cases h4 : l.length < 4
  · have HU : Stow (unsl l = ([], 5)) := ⟨by simp [unsl, h4]⟩
    go_enter Tryz.func96, Tryz.ntmps96
    go_wp2_with fail
    go_ret2
    exact ⟨by rw [HU.out]; rfl, Below.self _⟩
  · obtain ⟨k, hk⟩ : ∃ k, l.length = k + 4 := ⟨l.length - 4, by omega⟩
    have hkd : l.length - 4 = k := by omega
    have hb : ∃ b : Bool, (seal_ (l.take k) == l) = b := ⟨_, rfl⟩
    obtain ⟨b, hb⟩ := hb
    obtain ⟨t, ht⟩ : ∃ t, seal_ (l.take k) = t := ⟨_, rfl⟩
    have HU : Stow (unsl l = if b = true then (l.take k, 0) else ([], 4)) := ⟨by
      unfold unsl
      rw [if_neg h4, hkd]
      have e := unsl_seal hk
      by_cases hq : seal_ (l.take k) = l
      · rw [if_neg (fun n => n (e.1 hq)), if_pos (by rw [← hb]; simpa using hq)]
      · rw [if_pos (fun n => hq (e.2 n)), if_neg (by rw [← hb]; simpa using hq)]⟩
    have HT := Stow.mk ht
    rw [ht] at hb
    clear ht
    have HK := Stow.mk hk
    have hk1 : k ≤ l.length := by omega
    have ek : (l.length : Int) - 4 = k := by omega
    clear hk hkd
    go_enter Tryz.func96, Tryz.ntmps96
    go_wp2_with fail
    refine (refCrcSeal_any (l.take k) _ (by simp; omega)).mono ?_
    rw [HT.out]
    rintro e w1 ⟨rfl, hb1⟩
    cases b
    · go_wp2_with fail
      go_ret2
      exact ⟨by rw [HU.out]; rfl, hb1⟩
    · go_wp2_with fail
      go_ret2
      exact ⟨by rw [HU.out]; rfl, hb1⟩
end Go.Proofs.YtfbhdkkmcfnghaaGreat
end

section
namespace Go.Proofs.YtfbhdkkmcfnghaaGreat

def placeB (x y : Int) : Bool := decide (0 ≤ x) && decide (x < 8) && decide (0 ≤ y) && decide (y ≤ 1099511627776)
/-- The first error of spans. -/
def firstBad : List Sp → Nat
  | [] => 0
  | s :: t => if check s = 0 then firstBad t else check s
def btCheck (x y : Int) (L : List Sp) : Nat := if placeB x y = false then 12 else if L.length = 0 then 9 else if 16 < L.length then 8 else firstBad L

theorem firstBad_zero {L : List Sp} : firstBad L = 0 ↔ ∀ s ∈ L, check s = 0 := by
  induction L with
  | nil => simp [firstBad]
  | cons s t ih =>
    simp only [firstBad]
    by_cases h : check s = 0
    · simp [h, ih]
    · rw [if_neg h]; simp [h]
theorem firstBad_at {L : List Sp} {k : Nat} (hk : k < L.length) (h : ∀ s ∈ L.take k, check s = 0) (hb : check L[k] ≠ 0) : firstBad L = check L[k] := by
  induction L generalizing k with
  | nil => simp at hk
  | cons s t ih =>
    cases k with
    | zero => simp only [firstBad]; rw [if_neg (by simpa using hb)]; rfl
    | succ k =>
      have hs := h s (by simp)
      simp only [firstBad]
      rw [if_pos hs]
      exact ih (by simpa using hk) (fun x hx => h x (by simp [hx])) (by simpa using hb)
theorem take_all_succ {L : List Sp} {k : Nat} (hk : k < L.length) (h : ∀ s ∈ L.take k, check s = 0) (hb : check L[k] = 0) : ∀ s ∈ L.take (k + 1), check s = 0 := by
  intro s hs
  rw [List.take_succ_eq_append_getElem hk] at hs
  rcases List.mem_append.1 hs with h1 | h1
  · exact h s h1
  · simp at h1; subst h1; exact hb

/-- A batch's bytes, before they are sealed. -/
def btBody (x y : Int) (L : List Sp) : List UInt8 := [80, 66, 1] ++ ([x.toNat, y.toNat, L.length].flatMap Vr.put ++ L.flatMap spanBytes)
def btWrite (x y : Int) (L : List Sp) : List UInt8 × Nat := if btCheck x y L = 0 then (seal_ (btBody x y L), 0) else ([], btCheck x y L)
def btAck (x y : Int) : List UInt8 × Nat := if placeB x y = true then (seal_ ([80, 65, 1] ++ [x.toNat, y.toNat].flatMap Vr.put), 0) else ([], 12)
def kindOf (l : List UInt8) : Nat := if l.take 3 = [80, 66, 1] then 1 else if l.take 3 = [80, 65, 1] then 2 else 0

/-- A number that is not too great, and the place behind it. -/
def numM (l : List UInt8) (a : Int) (most : Nat) : Nat × Int × Nat :=
  if (Vr.get l a).2.2 ≠ 0 then (0, 0, (Vr.get l a).2.2) else if most < (Vr.get l a).1 then (0, 0, 12) else ((Vr.get l a).1, (Vr.get l a).2.1, 0)

theorem numM_ok {l : List UInt8} {a : Int} {most n : Nat} {y : Int} (h : numM l a most = (n, y, 0)) : Vr.get l a = (n, y, 0) ∧ n ≤ most := by
  unfold numM at h
  split at h
  · simp only [Prod.mk.injEq] at h; omega
  · split at h
    · simp only [Prod.mk.injEq] at h; omega
    · rename_i h1 h2
      simp only [Prod.mk.injEq] at h
      refine ⟨?_, by omega⟩
      rw [← h.1, ← h.2.1]
      have : (Vr.get l a).2.2 = 0 := by simpa using h1
      rw [← this]
theorem numM_err {l : List UInt8} {a : Int} {most n e : Nat} {y : Int} (h : numM l a most = (n, y, e)) (he : e ≠ 0) : n = 0 ∧ y = 0 := by
  unfold numM at h
  split at h
  · simp only [Prod.mk.injEq] at h; omega
  · split at h <;> simp only [Prod.mk.injEq] at h <;> omega

/-- What is sealed of a kind. -/
def openK (l : List UInt8) (k : Nat) : List UInt8 × Nat := if (unsl l).2 ≠ 0 then ([], (unsl l).2) else if kindOf (unsl l).1 ≠ k then ([], 3) else ((unsl l).1, 0)

/-- The spans that stand there, so many. -/
def spansR (t : List UInt8) : Nat → List Sp → Int → List Sp × Int × Nat
  | 0, acc, a => (acc, a, 0)
  | m + 1, acc, a => if (readSpan t a).2.2 ≠ 0 then ([], 0, (readSpan t a).2.2) else spansR t m (acc ++ [(readSpan t a).1]) (readSpan t a).2.1

/-- Node, number, place of what is sealed. -/
def front (l : List UInt8) (k : Nat) : List UInt8 × Nat × Nat × Int × Nat :=
  if (openK l k).2 ≠ 0 then ([], 0, 0, 0, (openK l k).2) else
  if (numM (openK l k).1 3 7).2.2 ≠ 0 then ([], 0, 0, 0, (numM (openK l k).1 3 7).2.2) else
  if (numM (openK l k).1 (numM (openK l k).1 3 7).2.1 1099511627776).2.2 ≠ 0 then ([], 0, 0, 0, (numM (openK l k).1 (numM (openK l k).1 3 7).2.1 1099511627776).2.2) else
  ((openK l k).1, (numM (openK l k).1 3 7).1, (numM (openK l k).1 (numM (openK l k).1 3 7).2.1 1099511627776).1, (numM (openK l k).1 (numM (openK l k).1 3 7).2.1 1099511627776).2.1, 0)

def btReadAck (l : List UInt8) : Nat × Nat × Nat :=
  if (front l 2).2.2.2.2 ≠ 0 then (0, 0, (front l 2).2.2.2.2) else if (front l 2).2.2.2.1 ≠ (front l 2).1.length then (0, 0, 3) else ((front l 2).2.1, (front l 2).2.2.1, 0)

/-- A batch of bytes that are open, from a place on: the spans, or why there are none. -/
def spansAll (t : List UInt8) (a : Int) (many : Nat) : List Sp × Nat :=
  if (spansR t many [] a).2.2 ≠ 0 then ([], (spansR t many [] a).2.2) else if (spansR t many [] a).2.1 ≠ t.length then ([], 3) else if many = 0 then ([], 9) else ((spansR t many [] a).1, 0)

def btRead (l : List UInt8) : Nat × Nat × List Sp × Nat :=
  if (front l 1).2.2.2.2 ≠ 0 then (0, 0, [], (front l 1).2.2.2.2) else
  if (numM (front l 1).1 (front l 1).2.2.2.1 16).2.2 ≠ 0 then (0, 0, [], (numM (front l 1).1 (front l 1).2.2.2.1 16).2.2) else
  if (spansAll (front l 1).1 (numM (front l 1).1 (front l 1).2.2.2.1 16).2.1 (numM (front l 1).1 (front l 1).2.2.2.1 16).1).2 ≠ 0 then (0, 0, [], (spansAll (front l 1).1 (numM (front l 1).1 (front l 1).2.2.2.1 16).2.1 (numM (front l 1).1 (front l 1).2.2.2.1 16).1).2) else
  ((front l 1).2.1, (front l 1).2.2.1, (spansAll (front l 1).1 (numM (front l 1).1 (front l 1).2.2.2.1 16).2.1 (numM (front l 1).1 (front l 1).2.2.2.1 16).1).1, 0)

end Go.Proofs.YtfbhdkkmcfnghaaGreat
end

section
namespace Go.Proofs.YtfbhdkkmcfnghaaGreat
open Go.RowKit

theorem put_len (n : Nat) : 1 ≤ (Vr.put n).length ∧ (Vr.put n).length ≤ 10 := Vr.putF_len 9 n

set_option maxHeartbeats 400000 in
set_option maxRecDepth 100000 in
theorem refText_any (l : List UInt8) (w : World) (hl : l.length ≤ 1099511627776) :
    Calls Tryz.prog 77 #[.string (bs l)] w fun e w' => e = .returned (.string (bs (Vr.text l))) ∧ Below w.heap.size w w' := by
  have HN : Hid (l.length < 2 * 128 ^ 9) := Lib.hid (by have e : 2 * 128 ^ 9 = 18446744073709551616 := rfl; omega)
  have hp := (put_len l.length).2
  have HP : Hid (Vr.putF 9 l.length = Vr.put l.length) := Lib.hid rfl
  go_enter Tryz.func77, Tryz.ntmps77
  go_wp2_with fail
  refine (refPut_any 9 _ l.length _ (by omega) (by omega) (by omega) HN).mono ?_
  try rw [HP.out]
  rintro e w1 ⟨rfl, hb⟩
  go_wp2_with fail
  go_ret
  exact ⟨rfl, hb⟩

end Go.Proofs.YtfbhdkkmcfnghaaGreat
end
