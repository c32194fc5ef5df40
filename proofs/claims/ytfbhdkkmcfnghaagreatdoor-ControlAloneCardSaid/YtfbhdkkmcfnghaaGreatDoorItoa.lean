/- strconv.Itoa by the shelf, and the reference's Digits. Condition: the number is an int. -/
import Derived.Test.YtfbhdkkmcfnghaaGreatDoorProg
import Derived.Test.YtfbhdkkmcfnghaaGreatDoorKit
import Derived.Test.YtfbhdkkmcfnghaaGreatDoorShelf
import Derived.Lib.AppendIntMem
import Derived.Lib.ItoaLen
namespace Go.Proofs.YtfbhdkkmcfnghaaGreatDoor
open Go.RowKit
set_option linter.unusedVariables false

/-- The library's table of powers lies as it was laid. -/
def Pow10 (w : World) : Prop := Lib.TabIs Tryz.prog w "internal/strconv.uint64pow10" .u64 Lib.pow10Tab
theorem Pow10.keep {w w' : World} (h : Pow10 w) (hb : Below w.heap.size w w') : Pow10 w' := Lib.tabBelow_of_tabIs h w' hb

theorem itoa_any (n : Int) (h0 : -9223372036854775808 ≤ n) (h1 : n ≤ 9223372036854775807) (w : World) (htab : Pow10 w) :
    Calls Tryz.prog 113 #[.int .i64 n] w fun e w' => e = .returned (.string (bs (Lib.itoa n))) ∧ Below w.heap.size w w' := by
  refine (Tryz.strconv_Itoa n h0 h1 w htab).mono ?_
  rintro e w' ⟨rfl, k, os, rfl⟩
  exact ⟨rfl, Lib.below_grow _ _ (Nat.le_refl _) _ _⟩

theorem ofNat_modD (n : Nat) : UInt8.ofNat (n % 256) = UInt8.ofNat n := by
  apply UInt8.toNat_inj.1; simp

set_option maxHeartbeats 400000 in
set_option maxRecDepth 100000 in
theorem refByteD_any (x : Int) (n : Nat) (hx : x = n) (w : World) :
    Calls Tryz.prog 152 #[.int .u64 x] w fun e w' => e = .returned (.string (bs [UInt8.ofNat n])) ∧ Below w.heap.size w w' := by
  subst hx
  have hk := fun (w : World) => run_string_one (P := Tryz.prog) w ((n : Int) % 256) (UInt8.ofNat (n % 256)) 102 9 5 5 (by simp) Tryz.underlying102 Tryz.underlying5 Tryz.underlying9
  go_enter Tryz.func152, Tryz.ntmps152
  go_wp2_with fail
  go_ret
  exact ⟨by rw [ofNat_modD]; rfl, (Below.refl _ _).alloc (Nat.le_refl _) _⟩

theorem itoa_neg1 {n : Nat} (h : n < 10) (h0 : 0 < n) : Lib.itoa (-(n : Int)) = [45, UInt8.ofNat (48 + n)] := by
  unfold Lib.itoa
  rw [if_pos (by omega), show (-(n : Int)).natAbs = n by omega, Lib.decDigits_one h]
theorem itoa_pos1 {n : Nat} (h : n < 10) : Lib.itoa (n : Int) = [UInt8.ofNat (48 + n)] := by
  unfold Lib.itoa
  rw [if_neg (by omega), show (n : Int).toNat = n by omega, Lib.decDigits_one h]
theorem itoa_more {x : Int} (h : 10 ≤ x.natAbs) : Lib.itoa x = Lib.itoa (x.tdiv 10) ++ [UInt8.ofNat (48 + (x.natAbs % 10))] := by
  rcases Int.lt_or_le x 0 with h0 | h0
  · obtain ⟨k, rfl⟩ : ∃ k : Nat, x = -(k : Int) := ⟨x.natAbs, by omega⟩
    have e : (-(k : Int)).tdiv 10 = -((k / 10 : Nat) : Int) := by rw [Int.neg_tdiv]; rfl
    have a : (-(k : Int)).natAbs = k := by omega
    rw [a] at *
    rw [e]
    unfold Lib.itoa
    rw [if_pos (by omega), if_pos (by omega), show (-(k : Int)).natAbs = k by omega, show (-((k / 10 : Nat) : Int)).natAbs = k / 10 by omega, Lib.decDigits, dif_neg (by omega)]
    rfl
  · obtain ⟨k, rfl⟩ : ∃ k : Nat, x = (k : Int) := ⟨x.natAbs, by omega⟩
    have e : (k : Int).tdiv 10 = ((k / 10 : Nat) : Int) := rfl
    have a : (k : Int).natAbs = k := by omega
    rw [a] at *
    rw [e]
    unfold Lib.itoa
    rw [if_neg (by omega), if_neg (by omega), show (k : Int).toNat = k by omega, show ((k / 10 : Nat) : Int).toNat = k / 10 by omega, Lib.decDigits, dif_neg (by omega)]

set_option maxHeartbeats 1000000 in
set_option maxRecDepth 100000 in
theorem refDigits_any (k : Nat) : ∀ (x : Int), x.natAbs ≤ k → ∀ (w : World), -9223372036854775808 ≤ x → x ≤ 9223372036854775807 →
    Calls Tryz.prog 114 #[.int .i64 x] w fun e w' => e = .returned (.string (bs (Lib.itoa x))) ∧ Below w.heap.size w w' := by
  induction k with
  | zero => 
    intro x hk w h0 h1
    obtain rfl : x = 0 := by omega
    have HI : Stow (Lib.itoa 0 = [UInt8.ofNat (48 + 0)]) := ⟨itoa_pos1 (n := 0) (by omega)⟩
    go_enter Tryz.func114, Tryz.ntmps114
    go_wp2_with fail
    refine (refByteD_any _ 48 rfl _).mono ?_
    rintro e w1 ⟨rfl, hb1⟩
    go_wp2_with fail
    go_ret
    refine ⟨?_, hb1⟩
    rw [HI.out]; simp
  | succ k ih =>
    intro x hk w h0 h1
    have IH := Stow.mk ih
    clear ih
    by_cases hs : x.natAbs < 10
    · rcases Int.lt_or_le x 0 with hn | hn
      · obtain ⟨n, rfl⟩ : ∃ n : Nat, x = -(n : Int) := ⟨x.natAbs, by omega⟩
        have HI : Stow (Lib.itoa (-(n : Int)) = [45] ++ [UInt8.ofNat (48 + n)]) := ⟨itoa_neg1 (by omega) (by omega)⟩
        have lk : (⟨#[45]⟩ : ByteArray) = bs [45] := rfl
        have hn1 : (-10 : Int) < -(n : Int) := by omega
        have hn2 : -(n : Int) < 0 := hn
        have hn3 : 0 < n := by omega
        clear hs hk
        go_enter Tryz.func114, Tryz.ntmps114
        go_wp2_with fail
        refine (refByteD_any _ (48 + n) (by omega) _).mono ?_
        rintro e w1 ⟨rfl, hb1⟩
        go_wp2_with fail
        go_ret
        refine ⟨?_, hb1⟩
        rw [HI.out]; simp
      · obtain ⟨n, rfl⟩ : ∃ n : Nat, x = (n : Int) := ⟨x.natAbs, by omega⟩
        have HI : Stow (Lib.itoa (n : Int) = [UInt8.ofNat (48 + n)]) := ⟨itoa_pos1 (by omega)⟩
        have hn1 : n < 10 := by omega
        clear hs hk
        go_enter Tryz.func114, Tryz.ntmps114
        go_wp2_with fail
        refine (refByteD_any _ (48 + n) (by omega) _).mono ?_
        rintro e w1 ⟨rfl, hb1⟩
        go_wp2_with fail
        go_ret
        refine ⟨?_, hb1⟩
        rw [HI.out]; simp
    · rcases Int.lt_or_le x 0 with hn | hn
      · obtain ⟨n, rfl⟩ : ∃ n : Nat, x = -(n : Int) := ⟨x.natAbs, by omega⟩
        have eq : (-(n : Int)).tdiv 10 = -((n / 10 : Nat) : Int) := by rw [Int.neg_tdiv]; rfl
        have er : (-(n : Int)).tmod 10 = -((n % 10 : Nat) : Int) := by rw [Int.neg_tmod]; rfl
        have HI : Stow (Lib.itoa (-(n : Int)) = Lib.itoa (-((n / 10 : Nat) : Int)) ++ [UInt8.ofNat (48 + (n % 10))]) := ⟨by
          have := itoa_more (x := -(n : Int)) (by omega)
          rw [eq] at this
          rw [this, show (-(n : Int)).natAbs = n by omega]⟩
        have hn1 : ¬ (-10 : Int) < -(n : Int) := by omega
        have hn2 : ¬ (0 : Int) ≤ -(n : Int) := by omega
        have hn4 : -((n / 10 : Nat) : Int) ≥ -9223372036854775808 := by omega
        have hk2 : (-((n / 10 : Nat) : Int)).natAbs ≤ k := by omega
        clear hs hk
        by_cases hz : n % 10 = 0
        · have er0 : (-(n : Int)).tmod 10 = 0 := by rw [er, hz]; rfl
          rw [hz] at HI
          clear er
          go_enter Tryz.func114, Tryz.ntmps114
          go_wp2_with fail
          refine (IH.out _ (by omega) _ (by omega) (by omega)).mono ?_
          rintro e w1 ⟨rfl, hb1⟩
          have hil := Lib.itoa_length_le (-((n : Int) / 10)) (by omega) (by omega)
          go_wp2_with fail
          refine (refByteD_any _ 48 rfl _).mono ?_
          rintro e w2 ⟨rfl, hb2⟩
          go_wp2_with fail
          go_ret
          refine ⟨?_, Below.call hb1 hb2⟩
          rw [HI.out]; simp
        · have hz2 : (0 : Int) < (n : Int) % 10 := by omega
          have hz3 : (n : Int) % 10 < 10 := by omega
          have hz4 : -((n : Int) % 10) < 0 := by omega
          have er1 : (-(n : Int)).tmod 10 = -((n : Int) % 10) := by rw [er]; simp
          clear er
          go_enter Tryz.func114, Tryz.ntmps114
          go_wp2_with fail
          refine (IH.out _ (by omega) _ (by omega) (by omega)).mono ?_
          rintro e w1 ⟨rfl, hb1⟩
          have hil := Lib.itoa_length_le (-((n : Int) / 10)) (by omega) (by omega)
          go_wp2_with fail
          refine (refByteD_any _ (48 + n % 10) (by omega) _).mono ?_
          rintro e w2 ⟨rfl, hb2⟩
          go_wp2_with fail
          go_ret
          refine ⟨?_, Below.call hb1 hb2⟩
          rw [HI.out]; simp
      · obtain ⟨n, rfl⟩ : ∃ n : Nat, x = (n : Int) := ⟨x.natAbs, by omega⟩
        have eq : (n : Int).tdiv 10 = ((n / 10 : Nat) : Int) := rfl
        have HI : Stow (Lib.itoa (n : Int) = Lib.itoa ((n / 10 : Nat) : Int) ++ [UInt8.ofNat (48 + (n % 10))]) := ⟨by
          have := itoa_more (x := (n : Int)) (by omega)
          rw [eq] at this
          rw [this, show (n : Int).natAbs = n by omega]⟩
        have hn1 : (-10 : Int) < (n : Int) := by omega
        have hn2 : ¬ n < 10 := by omega
        have hn4 : ((n / 10 : Nat) : Int) ≤ 9223372036854775807 := by omega
        have hk2 : ((n / 10 : Nat) : Int).natAbs ≤ k := by omega
        have hz3 : (n : Int) % 10 < 10 := by omega
        have hz4 : ¬ (n : Int) % 10 < 0 := by omega
        clear hs hk
        go_enter Tryz.func114, Tryz.ntmps114
        go_wp2_with fail
        refine (IH.out _ (by omega) _ (by omega) (by omega)).mono ?_
        rintro e w1 ⟨rfl, hb1⟩
        have hil := Lib.itoa_length_le ((n : Int) / 10) (by omega) (by omega)
        go_wp2_with fail
        refine (refByteD_any _ (48 + n % 10) (by omega) _).mono ?_
        rintro e w2 ⟨rfl, hb2⟩
        go_wp2_with fail
        go_ret
        refine ⟨?_, Below.call hb1 hb2⟩
        rw [HI.out]; simp
end Go.Proofs.YtfbhdkkmcfnghaaGreatDoor
