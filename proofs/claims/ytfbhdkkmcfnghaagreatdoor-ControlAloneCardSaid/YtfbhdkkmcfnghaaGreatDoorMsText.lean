/- Walks of msg.each, method, path, head.Value and the reference's. Condition: texts no longer than an int can say. -/
import Derived.Test.YtfbhdkkmcfnghaaGreatDoorMgLaw
import Derived.Test.YtfbhdkkmcfnghaaGreatDoorKit
namespace Go.Proofs.YtfbhdkkmcfnghaaGreatDoor
open Go.RowKit
set_option linter.unusedVariables false

theorem byte_eq (b c : UInt8) : ((b.toNat : Int) == (c.toNat : Int)) = (some b == some c) := by
  by_cases h : b = c
  · subst h; simp
  · have : b.toNat ≠ c.toNat := fun e => h (UInt8.toNat_inj.1 e)
    rw [show (some b == some c) = false from by simp [h], beq_eq_false_iff_ne]
    omega
theorem each_byte {lo hi u : Nat} {b : UInt8} (h : b.toNat = u) (h1 : lo ≤ u) (h2 : u ≤ hi) : (decide (lo ≤ b.toNat) && decide (b.toNat ≤ hi)) = true := by simp; omega
theorem each_byte_no {lo hi u : Nat} {b : UInt8} (h : b.toNat = u) (h1 : ¬ (lo ≤ u ∧ u ≤ hi)) : (decide (lo ≤ b.toNat) && decide (b.toNat ≤ hi)) = false := by
  rw [Bool.eq_false_iff]
  simp
  omega

set_option maxHeartbeats 400000 in
set_option maxRecDepth 100000 in
theorem msEach_any (l : List UInt8) (x y : Int) (lo hi : Nat) (hx : x = lo) (hy : y = hi) (w : World) (hl : l.length ≤ 9223372036854775807) :
    Calls Tryz.prog 254 #[.string (bs l), .int .u8 x, .int .u8 y] w fun e w' => e = .returned (.bool (Ms.eachB lo hi l)) ∧ w' = w := by
  subst hx hy
  go_enter Tryz.func254, Tryz.ntmps254
  go_wp2_with fail
  go_loop [10] (fun v => ∃ i : Nat, v = .int .i64 (i : Int) ∧ i ≤ l.length ∧ Stow ((l.take i).all (fun b => decide (lo ≤ b.toNat) && decide (b.toNat ≤ hi)) = true)) (fun v => l.length - (intOf v).toNat)
  case atStart => exact ⟨0, rfl, by omega, ⟨rfl⟩⟩
  case round =>
    obtain ⟨i, rfl, hi', HA⟩ := hrel
    by_cases hlt : i < l.length
    · have hlb : i < (bs l).size := hlt
      obtain ⟨u, hu⟩ : ∃ u, (l[i]'hlb).toNat = u := ⟨_, rfl⟩
      have HU : Stow ((l[i]'hlt).toNat = u) := ⟨hu⟩
      by_cases h2 : lo ≤ u
      all_goals by_cases h3 : u ≤ hi
      all_goals try (have d1 : decide (u < lo) = false := by simp; omega)
      all_goals try (have d1 : decide (u < lo) = true := by simp; omega)
      all_goals try (have d2 : decide (hi < u) = false := by simp; omega)
      all_goals try (have d2 : decide (hi < u) = true := by simp; omega)
      all_goals go_wp2_with fail
      all_goals first
        | exact ⟨⟨i + 1, rfl, by omega, ⟨all_take_succ hlt HA.out (each_byte HU.out (by omega) (by omega))⟩⟩, by simp [intOf]; omega⟩
        | (go_ret
           exact ⟨by unfold Ms.eachB; rw [all_false_of hlt (each_byte_no HU.out (by omega))]; rfl, rfl⟩)
    · obtain rfl : i = l.length := by omega
      go_wp2_with fail
      go_ret
      exact ⟨by have h := HA.out; rw [List.take_length] at h; unfold Ms.eachB; rw [h]; rfl, rfl⟩

set_option maxHeartbeats 400000 in
set_option maxRecDepth 100000 in
theorem refEach_any (l : List UInt8) (n m : Nat) (x y x' y' : Int) (lo hi : Nat) (hn : x' = n) (hm : y' = m) (hx : x = lo) (hy : y = hi) (w : World) (hl : l.length ≤ 9223372036854775807) :
    Calls Tryz.prog 189 #[.string (bs l), .int .i64 x', .int .i64 y', .int .u8 x, .int .u8 y] w fun e w' => e = .returned (.bool (decide (n ≤ l.length) && decide (l.length ≤ m) && Ms.eachB lo hi l)) ∧ w' = w := by
  subst hx hy hn hm
  by_cases h0 : l.length < n
  · have d0 : decide (l.length < n) = true := by simp; omega
    have HR : Stow ((decide (n ≤ l.length) && decide (l.length ≤ m) && Ms.eachB lo hi l) = false) := ⟨by simp; omega⟩
    go_enter Tryz.func189, Tryz.ntmps189
    go_wp2_with fail
    go_ret
    exact ⟨by rw [HR.out]; rfl, rfl⟩
  by_cases h1 : m < l.length
  · have d0 : decide (l.length < n) = false := by simp; omega
    have d1 : decide (m < l.length) = true := by simp; omega
    have HR : Stow ((decide (n ≤ l.length) && decide (l.length ≤ m) && Ms.eachB lo hi l) = false) := ⟨by simp; omega⟩
    go_enter Tryz.func189, Tryz.ntmps189
    go_wp2_with fail
    go_ret
    exact ⟨by rw [HR.out]; rfl, rfl⟩
  have HR : Stow ((decide (n ≤ l.length) && decide (l.length ≤ m) && Ms.eachB lo hi l) = Ms.eachB lo hi l) := ⟨by
    have a : decide (n ≤ l.length) = true := by simp; omega
    have b : decide (l.length ≤ m) = true := by simp; omega
    rw [a, b]; rfl⟩
  have d0 : decide (l.length < n) = false := by simp; omega
  have d1 : decide (m < l.length) = false := by simp; omega
  go_enter Tryz.func189, Tryz.ntmps189
  go_wp2_with fail
  go_loop [11] (fun v => ∃ i : Nat, v = .int .i64 (i : Int) ∧ i ≤ l.length ∧ Stow ((l.take i).all (fun b => decide (lo ≤ b.toNat) && decide (b.toNat ≤ hi)) = true)) (fun v => l.length - (intOf v).toNat)
  case atStart => exact ⟨0, rfl, by omega, ⟨rfl⟩⟩
  case round =>
    obtain ⟨i, rfl, hi', HA⟩ := hrel
    by_cases hlt : i < l.length
    · have hlb : i < (bs l).size := hlt
      obtain ⟨u, hu⟩ : ∃ u, (l[i]'hlb).toNat = u := ⟨_, rfl⟩
      have HU : Stow ((l[i]'hlt).toNat = u) := ⟨hu⟩
      by_cases h2 : lo ≤ u
      all_goals by_cases h3 : u ≤ hi
      all_goals try (have d1 : decide (u < lo) = false := by simp; omega)
      all_goals try (have d1 : decide (u < lo) = true := by simp; omega)
      all_goals try (have d2 : decide (hi < u) = false := by simp; omega)
      all_goals try (have d2 : decide (hi < u) = true := by simp; omega)
      all_goals go_wp2_with fail
      all_goals first
        | exact ⟨⟨i + 1, rfl, by omega, ⟨all_take_succ hlt HA.out (each_byte HU.out (by omega) (by omega))⟩⟩, by simp [intOf]; omega⟩
        | (go_ret
           exact ⟨by rw [HR.out]; unfold Ms.eachB; rw [all_false_of hlt (each_byte_no HU.out (by omega))]; rfl, rfl⟩)
    · obtain rfl : i = l.length := by omega
      go_wp2_with fail
      go_ret
      exact ⟨by have h := HA.out; rw [List.take_length] at h; rw [HR.out]; unfold Ms.eachB; rw [h]; rfl, rfl⟩

set_option maxHeartbeats 400000 in
set_option maxRecDepth 100000 in
theorem msMethod_any (l : List UInt8) (w : World) (hl : l.length ≤ 9223372036854775807) :
    Calls Tryz.prog 251 #[.string (bs l)] w fun e w' => e = .returned (.bool (Ms.methodOk l)) ∧ w' = w := by
  by_cases h0 : l = []
  · subst h0
    go_enter Tryz.func251, Tryz.ntmps251
    go_wp2_with fail
    go_ret
    exact ⟨rfl, rfl⟩
  by_cases h1 : l.length ≤ 8
  · have HN : Stow (Ms.methodOk l = Ms.eachB 65 90 l) := ⟨by simp [Ms.methodOk, h0, h1]⟩
    have h1i : (l.length : Int) ≤ 8 := by omega
    have h0e : l.isEmpty = false := by simpa using h0
    go_enter Tryz.func251, Tryz.ntmps251
    go_wp2_with fail
    refine (msEach_any l _ _ 65 90 rfl rfl _ hl).mono ?_
    rintro e w' ⟨rfl, rfl⟩
    go_wp2_with fail
    go_ret
    exact ⟨by rw [HN.out]; rfl, rfl⟩
  · have HN : Stow (Ms.methodOk l = false) := ⟨by simp [Ms.methodOk, h1]⟩
    have h1i : ¬ (l.length : Int) ≤ 8 := by omega
    go_enter Tryz.func251, Tryz.ntmps251
    go_wp2_with fail
    go_ret
    exact ⟨by rw [HN.out]; rfl, rfl⟩

set_option maxHeartbeats 400000 in
set_option maxRecDepth 100000 in
theorem refMethod_any (l : List UInt8) (w : World) (hl : l.length ≤ 9223372036854775807) :
    Calls Tryz.prog 156 #[.string (bs l)] w fun e w' => e = .returned (.bool (Ms.methodOk l)) ∧ w' = w := by
  have HN : Stow ((decide (1 ≤ l.length) && decide (l.length ≤ 8) && Ms.eachB 65 90 l) = Ms.methodOk l) := ⟨by
    unfold Ms.methodOk
    cases l <;> simp⟩
  go_enter Tryz.func156, Tryz.ntmps156
  go_wp2_with fail
  refine (refEach_any l 1 8 _ _ _ _ 65 90 rfl rfl rfl rfl _ hl).mono ?_
  rw [HN.out]
  rintro e w' ⟨rfl, rfl⟩
  go_wp2_with fail
  go_ret
  exact ⟨rfl, rfl⟩

theorem path_cases {l : List UInt8} : Ms.pathOk l = (decide (1 ≤ l.length) && decide (l.length ≤ 64) && Ms.eachB 33 126 l && (l.head? == some 47)) := by
  unfold Ms.pathOk
  cases l with
  | nil => rfl
  | cons b t =>
    simp
    cases b == 47 <;> simp

set_option maxHeartbeats 400000 in
set_option maxRecDepth 100000 in
theorem hasSlash_any (l : List UInt8) (w : World) (hl : l.length ≤ 9223372036854775807) :
    Calls Tryz.prog 242 #[.string (bs l), .string ⟨#[47]⟩] w fun e w' => e = .returned (.bool (l.head? == some 47)) ∧ w' = w := by
  cases l with
  | nil =>
    go_enter Tryz.func242, Tryz.ntmps242
    go_wp2_with fail
    go_ret
    exact ⟨rfl, rfl⟩
  | cons b t =>
    have h1 : (1 : Int) ≤ (b :: t).length := by simp; omega
    go_enter Tryz.func242, Tryz.ntmps242
    go_wp2_with fail
    go_ret
    refine ⟨?_, rfl⟩
    by_cases hb : b = 47
    · subst hb; rfl
    · simp

set_option maxRecDepth 100000 in
theorem hasPrefix_any (l : List UInt8) (w : World) (hl : l.length ≤ 9223372036854775807) :
    Calls Tryz.prog 220 #[.string (bs l), .string ⟨#[47]⟩] w fun e w' => e = .returned (.bool (l.head? == some 47)) ∧ w' = w := by
  go_enter Tryz.func220, Tryz.ntmps220
  go_wp2_with fail
  refine (hasSlash_any l _ hl).mono ?_
  rintro e w' ⟨rfl, rfl⟩
  go_wp2_with fail
  go_ret
  exact ⟨rfl, rfl⟩

set_option maxHeartbeats 400000 in
set_option maxRecDepth 100000 in
theorem msPath_any (l : List UInt8) (w : World) (hl : l.length ≤ 9223372036854775807) :
    Calls Tryz.prog 252 #[.string (bs l)] w fun e w' => e = .returned (.bool (Ms.pathOk l)) ∧ w' = w := by
  obtain ⟨c, hc⟩ : ∃ c, (l.head? == some 47) = c := ⟨_, rfl⟩
  have HC := Stow.mk hc
  cases c
  · have HN : Stow (Ms.pathOk l = false) := ⟨by unfold Ms.pathOk; rw [hc]; rfl⟩
    clear hc
    go_enter Tryz.func252, Tryz.ntmps252
    go_wp2_with fail
    refine (hasPrefix_any l _ hl).mono ?_
    rw [HC.out]
    rintro e w' ⟨rfl, rfl⟩
    go_wp2_with fail
    go_ret
    exact ⟨by rw [HN.out]; rfl, rfl⟩
  by_cases h1 : l.length ≤ 64
  · have HN : Stow (Ms.pathOk l = Ms.eachB 33 126 l) := ⟨by unfold Ms.pathOk; rw [hc]; simp [h1]⟩
    have h1i : (l.length : Int) ≤ 64 := by omega
    clear hc
    go_enter Tryz.func252, Tryz.ntmps252
    go_wp2_with fail
    refine (hasPrefix_any l _ hl).mono ?_
    rw [HC.out]
    rintro e w' ⟨rfl, rfl⟩
    go_wp2_with fail
    refine (msEach_any l _ _ 33 126 rfl rfl _ hl).mono ?_
    rw [← HN.out]
    rintro e w' ⟨rfl, rfl⟩
    go_wp2_with fail
    go_ret
    exact ⟨rfl, rfl⟩
  · have HN : Stow (Ms.pathOk l = false) := ⟨by unfold Ms.pathOk; rw [hc]; simp [h1]⟩
    have h1i : ¬ (l.length : Int) ≤ 64 := by omega
    clear hc
    go_enter Tryz.func252, Tryz.ntmps252
    go_wp2_with fail
    refine (hasPrefix_any l _ hl).mono ?_
    rw [HC.out]
    rintro e w' ⟨rfl, rfl⟩
    go_wp2_with fail
    go_ret
    exact ⟨by rw [HN.out]; rfl, rfl⟩

set_option maxHeartbeats 400000 in
set_option maxRecDepth 100000 in
theorem refPath_any (l : List UInt8) (w : World) (hl : l.length ≤ 9223372036854775807) :
    Calls Tryz.prog 157 #[.string (bs l)] w fun e w' => e = .returned (.bool (Ms.pathOk l)) ∧ w' = w := by
  obtain ⟨c, hc⟩ : ∃ c, (decide (1 ≤ l.length) && decide (l.length ≤ 64) && Ms.eachB 33 126 l) = c := ⟨_, rfl⟩
  have HC := Stow.mk hc
  have HP : Stow (Ms.pathOk l = (c && (l.head? == some 47))) := ⟨by rw [path_cases, hc]⟩
  cases c
  · clear hc
    go_enter Tryz.func157, Tryz.ntmps157
    go_wp2_with fail
    refine (refEach_any l 1 64 _ _ _ _ 33 126 rfl rfl rfl rfl _ hl).mono ?_
    rw [HC.out]
    rintro e w' ⟨rfl, rfl⟩
    go_wp2_with fail
    go_ret
    exact ⟨by rw [HP.out]; rfl, rfl⟩
  · cases l with
    | nil => simp at hc
    | cons b t =>
      clear hc
      go_enter Tryz.func157, Tryz.ntmps157
      go_wp2_with fail
      refine (refEach_any (b :: t) 1 64 _ _ _ _ 33 126 rfl rfl rfl rfl _ hl).mono ?_
      rw [HC.out]
      rintro e w' ⟨rfl, rfl⟩
      go_wp2_with fail
      go_ret
      refine ⟨?_, rfl⟩
      rw [HP.out]
      exact congrArg (fun r => Ending.returned (.bool r)) (byte_eq b 47)

set_option maxHeartbeats 400000 in
set_option maxRecDepth 100000 in
theorem valueByte_any (b : UInt8) (w : World) : Calls Tryz.prog 243 #[.int .u8 (b.toNat : Int)] w fun e w' => e = .returned (.bool (decide (32 ≤ b.toNat) && decide (b.toNat ≤ 126))) ∧ w' = w := by
  obtain ⟨u, hu⟩ : ∃ u, b.toNat = u := ⟨_, rfl⟩
  rw [hu]
  clear hu
  by_cases h2 : 32 ≤ u
  · by_cases h3 : u ≤ 126
    · have HV : Stow ((decide (32 ≤ u) && decide (u ≤ 126)) = true) := ⟨by simp [h2, h3]⟩
      rw [HV.out]
      have h2i : (32 : Int) ≤ u := by omega
      have h3i : (u : Int) ≤ 126 := by omega
      go_enter Tryz.func243, Tryz.ntmps243
      go_wp2_with fail
      go_ret
      first | exact ⟨rfl, rfl⟩ | exact ⟨by simp [*], rfl⟩ | exact ⟨by simp [*]; omega, rfl⟩
    · have HV : Stow ((decide (32 ≤ u) && decide (u ≤ 126)) = false) := ⟨by simp; omega⟩
      rw [HV.out]
      have h2i : (32 : Int) ≤ u := by omega
      have h3i : decide ((u : Int) ≤ 126) = false := by simp; omega
      go_enter Tryz.func243, Tryz.ntmps243
      go_wp2_with fail
      go_ret
      first | exact ⟨rfl, rfl⟩ | exact ⟨by simp [*], rfl⟩ | exact ⟨by simp [*]; omega, rfl⟩
  · have HV : Stow ((decide (32 ≤ u) && decide (u ≤ 126)) = false) := ⟨by simp; omega⟩
    rw [HV.out]
    have h2i : decide ((32 : Int) ≤ u) = false := by simp; omega
    go_enter Tryz.func243, Tryz.ntmps243
    go_wp2_with fail
    go_ret
    first | exact ⟨rfl, rfl⟩ | exact ⟨by simp [*], rfl⟩ | exact ⟨by simp [*]; omega, rfl⟩

theorem value_ends {l : List UInt8} (h : 0 < l.length) : Ms.valueOk l = (decide (l.length ≤ 64) && Ms.eachB 32 126 l && ((l[0]'h).toNat != 32 && (l[l.length - 1]'(by omega)).toNat != 32)) := by
  unfold Ms.valueOk
  have e1 : l.isEmpty = false := by cases l <;> simp_all
  have e2 : (l.head? != some 32) = ((l[0]'h).toNat != 32) := by
    rw [List.head?_eq_getElem?, List.getElem?_eq_getElem h]
    generalize l[0]'h = b
    by_cases hb : b = 32
    · subst hb; rfl
    · have a2 : (b.toNat != 32) = true := by
        rw [bne_iff_ne]
        exact fun e => hb (UInt8.toNat_inj.1 e)
      have a1 : (some b != some 32) = true := by
        rw [bne_iff_ne]
        exact fun e => hb (Option.some.inj e)
      rw [a1, a2]
  have e3 : (l.getLast? != some 32) = ((l[l.length - 1]'(by omega)).toNat != 32) := by
    rw [List.getLast?_eq_getElem?, List.getElem?_eq_getElem (by omega)]
    generalize l[l.length - 1]'(by omega) = b
    by_cases hb : b = 32
    · subst hb; rfl
    · have a2 : (b.toNat != 32) = true := by
        rw [bne_iff_ne]
        exact fun e => hb (UInt8.toNat_inj.1 e)
      have a1 : (some b != some 32) = true := by
        rw [bne_iff_ne]
        exact fun e => hb (Option.some.inj e)
      rw [a1, a2]
  rw [e1, e2, e3, Bool.false_or]

set_option maxHeartbeats 400000 in
set_option maxRecDepth 100000 in
theorem value_any (l : List UInt8) (w : World) (hl : l.length ≤ 9223372036854775807) :
    Calls Tryz.prog 221 #[.string (bs l)] w fun e w' => e = .returned (.bool (Ms.valueOk l)) ∧ w' = w := by
  have hcf := enters_of Tryz.func243 (by kernel_rfl) rfl
  have HC := Lib.hid hcf; clear hcf
  by_cases h1 : 64 < l.length
  · have HN : Stow (Ms.valueOk l = false) := ⟨by unfold Ms.valueOk; simp; omega⟩
    have h1i : (64 : Int) < l.length := by omega
    go_enter Tryz.func221, Tryz.ntmps221
    go_wp2_with fail
    go_ret
    exact ⟨by rw [HN.out]; rfl, rfl⟩
  have h1i : (l.length : Int) ≤ 64 := by omega
  obtain ⟨c, hc⟩ : ∃ c, Ms.eachB 32 126 l = c := ⟨_, rfl⟩
  have HE := Stow.mk hc
  cases c
  · have HN : Stow (Ms.valueOk l = false) := ⟨by unfold Ms.valueOk; rw [hc]; simp⟩
    clear hc
    go_enter Tryz.func221, Tryz.ntmps221
    go_wp2_with fail
    refine (every_any 243 (fun b => decide (32 ≤ b.toNat) && decide (b.toNat ≤ 126)) HC.out (Lib.hid valueByte_any) l _ hl).mono ?_
    rw [show l.all (fun b => decide (32 ≤ b.toNat) && decide (b.toNat ≤ 126)) = false from HE.out]
    rintro e w' ⟨rfl, rfl⟩
    go_wp2_with fail
    go_ret
    exact ⟨by rw [HN.out]; rfl, rfl⟩
  · clear hc
    by_cases h0 : l.length = 0
    · obtain rfl := List.eq_nil_of_length_eq_zero h0
      go_enter Tryz.func221, Tryz.ntmps221
      go_wp2_with fail
      refine (every_any 243 (fun b => decide (32 ≤ b.toNat) && decide (b.toNat ≤ 126)) HC.out (Lib.hid valueByte_any) [] _ (by simp)).mono ?_
      rintro e w' ⟨rfl, rfl⟩
      go_wp2_with fail
      go_ret
      exact ⟨rfl, rfl⟩
    · have hn : 0 < l.length := by omega
      have HN := Stow.mk (value_ends hn)
      have hsum : IntKind.i64.wrap ((l.length : Int) - 1) = ((l.length - 1 : Nat) : Int) := by rw [IntWalk.i64_in _ (by omega)]; omega
      have hle : ((l.length - 1 : Nat) : Int) < l.length := by omega
      have hl0 : 0 < (bs l).size := hn
      have hl1 : l.length - 1 < (bs l).size := Nat.sub_lt hn Nat.one_pos
      have h0e : l.isEmpty = false := by
        cases l with
        | nil => exact absurd rfl h0
        | cons a t => rfl
      have h0i : (0 : Int) < l.length := by omega
      obtain ⟨u, hu⟩ : ∃ u, (l[0]'hl0).toNat = u := ⟨_, rfl⟩
      obtain ⟨v, hv⟩ : ∃ v, (l[l.length - 1]'hl1).toNat = v := ⟨_, rfl⟩
      have HV : Stow (Ms.valueOk l = (u != 32 && v != 32)) := ⟨by
        rw [HN.out, HE.out]
        have a : decide (l.length ≤ 64) = true := by simp; omega
        rw [a, ← hu, ← hv]
        rfl⟩
      by_cases u3 : u = 32
      all_goals by_cases v3 : v = 32
      all_goals try (have u4 : ((u : Int) != 32) = false := by simp [u3])
      all_goals try (have u4 : ((u : Int) != 32) = true := by simp; omega)
      all_goals try (have v4 : ((v : Int) != 32) = false := by simp [v3])
      all_goals try (have v4 : ((v : Int) != 32) = true := by simp; omega)
      all_goals
        have HV2 : Stow (Ms.valueOk l = (u != 32 && v != 32)) := HV
        go_enter Tryz.func221, Tryz.ntmps221
        go_wp2_with fail
        refine (every_any 243 (fun b => decide (32 ≤ b.toNat) && decide (b.toNat ≤ 126)) HC.out (Lib.hid valueByte_any) l _ hl).mono ?_
        rw [show l.all (fun b => decide (32 ≤ b.toNat) && decide (b.toNat ≤ 126)) = true from HE.out]
        rintro e w' ⟨rfl, rfl⟩
        go_wp2_with fail
        go_ret
        refine ⟨?_, rfl⟩
        rw [HV.out]
        simp [*]

set_option maxHeartbeats 800000 in
set_option maxRecDepth 100000 in
theorem refValue_any (l : List UInt8) (w : World) (hl : l.length ≤ 9223372036854775807) :
    Calls Tryz.prog 158 #[.string (bs l)] w fun e w' => e = .returned (.bool (Ms.valueOk l)) ∧ w' = w := by
  by_cases h1 : 64 < l.length
  · have HN : Stow (Ms.valueOk l = false) := ⟨by unfold Ms.valueOk; simp; omega⟩
    have h1i : (64 : Int) < l.length := by omega
    go_enter Tryz.func158, Tryz.ntmps158
    go_wp2_with fail
    go_ret
    exact ⟨by rw [HN.out]; rfl, rfl⟩
  have h1i : (l.length : Int) ≤ 64 := by omega
  have HNO : Stow (Ms.eachB 32 126 l = false → Ms.valueOk l = false) := ⟨fun hc => by unfold Ms.valueOk; rw [hc]; simp⟩
  go_enter Tryz.func158, Tryz.ntmps158
  go_wp2_with fail
  go_loop [3] (fun v => ∃ i : Nat, v = .int .i64 (i : Int) ∧ i ≤ l.length ∧ Stow ((l.take i).all (fun b => decide (32 ≤ b.toNat) && decide (b.toNat ≤ 126)) = true)) (fun v => l.length - (intOf v).toNat)
  case atStart => exact ⟨0, rfl, by omega, ⟨rfl⟩⟩
  case round =>
    obtain ⟨i, rfl, hi', HA⟩ := hrel
    by_cases hlt : i < l.length
    · have hlb : i < (bs l).size := hlt
      obtain ⟨u, hu⟩ : ∃ u, (l[i]'hlb).toNat = u := ⟨_, rfl⟩
      have HU : Stow ((l[i]'hlt).toNat = u) := ⟨hu⟩
      by_cases h2 : 32 ≤ u
      all_goals by_cases h3 : u ≤ 126
      all_goals go_wp2_with fail
      all_goals first
        | exact ⟨⟨i + 1, rfl, by omega, ⟨all_take_succ hlt HA.out (each_byte HU.out (by omega) (by omega))⟩⟩, by simp [intOf]; omega⟩
        | (go_ret
           exact ⟨by rw [HNO.out (all_false_of hlt (each_byte_no HU.out (by omega)))]; rfl, rfl⟩)
    · obtain rfl : i = l.length := by omega
      have HE : Stow (Ms.eachB 32 126 l = true) := ⟨by have h := HA.out; rw [List.take_length] at h; exact h⟩
      by_cases h0 : l.length = 0
      · obtain rfl := List.eq_nil_of_length_eq_zero h0
        go_wp2_with fail
        go_ret
        exact ⟨rfl, rfl⟩
      · have hn : 0 < l.length := by omega
        have HN := Stow.mk (value_ends hn)
        have hsum : IntKind.i64.wrap ((l.length : Int) - 1) = ((l.length - 1 : Nat) : Int) := by rw [IntWalk.i64_in _ (by omega)]; omega
        have hle : ((l.length - 1 : Nat) : Int) < l.length := by omega
        have hl0 : 0 < (bs l).size := hn
        have hl1 : l.length - 1 < (bs l).size := Nat.sub_lt hn Nat.one_pos
        have h0e : l.isEmpty = false := by
          cases l with
          | nil => exact absurd rfl h0
          | cons a t => rfl
        have h0i : (0 : Int) < l.length := by omega
        have h0d : ((l.length : Int) == 0) = false := by rw [beq_eq_false_iff_ne]; omega
        obtain ⟨u, hu⟩ : ∃ u, (l[0]'hl0).toNat = u := ⟨_, rfl⟩
        obtain ⟨v, hv⟩ : ∃ v, (l[l.length - 1]'hl1).toNat = v := ⟨_, rfl⟩
        have HV : Stow (Ms.valueOk l = (u != 32 && v != 32)) := ⟨by
          rw [HN.out, HE.out]
          have a : decide (l.length ≤ 64) = true := by simp; omega
          rw [a, ← hu, ← hv]
          rfl⟩
        by_cases u3 : u = 32
        all_goals by_cases v3 : v = 32
        all_goals try (have u4 : ((u : Int) != 32) = false := by simp [u3])
        all_goals try (have u4 : ((u : Int) != 32) = true := by simp; omega)
        all_goals try (have v4 : ((v : Int) != 32) = false := by simp [v3])
        all_goals try (have v4 : ((v : Int) != 32) = true := by simp; omega)
        all_goals
          have HV2 : Stow (Ms.valueOk l = (u != 32 && v != 32)) := HV
          clear HA
          go_wp2_with fail
          go_ret
          refine ⟨?_, rfl⟩
          rw [HV.out]
          simp [*]
end Go.Proofs.YtfbhdkkmcfnghaaGreatDoor
