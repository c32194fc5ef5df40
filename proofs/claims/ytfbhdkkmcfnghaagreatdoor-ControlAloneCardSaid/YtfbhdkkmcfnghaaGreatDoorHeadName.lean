/- Walks of head.every, head.Name and the reference's Name. Condition: the text is no longer than an int can say. -/
import Derived.Test.YtfbhdkkmcfnghaaGreatDoorProg
import Derived.Test.YtfbhdkkmcfnghaaGreatDoorLib
namespace Go.Proofs.YtfbhdkkmcfnghaaGreatDoor
open Go.RowKit

def nameByte (b : UInt8) : Bool := b.toNat == 45 || (decide (48 ≤ b.toNat) && decide (b.toNat ≤ 57)) || (decide (97 ≤ b.toNat) && decide (b.toNat ≤ 122))
def nameOk (l : List UInt8) : Bool := !l.isEmpty && decide (l.length ≤ 32) && l.all nameByte

theorem all_take_succ {p : UInt8 → Bool} {l : List UInt8} {i : Nat} (h : i < l.length) (ha : (l.take i).all p = true) (hb : p l[i] = true) : (l.take (i + 1)).all p = true := by
  rw [List.take_succ_eq_append_getElem h, List.all_append, ha]; simp [hb]
theorem all_false_of {p : UInt8 → Bool} {l : List UInt8} {i : Nat} (h : i < l.length) (hb : p l[i] = false) : l.all p = false := by
  rw [List.all_eq_false]; exact ⟨l[i], List.getElem_mem h, by simp [hb]⟩

set_option maxHeartbeats 400000 in
set_option maxRecDepth 100000 in
theorem every_any (K : Nat) (p : UInt8 → Bool) (hcf : ∀ (args : Array Value) (w : World), (callFunc K args).run Tryz.prog w = .ok (.enter K args) w) (hf : Hid (∀ (b : UInt8) (w : World), Calls Tryz.prog K #[.int .u8 (b.toNat : Int)] w fun e w' => e = .returned (.bool (p b)) ∧ w' = w))
    (l : List UInt8) (w : World) (hl : l.length ≤ 9223372036854775807) :
    Calls Tryz.prog 187 #[.string (bs l), .func (.func K) #[] #[]] w fun e w' => e = .returned (.bool (l.all p)) ∧ w' = w := by
  go_enter Tryz.func187, Tryz.ntmps187
  go_wp2_with fail
  go_loop [8] (fun v => ∃ i : Nat, v = .int .i64 i ∧ i ≤ l.length ∧ Hid ((l.take i).all p = true)) (fun v => l.length - (intOf v).toNat)
  case atStart => exact ⟨0, rfl, by omega, Lib.hid rfl⟩
  case round =>
    obtain ⟨i, rfl, hi, HA⟩ := hrel
    by_cases hlt : i < l.length
    · obtain ⟨r, hr⟩ : ∃ r, p l[i] = r := ⟨_, rfl⟩
      have HR := Lib.hid hr; clear hr
      cases r
      all_goals
        go_wp2_with fail
        refine (hf.out l[i] _).mono ?_
        rw [HR.out]
        rintro e w' ⟨rfl, rfl⟩
        go_wp2_with fail
      · go_ret
        exact ⟨by rw [all_false_of hlt HR.out]; rfl, rfl⟩
      · exact ⟨⟨i + 1, rfl, by omega, Lib.hid (all_take_succ hlt HA.out HR.out)⟩, by simp [intOf]; omega⟩
    · obtain rfl : i = l.length := by omega
      go_wp2_with fail
      go_ret
      exact ⟨by have h := HA.out; rw [List.take_length] at h; rw [h]; rfl, rfl⟩

set_option maxHeartbeats 400000 in
set_option maxRecDepth 100000 in
theorem nameByte_any (b : UInt8) (w : World) : Calls Tryz.prog 188 #[.int .u8 (b.toNat : Int)] w fun e w' => e = .returned (.bool (nameByte b)) ∧ w' = w := by
  have hb := UInt8.toNat_lt b
  have key : ∀ r : Bool, (r = true ↔ b.toNat = 45 ∨ (48 ≤ b.toNat ∧ b.toNat ≤ 57) ∨ (97 ≤ b.toNat ∧ b.toNat ≤ 122)) → nameByte b = r := by
    intro r h
    rw [Bool.eq_iff_iff, h]
    simp [nameByte, or_assoc]
  have HK := Lib.hid key; clear key
  by_cases h1 : b.toNat = 45
  · go_enter Tryz.func188, Tryz.ntmps188
    go_wp2_with fail
    go_ret
    exact ⟨by rw [HK.out true (by simp; omega)]; rfl, rfl⟩
  by_cases h2 : 48 ≤ b.toNat
  all_goals by_cases h3 : b.toNat ≤ 57
  all_goals by_cases h4 : 97 ≤ b.toNat
  all_goals by_cases h5 : b.toNat ≤ 122
  all_goals first | omega | skip
  all_goals have h1i : ((b.toNat : Int) == 45) = false := by simp; omega
  all_goals
    go_enter Tryz.func188, Tryz.ntmps188
    go_wp2_with fail
    go_ret
  all_goals
    refine ⟨congrArg (fun r => Ending.returned (.bool r)) (?_ : _ = nameByte b), rfl⟩
    symm
    apply HK.out
    simp
    try omega

set_option maxHeartbeats 400000 in
set_option maxRecDepth 100000 in
theorem name_any (l : List UInt8) (w : World) (hl : l.length ≤ 9223372036854775807) :
    Calls Tryz.prog 155 #[.string (bs l)] w fun e w' => e = .returned (.bool (nameOk l)) ∧ w' = w := by
  have hcf := enters_of Tryz.func188 (by kernel_rfl) rfl
  have HC := Lib.hid hcf; clear hcf
  by_cases h0 : l = []
  · subst h0
    go_enter Tryz.func155, Tryz.ntmps155
    go_wp2_with fail
    go_ret
    exact ⟨rfl, rfl⟩
  have h0e : l.isEmpty = false := by simpa using h0
  by_cases h1 : l.length ≤ 32
  · have HN : Hid (nameOk l = l.all nameByte) := Lib.hid (by simp [nameOk, h0, h1])
    clear h0
    go_enter Tryz.func155, Tryz.ntmps155
    go_wp2_with fail
    refine (every_any 188 nameByte HC.out (Lib.hid nameByte_any) l _ hl).mono ?_
    rintro e w' ⟨rfl, rfl⟩
    go_wp2_with fail
    go_ret
    exact ⟨by rw [HN.out]; rfl, rfl⟩
  · have HN : Hid (nameOk l = false) := Lib.hid (by simp [nameOk, h1])
    clear h0
    go_enter Tryz.func155, Tryz.ntmps155
    go_wp2_with fail
    go_ret
    exact ⟨by rw [HN.out]; rfl, rfl⟩

set_option maxHeartbeats 800000 in
set_option maxRecDepth 100000 in
theorem refName_any (l : List UInt8) (w : World) (hl : l.length ≤ 9223372036854775807) :
    Calls Tryz.prog 119 #[.string (bs l)] w fun e w' => e = .returned (.bool (nameOk l)) ∧ w' = w := by
  by_cases h0 : l.length < 1
  · have HN : Hid (nameOk l = false) := Lib.hid (by
      have : l = [] := List.eq_nil_of_length_eq_zero (by omega)
      simp [nameOk, this])
    go_enter Tryz.func119, Tryz.ntmps119
    go_wp2_with fail
    go_ret
    exact ⟨by rw [HN.out]; rfl, rfl⟩
  by_cases h1 : 32 < l.length
  · have HN : Hid (nameOk l = false) := Lib.hid (by simp [nameOk]; omega)
    go_enter Tryz.func119, Tryz.ntmps119
    go_wp2_with fail
    go_ret
    exact ⟨by rw [HN.out]; rfl, rfl⟩
  have HN : Hid (nameOk l = l.all nameByte) := Lib.hid (by
    have : l ≠ [] := by intro h; simp [h] at h0
    simp [nameOk, this]; omega)
  go_enter Tryz.func119, Tryz.ntmps119
  go_wp2_with fail
  go_loop [3] (fun v => ∃ i : Nat, v = .int .i64 i ∧ i ≤ l.length ∧ Hid ((l.take i).all nameByte = true)) (fun v => l.length - (intOf v).toNat)
  case atStart => exact ⟨0, rfl, by omega, Lib.hid rfl⟩
  case round =>
    obtain ⟨i, rfl, hi, HA⟩ := hrel
    by_cases hlt : i < l.length
    · have HK : Hid (∀ r : Bool, (r = true ↔ l[i].toNat = 45 ∨ (48 ≤ l[i].toNat ∧ l[i].toNat ≤ 57) ∨ (97 ≤ l[i].toNat ∧ l[i].toNat ≤ 122)) → nameByte l[i] = r) := Lib.hid (by
        intro r h
        rw [Bool.eq_iff_iff, h]
        simp [nameByte, or_assoc])
      by_cases h1 : l[i].toNat = 45
      · go_wp2_with fail
        exact ⟨⟨i + 1, rfl, by omega, Lib.hid (all_take_succ hlt HA.out (HK.out true (by simp; omega)))⟩, by simp [intOf]; omega⟩
      have h1i : ((l[i].toNat : Int) != 45) = true := by simp; omega
      by_cases h2 : 48 ≤ l[i].toNat
      all_goals by_cases h3 : l[i].toNat ≤ 57
      all_goals by_cases h4 : 97 ≤ l[i].toNat
      all_goals by_cases h5 : l[i].toNat ≤ 122
      all_goals first | omega | skip
      all_goals go_wp2_with fail
      all_goals try simp only [bne_iff_ne, ne_eq, bne_eq_false_iff_eq] at *
      all_goals first
        | exact ⟨⟨i + 1, rfl, by omega, Lib.hid (all_take_succ hlt HA.out (HK.out true (by simp; omega)))⟩, by simp [intOf]; omega⟩
        | (go_ret
           exact ⟨by rw [HN.out, all_false_of hlt (HK.out false (by simp; omega))]; rfl, rfl⟩)
    · obtain rfl : i = l.length := by omega
      go_wp2_with fail
      go_ret
      exact ⟨by have h := HA.out; rw [List.take_length] at h; rw [HN.out, h]; rfl, rfl⟩
end Go.Proofs.YtfbhdkkmcfnghaaGreatDoor
