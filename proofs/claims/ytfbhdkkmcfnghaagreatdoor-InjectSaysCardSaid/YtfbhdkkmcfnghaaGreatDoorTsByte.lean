/- Walks of tstate.letter, key, value and the reference's Key, Value, blank. Condition: the text is no longer than an int can say. -/
import Derived.Test.YtfbhdkkmcfnghaaGreatDoorTsSpec
import Derived.Test.YtfbhdkkmcfnghaaGreatDoorKit
import Derived.Test.YtfbhdkkmcfnghaaGreatDoorProg
namespace Go.Proofs.YtfbhdkkmcfnghaaGreatDoor
open Go.RowKit
set_option linter.unusedVariables false

theorem tsAll_succ {p : UInt8 → Bool} {l : List UInt8} {i : Nat} (h : i < l.length) (ha : (l.take i).all p = true) (hb : p l[i] = true) : (l.take (i + 1)).all p = true := by
  rw [List.take_succ_eq_append_getElem h, List.all_append, ha]; simp [hb]
theorem tsAll_false {p : UInt8 → Bool} {l : List UInt8} {i : Nat} (h : i < l.length) (hb : p l[i] = false) : l.all p = false := by
  rw [List.all_eq_false]; exact ⟨l[i], List.getElem_mem h, by simp [hb]⟩
theorem Ts.odd_iff {b : UInt8} : Ts.odd b = true ↔ b.toNat = 95 ∨ b.toNat = 45 ∨ b.toNat = 42 ∨ b.toNat = 47 ∨ b.toNat = 64 := by simp [Ts.odd, or_assoc]
theorem Ts.low_iff {b : UInt8} : Ts.low b = true ↔ (97 ≤ b.toNat ∧ b.toNat ≤ 122) ∨ (48 ≤ b.toNat ∧ b.toNat ≤ 57) := by simp [Ts.low]

set_option maxHeartbeats 400000 in
set_option maxRecDepth 100000 in
theorem tsLetter_any (b : UInt8) (f : Bool) (w : World) : Calls Tryz.prog 175 #[.int .u8 (b.toNat : Int), .bool f] w fun e w' => e = .returned (.bool (Ts.letter b f)) ∧ w' = w := by
  have hb := UInt8.toNat_lt b
  have ko : ∀ r : Bool, Ts.odd b = true → r = (!f) → Ts.letter b f = r := by rintro r h rfl; simp [Ts.letter, h]
  have kl : ∀ r : Bool, ¬ Ts.odd b = true → (r = true ↔ (97 ≤ b.toNat ∧ b.toNat ≤ 122) ∨ (48 ≤ b.toNat ∧ b.toNat ≤ 57)) → Ts.letter b f = r := by
    intro r h hr
    rw [Bool.eq_iff_iff, hr, ← Ts.low_iff]
    simp [Ts.letter, h]
  have KO := Stow.mk ko
  have KL := Stow.mk kl
  have IO := Stow.mk (Ts.odd_iff (b := b))
  clear ko kl
  by_cases h1 : b.toNat = 95
  · go_enter Tryz.func175, Tryz.ntmps175
    go_wp2_with fail
    go_ret
    exact ⟨by rw [KO.out _ (IO.out.2 (by omega)) rfl]; rfl, rfl⟩
  by_cases h2 : b.toNat = 45
  · go_enter Tryz.func175, Tryz.ntmps175
    go_wp2_with fail
    go_ret
    exact ⟨by rw [KO.out _ (IO.out.2 (by omega)) rfl]; rfl, rfl⟩
  by_cases h3 : b.toNat = 42
  · go_enter Tryz.func175, Tryz.ntmps175
    go_wp2_with fail
    go_ret
    exact ⟨by rw [KO.out _ (IO.out.2 (by omega)) rfl]; rfl, rfl⟩
  by_cases h4 : b.toNat = 47
  · go_enter Tryz.func175, Tryz.ntmps175
    go_wp2_with fail
    go_ret
    exact ⟨by rw [KO.out _ (IO.out.2 (by omega)) rfl]; rfl, rfl⟩
  by_cases h5 : b.toNat = 64
  · go_enter Tryz.func175, Tryz.ntmps175
    go_wp2_with fail
    go_ret
    exact ⟨by rw [KO.out _ (IO.out.2 (by omega)) rfl]; rfl, rfl⟩
  have IN : Stow (¬ Ts.odd b = true) := ⟨fun h => by have := IO.out.1 h; omega⟩
  have g1 : ((b.toNat : Int) == 95) = false := by simp; omega
  have g2 : ((b.toNat : Int) == 45) = false := by simp; omega
  have g3 : ((b.toNat : Int) == 42) = false := by simp; omega
  have g4 : ((b.toNat : Int) == 47) = false := by simp; omega
  have g5 : ((b.toNat : Int) == 64) = false := by simp; omega
  clear h1 h2 h3 h4 h5
  by_cases h2 : 48 ≤ b.toNat
  all_goals by_cases h3 : b.toNat ≤ 57
  all_goals by_cases h4 : 97 ≤ b.toNat
  all_goals by_cases h5 : b.toNat ≤ 122
  all_goals first | omega | skip
  all_goals
    go_enter Tryz.func175, Tryz.ntmps175
    go_wp2_with fail
    go_ret
  all_goals
    refine ⟨congrArg (fun r => Ending.returned (.bool r)) (?_ : _ = Ts.letter b f), rfl⟩
    symm
    apply KL.out _ IN.out
    simp
    try omega

theorem Ts.keyOk_len {l : List UInt8} (h0 : l ≠ []) (h1 : l.length ≤ 32) : Ts.keyOk l = ((l.head?.map Ts.low).getD true && l.all Ts.any) := by
  have : l.isEmpty = false := by simpa using h0
  simp [Ts.keyOk, this, h1]
theorem Ts.keyOk_long {l : List UInt8} (h1 : ¬ l.length ≤ 32) : Ts.keyOk l = false := by
  simp [Ts.keyOk, h1]

set_option maxHeartbeats 400000 in
set_option maxRecDepth 100000 in
theorem tsKey_any (l : List UInt8) (w : World) (hl : l.length ≤ 9223372036854775807) :
    Calls Tryz.prog 130 #[.string (bs l)] w fun e w' => e = .returned (.bool (Ts.keyOk l)) ∧ w' = w := by
  by_cases h0 : l = []
  · subst h0
    go_enter Tryz.func130, Tryz.ntmps130
    go_wp2_with fail
    go_ret
    exact ⟨rfl, rfl⟩
  have h0e : l.isEmpty = false := by simpa using h0
  by_cases h1 : l.length ≤ 32
  · have HN := Stow.mk (Ts.keyOk_len h0 h1)
    clear h0
    go_enter Tryz.func130, Tryz.ntmps130
    go_wp2_with fail
    go_loop [13] (fun v => ∃ i : Nat, v = .int .i64 i ∧ i ≤ l.length ∧ Stow ((l.take i).all Ts.any = true ∧ (0 < i → (l.head?.map Ts.low).getD true = true))) (fun v => l.length - (intOf v).toNat)
    case atStart => exact ⟨0, rfl, by omega, ⟨rfl, fun h => by omega⟩⟩
    case round =>
      obtain ⟨i, rfl, hi, HA⟩ := hrel
      by_cases hlt : i < l.length
      · by_cases hi0 : i = 0
        · subst hi0
          obtain ⟨r, hr⟩ : ∃ r, Ts.letter (l[0]'hlt) true = r := ⟨_, rfl⟩
          have HR := Stow.mk hr
          clear hr
          have HD : Stow ((l.head?.map Ts.low).getD true = r) := ⟨by
            rw [List.head?_eq_getElem?, List.getElem?_eq_getElem hlt]
            simp [← HR.out, Ts.letter_first]⟩
          have HY : Stow (r = true → Ts.any (l[0]'hlt) = true) := ⟨fun h => by have := HR.out; rw [h, Ts.letter_first] at this; simp [Ts.any, this]⟩
          cases r
          all_goals
            go_wp2_with fail
            refine (tsLetter_any (l[0]'hlt) true _).mono ?_
            rw [HR.out]
            rintro e w' ⟨rfl, rfl⟩
            go_wp2_with fail
          · go_ret
            exact ⟨by rw [HN.out, HD.out]; rfl, rfl⟩
          · exact ⟨⟨1, rfl, by omega, ⟨tsAll_succ hlt HA.out.1 (by simpa using HY.out), fun _ => HD.out⟩⟩, by simp [intOf]; omega⟩
        · have hi1 : ((i : Int) == 0) = false := by simp; omega
          obtain ⟨r, hr⟩ : ∃ r, Ts.letter (l[i]'hlt) false = r := ⟨_, rfl⟩
          have HR := Stow.mk hr
          clear hr
          cases r
          all_goals
            go_wp2_with fail
            refine (tsLetter_any (l[i]'hlt) false _).mono ?_
            rw [HR.out]
            rintro e w' ⟨rfl, rfl⟩
            go_wp2_with fail
          · go_ret
            exact ⟨by rw [HN.out, tsAll_false hlt (Ts.letter_any ▸ HR.out)]; simp, rfl⟩
          · exact ⟨⟨i + 1, rfl, by omega, ⟨tsAll_succ hlt HA.out.1 (Ts.letter_any ▸ HR.out), fun _ => HA.out.2 (by omega)⟩⟩, by simp [intOf]; omega⟩
      · obtain rfl : i = l.length := by omega
        go_wp2_with fail
        go_ret
        exact ⟨by
          have h := HA.out
          rw [List.take_length] at h
          have h0 : 0 < l.length := by cases l with | nil => simp at h0e | cons b t => simp
          rw [HN.out, h.1, h.2 h0]; rfl, rfl⟩
  · have HN := Stow.mk (Ts.keyOk_long h1)
    clear h0
    go_enter Tryz.func130, Tryz.ntmps130
    go_wp2_with fail
    go_ret
    exact ⟨by rw [HN.out]; rfl, rfl⟩

theorem Ts.valOk_len {l : List UInt8} {n : Nat} (h0 : l.length = n + 1) (h1 : l.length ≤ 64) : Ts.valOk l = ((l[n]'(by omega)).toNat != 32 && l.all Ts.valByte) := by
  have : l.isEmpty = false := by cases l with | nil => simp at h0 | cons b t => rfl
  have hg : l.getLast? = some (l[n]'(by omega)) := by
    rw [List.getLast?_eq_getElem?, show l.length - 1 = n by omega]
    exact List.getElem?_eq_getElem _
  simp [Ts.valOk, this, h1, hg]
theorem Ts.valOk_long {l : List UInt8} (h1 : ¬ l.length ≤ 64) : Ts.valOk l = false := by
  simp [Ts.valOk, h1]
theorem Ts.valByte_iff {b : UInt8} : Ts.valByte b = true ↔ 32 ≤ b.toNat ∧ b.toNat ≤ 126 ∧ b.toNat ≠ 44 ∧ b.toNat ≠ 61 := by simp [Ts.valByte, and_assoc]

set_option maxHeartbeats 800000 in
set_option maxRecDepth 100000 in
theorem tsValue_any (l : List UInt8) (w : World) (hl : l.length ≤ 9223372036854775807) :
    Calls Tryz.prog 131 #[.string (bs l)] w fun e w' => e = .returned (.bool (Ts.valOk l)) ∧ w' = w := by
  by_cases h0 : l.length = 0
  · obtain rfl := List.eq_nil_of_length_eq_zero h0
    go_enter Tryz.func131, Tryz.ntmps131
    go_wp2_with fail
    go_ret
    exact ⟨rfl, rfl⟩
  obtain ⟨n, hn⟩ : ∃ n, l.length = n + 1 := ⟨l.length - 1, by omega⟩
  have h0e : l.isEmpty = false := by cases l with | nil => simp at h0 | cons b t => rfl
  by_cases h1 : l.length ≤ 64
  · have HN := Stow.mk (Ts.valOk_len hn h1)
    obtain ⟨x, hx⟩ : ∃ x, l[n]'(by omega) = x := ⟨_, rfl⟩
    rw [hx] at HN
    have hnb : n < (bs l).size := by rw [bs_size]; omega
    by_cases h32 : x.toNat = 32
    · have hx1 : (((l[n]'hnb).toNat : Int) == 32) = true := show (((l[n]'(by omega)).toNat : Int) == 32) = true by rw [hx, h32]; rfl
      have HV : Stow (Ts.valOk l = false) := ⟨by rw [HN.out, h32]; rfl⟩
      clear hx
      go_enter Tryz.func131, Tryz.ntmps131
      go_wp2_with fail
      go_ret
      exact ⟨by rw [HV.out]; rfl, rfl⟩
    have hx1 : (((l[n]'hnb).toNat : Int) == 32) = false := show (((l[n]'(by omega)).toNat : Int) == 32) = false by rw [hx]; simp; omega
    have HV : Stow (Ts.valOk l = l.all Ts.valByte) := ⟨by rw [HN.out]; simp; intro h; omega⟩
    clear hx
    go_enter Tryz.func131, Tryz.ntmps131
    go_wp2_with fail
    clear hx1
    go_loop [22] (fun v => ∃ i : Nat, v = .int .i64 i ∧ i ≤ l.length ∧ Stow ((l.take i).all Ts.valByte = true)) (fun v => l.length - (intOf v).toNat)
    case atStart => exact ⟨0, rfl, by omega, ⟨rfl⟩⟩
    case round =>
      obtain ⟨i, rfl, hi, HA⟩ := hrel
      by_cases hlt : i < l.length
      · have HK := Stow.mk (Ts.valByte_iff (b := l[i]'hlt))
        have hlb : i < (bs l).size := hlt
        obtain ⟨u, hu⟩ : ∃ u, (l[i]'hlb).toNat = u := ⟨_, rfl⟩
        have hu' : (l[i]'hlt).toNat = u := hu
        rw [hu'] at HK
        clear hu'
        by_cases h2 : 32 ≤ u
        all_goals by_cases h3 : u ≤ 126
        all_goals by_cases h4 : u = 44
        all_goals by_cases h5 : u = 61
        all_goals first | omega | skip
        all_goals try (have g4 : ((u : Int) == 44) = false := by simp; omega)
        all_goals try (have g5 : ((u : Int) == 61) = false := by simp; omega)
        all_goals go_wp2_with fail
        all_goals first
          | exact ⟨⟨i + 1, rfl, by omega, ⟨tsAll_succ hlt HA.out (HK.out.2 (by omega))⟩⟩, by simp [intOf]; omega⟩
          | (go_ret
             exact ⟨by rw [HV.out, tsAll_false hlt (by rw [Bool.eq_false_iff]; intro h; have := HK.out.1 h; omega)]; rfl, rfl⟩)
      · obtain rfl : i = l.length := by omega
        go_wp2_with fail
        go_ret
        exact ⟨by have h := HA.out; rw [List.take_length] at h; rw [HV.out, h]; rfl, rfl⟩
  · have HN := Stow.mk (Ts.valOk_long h1)
    go_enter Tryz.func131, Tryz.ntmps131
    go_wp2_with fail
    go_ret
    exact ⟨by rw [HN.out]; rfl, rfl⟩
end Go.Proofs.YtfbhdkkmcfnghaaGreatDoor
