/- Walks of the reference's Key, Value, blank, trim. Condition: the text is no longer than an int can say. -/
import Derived.Test.YtfbhdkkmcfnghaaGreatDoorTsByte
import Derived.Test.YtfbhdkkmcfnghaaGreatDoorTsLaw
namespace Go.Proofs.YtfbhdkkmcfnghaaGreatDoor
open Go.RowKit
set_option linter.unusedVariables false

theorem Ts.keyRef {l : List UInt8} (h : 0 < l.length) (h1 : l.length ≤ 32) : Ts.keyOk l = (Ts.low (l[0]'h) && l.all Ts.any) := by
  have h0 : l ≠ [] := by intro e; simp [e] at h
  rw [Ts.keyOk_len h0 h1, List.head?_eq_getElem?, List.getElem?_eq_getElem h]
  rfl

set_option maxHeartbeats 2000000 in
set_option maxRecDepth 100000 in
theorem tsRefKey_any (l : List UInt8) (w : World) (hl : l.length ≤ 9223372036854775807) :
    Calls Tryz.prog 84 #[.string (bs l)] w fun e w' => e = .returned (.bool (Ts.keyOk l)) ∧ w' = w := by
  by_cases h0 : l.length < 1
  · obtain rfl := List.eq_nil_of_length_eq_zero (show l.length = 0 by omega)
    go_enter Tryz.func84, Tryz.ntmps84
    go_wp2_with fail
    go_ret
    exact ⟨rfl, rfl⟩
  by_cases h1 : 32 < l.length
  · have HN := Stow.mk (Ts.keyOk_long (l := l) (by omega))
    go_enter Tryz.func84, Tryz.ntmps84
    go_wp2_with fail
    go_ret
    exact ⟨by rw [HN.out]; rfl, rfl⟩
  have HN := Stow.mk (Ts.keyRef (l := l) (by omega) (by omega))
  have h0p : 0 < l.length := by omega
  go_enter Tryz.func84, Tryz.ntmps84
  go_wp2_with fail
  go_loop [3] (fun v => ∃ i : Nat, v = .int .i64 i ∧ i ≤ l.length ∧ Stow ((l.take i).all Ts.any = true ∧ (0 < i → Ts.low (l[0]'h0p) = true))) (fun v => l.length - (intOf v).toNat)
  case atStart => exact ⟨0, rfl, by omega, ⟨rfl, fun h => by omega⟩⟩
  case round =>
    obtain ⟨i, rfl, hi, HA⟩ := hrel
    by_cases hlt : i < l.length
    · have hlb : i < (bs l).size := hlt
      have HO := Stow.mk (Ts.odd_iff (b := l[i]'hlt))
      have HL := Stow.mk (Ts.low_iff (b := l[i]'hlt))
      have HY : Stow (∀ (p : Bool), Ts.odd (l[i]'hlt) = p → Ts.any (l[i]'hlt) = (p || Ts.low (l[i]'hlt))) := ⟨fun p h => by simp [Ts.any, h]⟩
      have HL0 : Stow (i = 0 → Ts.low (l[i]'hlt) = Ts.low (l[0]'h0p)) := ⟨fun h => by subst h; rfl⟩
      obtain ⟨u, hu⟩ : ∃ u, (l[i]'hlb).toNat = u := ⟨_, rfl⟩
      have hu' : (l[i]'hlt).toNat = u := hu
      rw [hu'] at HO HL
      have hul : u < 256 := by have := UInt8.toNat_lt (l[i]'hlt); omega
      clear hu'
      by_cases hlow : (97 ≤ u ∧ u ≤ 122) ∨ (48 ≤ u ∧ u ≤ 57)
      · have HLW : Stow (Ts.low (l[i]'hlt) = true) := ⟨HL.out.2 hlow⟩
        have HAN : Stow (Ts.any (l[i]'hlt) = true) := ⟨Ts.low_any HLW.out⟩
        rcases hlow with ⟨h2, h3⟩ | ⟨h2, h3⟩
        · go_wp2_with fail
          exact ⟨⟨i + 1, rfl, by omega, ⟨tsAll_succ hlt HA.out.1 HAN.out, fun _ => by
            rcases Nat.eq_zero_or_pos i with h | h
            · rw [← HL0.out h]; exact HLW.out
            · exact HA.out.2 h⟩⟩, by simp [intOf]; omega⟩
        · have h4 : ¬ 97 ≤ u := by omega
          go_wp2_with fail
          exact ⟨⟨i + 1, rfl, by omega, ⟨tsAll_succ hlt HA.out.1 HAN.out, fun _ => by
            rcases Nat.eq_zero_or_pos i with h | h
            · rw [← HL0.out h]; exact HLW.out
            · exact HA.out.2 h⟩⟩, by simp [intOf]; omega⟩
      have HLW : Stow (Ts.low (l[i]'hlt) = false) := ⟨by rw [Bool.eq_false_iff]; intro h; exact hlow (HL.out.1 h)⟩
      have hcase : (97 ≤ u ∧ ¬ u ≤ 122) ∨ (¬ 97 ≤ u ∧ 48 ≤ u ∧ ¬ u ≤ 57) ∨ (¬ 97 ≤ u ∧ ¬ 48 ≤ u) := by omega
      clear hlow
      by_cases hi0 : i = 0
      · subst hi0
        have HF : Stow (Ts.keyOk l = false) := ⟨by rw [HN.out, ← HL0.out rfl, HLW.out]; rfl⟩
        rcases hcase with ⟨h2, h3⟩ | ⟨h2, h3, h4⟩ | ⟨h2, h3⟩
        all_goals try (have d2 : decide ((u : Int) ≤ 122) = false := by simp; omega)
        all_goals try (have d4 : decide ((u : Int) ≤ 57) = false := by simp; omega)
        all_goals
          go_wp2_with fail
          go_ret
          exact ⟨by rw [HF.out]; rfl, rfl⟩
      have hi1 : ((i : Int) == 0) = false := by simp; omega
      by_cases hodd : u = 95 ∨ u = 45 ∨ u = 42 ∨ u = 47 ∨ u = 64
      · have HAN : Stow (Ts.any (l[i]'hlt) = true) := ⟨by rw [HY.out true (HO.out.2 hodd)]; rfl⟩
        rcases hodd with rfl | rfl | rfl | rfl | rfl
        all_goals
          clear hcase
          go_wp2_with fail
          exact ⟨⟨i + 1, rfl, by omega, ⟨tsAll_succ hlt HA.out.1 HAN.out, fun _ => HA.out.2 (by omega)⟩⟩, by simp [intOf]; omega⟩
      have HAN : Stow (Ts.any (l[i]'hlt) = false) := ⟨by rw [HY.out false (by rw [Bool.eq_false_iff]; intro h; exact hodd (HO.out.1 h)), HLW.out]; rfl⟩
      have g1 : ((u : Int) != 95) = true := by simp; omega
      have g2 : ((u : Int) != 45) = true := by simp; omega
      have g3 : ((u : Int) != 42) = true := by simp; omega
      have g4 : ((u : Int) != 47) = true := by simp; omega
      have g5 : ((u : Int) != 64) = true := by simp; omega
      clear hodd
      rcases hcase with ⟨h2, h3⟩ | ⟨h2, h3, h4⟩ | ⟨h2, h3⟩
      all_goals try (have d2 : decide ((u : Int) ≤ 122) = false := by simp; omega)
      all_goals try (have d4 : decide ((u : Int) ≤ 57) = false := by simp; omega)
      all_goals
        go_wp2_with fail
        go_ret
        exact ⟨by rw [HN.out, tsAll_false hlt HAN.out]; simp, rfl⟩
    · obtain rfl : i = l.length := by omega
      go_wp2_with fail
      go_ret
      exact ⟨by have h := HA.out; rw [List.take_length] at h; rw [HN.out, h.1, h.2 (by omega)]; rfl, rfl⟩

set_option maxHeartbeats 2000000 in
set_option maxRecDepth 100000 in
theorem tsRefValue_any (l : List UInt8) (w : World) (hl : l.length ≤ 9223372036854775807) :
    Calls Tryz.prog 85 #[.string (bs l)] w fun e w' => e = .returned (.bool (Ts.valOk l)) ∧ w' = w := by
  by_cases h0 : l.length < 1
  · obtain rfl := List.eq_nil_of_length_eq_zero (show l.length = 0 by omega)
    go_enter Tryz.func85, Tryz.ntmps85
    go_wp2_with fail
    go_ret
    exact ⟨rfl, rfl⟩
  by_cases h1 : 64 < l.length
  · have HN := Stow.mk (Ts.valOk_long (l := l) (by omega))
    go_enter Tryz.func85, Tryz.ntmps85
    go_wp2_with fail
    go_ret
    exact ⟨by rw [HN.out]; rfl, rfl⟩
  obtain ⟨n, hn⟩ : ∃ n, l.length = n + 1 := ⟨l.length - 1, by omega⟩
  have hnl : n < l.length := by omega
  have HN := Stow.mk (Ts.valOk_len hn (by omega))
  go_enter Tryz.func85, Tryz.ntmps85
  go_wp2_with fail
  go_loop [3] (fun v => ∃ i : Nat, v = .int .i64 i ∧ i ≤ l.length ∧ Stow ((l.take i).all Ts.valByte = true)) (fun v => l.length - (intOf v).toNat)
  case atStart => exact ⟨0, rfl, by omega, ⟨rfl⟩⟩
  case round =>
    obtain ⟨i, rfl, hi, HA⟩ := hrel
    by_cases hlt : i < l.length
    · have HK := Stow.mk (Ts.valByte_iff (b := l[i]'hlt))
      have hlb : i < (bs l).size := hlt
      obtain ⟨u, hu⟩ : ∃ u, (l[i]'hlb).toNat = u := ⟨_, rfl⟩
      have hu' : (l[i]'hlt).toNat = u := hu
      rw [hu'] at HK
      clear hu'
      by_cases h2 : 32 ≤ u
      all_goals by_cases h3 : u ≤ 126
      all_goals by_cases h4 : u = 44
      all_goals by_cases h5 : u = 61
      all_goals first | omega | skip
      all_goals try (have g4 : ((u : Int) == 44) = false := by simp; omega)
      all_goals try (have g5 : ((u : Int) == 61) = false := by simp; omega)
      all_goals go_wp2_with fail
      all_goals first
        | exact ⟨⟨i + 1, rfl, by omega, ⟨tsAll_succ hlt HA.out (HK.out.2 (by omega))⟩⟩, by simp [intOf]; omega⟩
        | (go_ret
           exact ⟨by rw [HN.out, tsAll_false hlt (by rw [Bool.eq_false_iff]; intro h; have := HK.out.1 h; omega)]; simp, rfl⟩)
    · obtain rfl : i = l.length := by omega
      have hnb : n < (bs l).size := by rw [bs_size]; omega
      obtain ⟨u, hu⟩ : ∃ u, (l[n]'hnb).toNat = u := ⟨_, rfl⟩
      have HV : Stow (Ts.valOk l = (u != 32)) := ⟨by
        have h := HA.out
        rw [List.take_length] at h
        rw [HN.out, h, Bool.and_true]
        exact congrArg (· != 32) hu⟩
      go_wp2_with fail
      go_ret
      refine ⟨?_, rfl⟩
      rw [HV.out]
      refine congrArg (fun b => Ending.returned (.bool b)) ?_
      show ((u : Int) != 32) = (u != 32)
      rw [Bool.eq_iff_iff]
      simp
      omega

set_option maxHeartbeats 400000 in
set_option maxRecDepth 100000 in
theorem tsBlank_any (b : UInt8) (w : World) : Calls Tryz.prog 134 #[.int .u8 (b.toNat : Int)] w fun e w' => e = .returned (.bool (Ts.blank b)) ∧ w' = w := by
  have HB : Stow (Ts.blank b = true ↔ b.toNat = 32 ∨ b.toNat = 9) := ⟨by simp [Ts.blank]⟩
  by_cases h1 : b.toNat = 32
  · have HT : Stow (Ts.blank b = true) := ⟨HB.out.2 (by omega)⟩
    go_enter Tryz.func134, Tryz.ntmps134
    go_wp2_with fail
    go_ret
    exact ⟨by rw [HT.out]; rfl, rfl⟩
  have g1 : ((b.toNat : Int) == 32) = false := by simp; omega
  by_cases h2 : b.toNat = 9
  · have HT : Stow (Ts.blank b = true) := ⟨HB.out.2 (by omega)⟩
    go_enter Tryz.func134, Tryz.ntmps134
    go_wp2_with fail
    go_ret
    exact ⟨by rw [HT.out]; rfl, rfl⟩
  have g2 : ((b.toNat : Int) == 9) = false := by simp; omega
  have HT : Stow (Ts.blank b = false) := ⟨by rw [Bool.eq_false_iff]; intro h; have := HB.out.1 h; omega⟩
  go_enter Tryz.func134, Tryz.ntmps134
  go_wp2_with fail
  go_ret
  exact ⟨by rw [HT.out]; rfl, rfl⟩

theorem ts_snoc (s : List UInt8) : s = [] ∨ ∃ t b, s = t ++ [b] := by
  rcases List.eq_nil_or_concat s with h | ⟨t, b, h⟩
  · exact .inl h
  · exact .inr ⟨t, b, by simpa using h⟩
theorem Ts.trimR_snoc (t : List UInt8) (b : UInt8) : Ts.trimR (t ++ [b]) = if Ts.blank b = true then Ts.trimR t else t ++ [b] := by
  unfold Ts.trimR
  cases h : Ts.blank b <;> simp [h]


set_option maxHeartbeats 1000000 in
set_option maxRecDepth 100000 in
theorem tsTrim_any (l : List UInt8) (w : World) (hl : l.length ≤ 9223372036854775807) :
    Calls Tryz.prog 82 #[.string (bs l)] w fun e w' => e = .returned (.string (bs (Ts.trim l))) ∧ w' = w := by
  have HT := Stow.mk (Ts.trim_swap l)
  go_enter Tryz.func82, Tryz.ntmps82
  go_wp2_with fail
  go_loop [0] (fun v => ∃ s : List UInt8, v = .string (bs s) ∧ s.length ≤ l.length ∧ Stow (s.dropWhile Ts.blank = l.dropWhile Ts.blank)) (fun v => match v with | .string s => s.size | _ => 0)
  case atStart => exact ⟨l, rfl, by omega, ⟨rfl⟩⟩
  case round =>
    obtain ⟨s, rfl, hs, HS⟩ := hrel
    cases s with
    | nil =>
      go_wp2_with fail
      go_loop [0] (fun v => ∃ s : List UInt8, v = .string (bs s) ∧ s.length ≤ l.length ∧ Stow (Ts.trimR s = Ts.trim l)) (fun v => match v with | .string s => s.size | _ => 0)
      case atStart => exact ⟨_, rfl, hs, ⟨by rw [← HT.out, ← HS.out]; rfl⟩⟩
      case round =>
        obtain ⟨s, rfl, hs2, HS2⟩ := hrel
        rcases ts_snoc s with rfl | ⟨t, b, rfl⟩
        · go_wp2_with fail
          go_ret
          exact ⟨by rw [← HS2.out]; rfl, rfl⟩
        · have hln : (t ++ [b]).length = t.length + 1 := by simp
          have hnb : t.length < (bs (t ++ [b])).size := by rw [bs_size]; omega
          have hg : (t ++ [b])[t.length]'hnb = b := show (t ++ [b])[t.length]'(by simp) = b by simp
          obtain ⟨r, hr⟩ : ∃ r, Ts.blank b = r := ⟨_, rfl⟩
          have HR := Stow.mk hr
          clear hr
          have hsn := Ts.trimR_snoc t b
          have HN := Stow.mk hsn
          clear hsn
          rw [hln] at hs2
          have HC := Stow.mk (tsBlank_any b)
          cases r
          all_goals
            go_wp2_with fail
            refine (HC.out _).mono ?_
            rw [HR.out]
            rintro e w' ⟨rfl, rfl⟩
            go_wp2_with fail
          · go_ret
            exact ⟨by rw [← HS2.out, HN.out, if_neg (by simp [HR.out])]; rfl, rfl⟩
          · exact ⟨⟨t, by simp, by omega, ⟨by rw [← HS2.out, HN.out, if_pos HR.out]⟩⟩, by simp⟩
    | cons b t =>
      have h0 : 0 < (bs (b :: t)).size := by rw [bs_size]; simp
      have hg : (b :: t)[0]'h0 = b := rfl
      simp only [List.length_cons] at hs
      obtain ⟨r, hr⟩ : ∃ r, Ts.blank b = r := ⟨_, rfl⟩
      have HR := Stow.mk hr
      clear hr
      have HC := Stow.mk (tsBlank_any b)
      cases r
      · have HE : Stow (b :: t = l.dropWhile Ts.blank) := ⟨by rw [← HS.out, List.dropWhile_cons_of_neg (by simp [HR.out])]⟩
        go_wp2_with fail
        refine (HC.out _).mono ?_
        rw [HR.out]
        rintro e w' ⟨rfl, rfl⟩
        clear HC HR
        go_wp2_with fail
        go_loop [0] (fun v => ∃ s : List UInt8, v = .string (bs s) ∧ s.length ≤ l.length ∧ Stow (Ts.trimR s = Ts.trim l)) (fun v => match v with | .string s => s.size | _ => 0)
        case atStart => exact ⟨_, rfl, hs, ⟨by rw [← HT.out, ← HE.out]⟩⟩
        case round =>
          obtain ⟨s, rfl, hs2, HS2⟩ := hrel
          rcases ts_snoc s with rfl | ⟨t, b, rfl⟩
          · go_wp2_with fail
            go_ret
            exact ⟨by rw [← HS2.out]; rfl, rfl⟩
          · have hln : (t ++ [b]).length = t.length + 1 := by simp
            have hnb : t.length < (bs (t ++ [b])).size := by rw [bs_size]; omega
            have hg : (t ++ [b])[t.length]'hnb = b := show (t ++ [b])[t.length]'(by simp) = b by simp
            obtain ⟨r, hr⟩ : ∃ r, Ts.blank b = r := ⟨_, rfl⟩
            have HR := Stow.mk hr
            clear hr
            have hsn := Ts.trimR_snoc t b
            have HN := Stow.mk hsn
            clear hsn
            rw [hln] at hs2
            have HC := Stow.mk (tsBlank_any b)
            cases r
            all_goals
              go_wp2_with fail
              refine (HC.out _).mono ?_
              rw [HR.out]
              rintro e w' ⟨rfl, rfl⟩
              go_wp2_with fail
            · go_ret
              exact ⟨by rw [← HS2.out, HN.out, if_neg (by simp [HR.out])]; rfl, rfl⟩
            · exact ⟨⟨t, by simp, by omega, ⟨by rw [← HS2.out, HN.out, if_pos HR.out]⟩⟩, by simp⟩
      · go_wp2_with fail
        refine (HC.out _).mono ?_
        rw [HR.out]
        rintro e w' ⟨rfl, rfl⟩
        go_wp2_with fail
        exact ⟨⟨t, by simp, by omega, ⟨by rw [← HS.out, List.dropWhile_cons_of_pos HR.out]⟩⟩, by simp⟩
end Go.Proofs.YtfbhdkkmcfnghaaGreatDoor
