/- Walk of conf.number. Conditions: a text's length. -/
import Derived.Test.YtfbhdkkmcfnghaaGreatDoorCfRdSpec
namespace Go.Proofs.YtfbhdkkmcfnghaaGreatDoor
open Go.RowKit
set_option linter.unusedVariables false
set_option linter.unusedSimpArgs false

theorem Cf.numGo_at {s : List UInt8} {k m : Nat} (h : k < s.length) : Cf.numGo (s.drop k) m = if 48 ≤ s[k].toNat ∧ s[k].toNat ≤ 57 then Cf.numGo (s.drop (k + 1)) (10 * m + (s[k].toNat - 48)) else none := by
  rw [List.drop_eq_getElem_cons h]
  rfl
set_option maxHeartbeats 1000000 in
set_option maxRecDepth 100000 in
theorem number_any (s : List UInt8) (w : World) (hs : s.length ≤ 9223372036854775807) :
    Calls Tryz.prog 162 #[.string (bs s)] w fun e w' => e = .returned (.tuple #[.int .i64 ((Cf.num s).getD 0 : Nat), .bool (Cf.num s).isSome]) ∧ w' = w := by
  by_cases h0 : s = []
  · subst h0
    go_enter Tryz.func162, Tryz.ntmps162
    go_wp2_with fail
    go_ret2
    exact ⟨rfl, rfl⟩
  have h0e : s.isEmpty = false := by simpa using h0
  by_cases h6 : 6 < s.length
  · have HN : Stow (Cf.num s = none) := ⟨by unfold Cf.num; rw [if_pos (.inr (.inl h6))]⟩
    have h6i : (6 : Int) < s.length := by omega
    clear h0
    go_enter Tryz.func162, Tryz.ntmps162
    go_wp2_with fail
    go_ret2
    exact ⟨by rw [HN.out]; rfl, rfl⟩
  have h6i : ¬ (6 : Int) < s.length := by omega
  have hpos : 0 < s.length := List.length_pos_iff.2 h0
  by_cases h1 : 1 < s.length ∧ s.head? = some 48
  · have HN : Stow (Cf.num s = none) := ⟨by unfold Cf.num; rw [if_pos (.inr (.inr h1))]⟩
    have h1i : (1 : Int) < s.length := by omega
    have hlb : 0 < (bs s).size := by rw [bs_size]; exact hpos
    have hz : ((s[0]'hlb).toNat : Int) = 48 := by
      have h2 := h1.2
      rcases s with _ | ⟨c, t⟩
      · simp at hpos
      · simp only [List.head?_cons, Option.some.injEq] at h2
        subst h2
        rfl
    clear h0 h1
    go_enter Tryz.func162, Tryz.ntmps162
    go_wp2_with fail
    go_ret2
    exact ⟨by rw [HN.out]; rfl, rfl⟩
  have HN : Stow (Cf.num s = Cf.numGo (s.drop 0) 0) := ⟨by unfold Cf.num; rw [if_neg (by rintro (h | h | h); exact h0 h; exact h6 h; exact h1 h)]; rfl⟩
  have hlb : 0 < (bs s).size := by rw [bs_size]; exact hpos
  have hz : 1 < s.length → ¬ ((s[0]'hlb).toNat : Int) = 48 := fun hl e => h1 ⟨hl, by
    rcases s with _ | ⟨c, t⟩
    · simp at hpos
    · simp only [List.head?_cons, Option.some.injEq]
      have e2 : c.toNat = 48 := by
        have h := e
        change ((c.toNat : Nat) : Int) = 48 at h
        omega
      exact UInt8.toNat.inj (by simpa using e2)⟩
  have h6n : s.length ≤ 6 := by omega
  clear h0 h1
  have hpos' : ¬ s.length = 0 := by omega
  by_cases h1 : 1 < s.length
  all_goals
    have hz' : 1 < s.length → ((s[0]'hlb).toNat : Int) ≠ 48 := hz
    skip
  · have hz2 : (((s[0]'hlb).toNat : Int) == 48) = false := by rw [beq_eq_false_iff_ne]; exact hz h1
    have h1i : (1 : Int) < s.length := by omega
    clear hz hz' hpos'
    go_enter Tryz.func162, Tryz.ntmps162
    go_wp2_with fail
    go_loop [4, 5, 6, 26] (fun n _ _ i => ∃ k m : Nat, i = .int .i64 (k : Int) ∧ n = .int .i64 (m : Int) ∧ k ≤ s.length ∧ Stow (m < 10 ^ k ∧ Cf.num s = Cf.numGo (s.drop k) m)) (fun _ _ _ i => s.length - (intOf i).toNat)
    case atStart => exact ⟨0, 0, rfl, rfl, by omega, ⟨by simp, HN.out⟩⟩
    case round =>
      obtain ⟨k, m, rfl, rfl, hk, HI⟩ := hrel
      by_cases hlt : k < s.length
      · have hlb2 : k < (bs s).size := by rw [bs_size]; exact hlt
        have hstep := Cf.numGo_at (m := m) hlt
        obtain ⟨u, hu⟩ : ∃ u, (s[k]'hlb2).toNat = u := ⟨_, rfl⟩
        have hu2 : u < 256 := by rw [← hu]; exact UInt8.toNat_lt _
        rw [show s[k].toNat = u from hu] at hstep
        have hm : m < 1000000 := by
          have h1 := HI.out.1
          have h2 : 10 ^ k ≤ 10 ^ 6 := Nat.pow_le_pow_right (by omega) (by omega)
          have h3 : (10 : Nat) ^ 6 = 1000000 := by decide
          omega
        have w0 : IntKind.i64.wrap (u : Int) = (u : Int) := IntWalk.i64_in _ (by omega)
        have w1 : IntKind.i64.wrap ((u : Int) - 48) = (u : Int) - 48 := IntWalk.i64_in _ (by omega)
        by_cases hc : 48 ≤ u ∧ u ≤ 57
        · rw [if_pos hc] at hstep
          have HS := Stow.mk hstep
          have c1 : ¬ (u : Int) - 48 < 0 := by omega
          have c2 : ¬ 9 < (u : Int) - 48 := by omega
          have w2 : IntKind.i64.wrap (10 * (m : Int)) = 10 * (m : Int) := IntWalk.i64_in _ (by omega)
          have w3 : IntKind.i64.wrap (10 * (m : Int) + ((u : Int) - 48)) = 10 * (m : Int) + ((u : Int) - 48) := IntWalk.i64_in _ (by omega)
          clear hstep
          go_wp2_with fail
          refine ⟨⟨k + 1, 10 * m + (u - 48), by simp, by congr 1; omega, by omega, ⟨by have := HI.out.1; rw [Nat.pow_succ]; omega, by rw [HI.out.2, HS.out]⟩⟩, by simp [intOf]; omega⟩
        · rw [if_neg hc] at hstep
          have HN2 : Stow (Cf.num s = none) := ⟨by rw [HI.out.2, hstep]⟩
          have hcc : ((u : Int) - 48 < 0) ∨ (¬ (u : Int) - 48 < 0 ∧ 9 < (u : Int) - 48) := by omega
          clear hstep hc
          rcases hcc with c1 | ⟨c1, c2⟩
          · go_wp2_with fail
            go_ret2
            exact ⟨by rw [HN2.out]; rfl, rfl⟩
          · go_wp2_with fail
            go_ret2
            exact ⟨by rw [HN2.out]; rfl, rfl⟩
      · obtain rfl : k = s.length := by omega
        have HN2 : Stow (Cf.num s = some m) := ⟨by rw [HI.out.2, List.drop_length]; rfl⟩
        go_wp2_with fail
        go_ret2
        exact ⟨by rw [HN2.out]; rfl, rfl⟩
  · have h1i : ¬ (1 : Int) < s.length := by omega
    clear hz hz' hpos'
    go_enter Tryz.func162, Tryz.ntmps162
    go_wp2_with fail
    go_loop [4, 5, 6, 26] (fun n _ _ i => ∃ k m : Nat, i = .int .i64 (k : Int) ∧ n = .int .i64 (m : Int) ∧ k ≤ s.length ∧ Stow (m < 10 ^ k ∧ Cf.num s = Cf.numGo (s.drop k) m)) (fun _ _ _ i => s.length - (intOf i).toNat)
    case atStart => exact ⟨0, 0, rfl, rfl, by omega, ⟨by simp, HN.out⟩⟩
    case round =>
      obtain ⟨k, m, rfl, rfl, hk, HI⟩ := hrel
      by_cases hlt : k < s.length
      · have hlb2 : k < (bs s).size := by rw [bs_size]; exact hlt
        have hstep := Cf.numGo_at (m := m) hlt
        obtain ⟨u, hu⟩ : ∃ u, (s[k]'hlb2).toNat = u := ⟨_, rfl⟩
        have hu2 : u < 256 := by rw [← hu]; exact UInt8.toNat_lt _
        rw [show s[k].toNat = u from hu] at hstep
        have hm : m < 1000000 := by
          have h1 := HI.out.1
          have h2 : 10 ^ k ≤ 10 ^ 6 := Nat.pow_le_pow_right (by omega) (by omega)
          have h3 : (10 : Nat) ^ 6 = 1000000 := by decide
          omega
        have w0 : IntKind.i64.wrap (u : Int) = (u : Int) := IntWalk.i64_in _ (by omega)
        have w1 : IntKind.i64.wrap ((u : Int) - 48) = (u : Int) - 48 := IntWalk.i64_in _ (by omega)
        by_cases hc : 48 ≤ u ∧ u ≤ 57
        · rw [if_pos hc] at hstep
          have HS := Stow.mk hstep
          have c1 : ¬ (u : Int) - 48 < 0 := by omega
          have c2 : ¬ 9 < (u : Int) - 48 := by omega
          have w2 : IntKind.i64.wrap (10 * (m : Int)) = 10 * (m : Int) := IntWalk.i64_in _ (by omega)
          have w3 : IntKind.i64.wrap (10 * (m : Int) + ((u : Int) - 48)) = 10 * (m : Int) + ((u : Int) - 48) := IntWalk.i64_in _ (by omega)
          clear hstep
          go_wp2_with fail
          refine ⟨⟨k + 1, 10 * m + (u - 48), by simp, by congr 1; omega, by omega, ⟨by have := HI.out.1; rw [Nat.pow_succ]; omega, by rw [HI.out.2, HS.out]⟩⟩, by simp [intOf]; omega⟩
        · rw [if_neg hc] at hstep
          have HN2 : Stow (Cf.num s = none) := ⟨by rw [HI.out.2, hstep]⟩
          have hcc : ((u : Int) - 48 < 0) ∨ (¬ (u : Int) - 48 < 0 ∧ 9 < (u : Int) - 48) := by omega
          clear hstep hc
          rcases hcc with c1 | ⟨c1, c2⟩
          · go_wp2_with fail
            go_ret2
            exact ⟨by rw [HN2.out]; rfl, rfl⟩
          · go_wp2_with fail
            go_ret2
            exact ⟨by rw [HN2.out]; rfl, rfl⟩
      · obtain rfl : k = s.length := by omega
        have HN2 : Stow (Cf.num s = some m) := ⟨by rw [HI.out.2, List.drop_length]; rfl⟩
        go_wp2_with fail
        go_ret2
        exact ⟨by rw [HN2.out]; rfl, rfl⟩
end Go.Proofs.YtfbhdkkmcfnghaaGreatDoor
