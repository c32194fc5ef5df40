/- Walks of slices.stableCmpFunc and SortStableFunc at ints, with the comparison of tree.Kids. Conditions: places within the row; the comparison's captured slice. -/
import Derived.Test.YthbpcdoddcacdaaTrSym
namespace Go.Proofs.Ythbpcdoddcacdaa
open Go.RowKit
set_option linter.unusedVariables false

theorem symMerge_any (T : List Sp) (c : Value) (Good : World → Prop) (B g N cap : Nat) (hC : CmpOK T c g Good) (hNs : N ≤ 1000000) : ∀ n, SymIH T c g B N cap Good n
  | 0 => fun P X Y S L a m b w h => absurd h (Nat.not_lt_zero _)
  | n + 1 => symMerge_step T c Good B g N cap n hC hNs (symMerge_any T c Good B g N cap hC hNs n)
namespace So
variable {α : Type} {lt bf : α → α → Prop} {L0 L : List α} {c a : Nat}
theorem Ph.perm (h : Ph lt bf L0 c L a) : L.Perm L0 := let ⟨_, _, _, _, _, _, _, _, p⟩ := h.ex; p
theorem St.perm (h : St lt bf L0 c L) : L.Perm L0 := let ⟨_, _, _, _, _, _, _, p⟩ := h.ex; p
theorem Ps.perm (h : Ps lt bf L0 c L a) : L.Perm L0 := let ⟨_, _, _, _, _, _, _, _, _, _, p⟩ := h.ex; p
theorem Ph.le (h : Ph lt bf L0 c L a) : a ≤ L.length := by
  obtain ⟨D, R, h1, h2, _⟩ := h.ex
  rw [h1, List.length_append]; omega
theorem Ps.le (h : Ps lt bf L0 c L a) : a ≤ L.length := by
  obtain ⟨D, F, r, h1, h2, _⟩ := h.ex
  rw [h1, List.length_append]; omega
theorem Mid.len {P X S L : List α} (h : Mid lt P X S L) : L.length = P.length + X.length + S.length := by
  obtain ⟨Z, h1, h2, _⟩ := h.ex
  rw [h1]; simp only [List.length_append]; rw [h2.length_eq]
end So

set_option maxHeartbeats 4000000 in
set_option maxRecDepth 100000 in
theorem stable_any (T : List Sp) (c : Value) (Good : World → Prop) (L0 : List Nat) (B g N cap : Nat) (w : World) (hC : CmpOK T c g Good) (hgood : Good w) (hR : IRow w B (.slice (some ⟨g, 0, none⟩) N cap) L0) (hL : L0.Pairwise Tr.bf) (hM : ∀ x ∈ L0, x < T.length) (hNs : N ≤ 1000000) :
    Calls Try.prog 101 #[.slice (some ⟨g, 0, none⟩) N cap, .int .i64 (N : Int), .func (.func 75) #[] #[c]] w fun e w' => e = .returned (.tuple #[]) ∧ IRow w' B (.slice (some ⟨g, 0, none⟩) N cap) (Tr.sort T L0) ∧ Only g w w' := by
  have hN := hR.len
  have HR := Stow.mk hR
  have HC := Stow.mk hC
  have HG := Stow.mk hgood
  have HL := Stow.mk (And.intro hL (And.intro hM hN))
  have HP0 : Stow (So.Ph (Tr.lt T) Tr.bf L0 20 L0 0) := ⟨So.Ph.start hL⟩
  clear hC hgood hR hL hM hN
  go_enter Try.func101, Try.ntmps101
  go_wp2_with fail
  go_loopw [7, 8] (fun u v wr => ∃ (a : Nat) (L : List Nat), u = .int .i64 (a : Int) ∧ v = .int .i64 ((a : Int) + 20) ∧ a ≤ N ∧ Stow (L.length = N ∧ So.Ph (Tr.lt T) Tr.bf L0 20 L a) ∧ Stow (IRow wr B (.slice (some ⟨g, 0, none⟩) N cap) L) ∧ Only g w wr) (fun u _ _ => N - (intOf u).toNat)
  case atStart => exact ⟨0, L0, rfl, rfl, by omega, ⟨HL.out.2.2.symm, HP0.out⟩, HR, Only.refl _ _⟩
  case round =>
    obtain ⟨a, L, rfl, rfl, ha, HPH, HW, ho⟩ := hrel
    have HO := Stow.mk ho
    have HG2 := Stow.mk (HC.out.keep _ _ HG.out ho)
    clear ho
    by_cases hab : a + 20 ≤ N
    · obtain ⟨P, X, S, h1, h2, h3, h4, h5⟩ := HPH.out.2.step (by rw [HPH.out.1]; exact hab)
      have K := fun W h h' => insSort_any T c Good P X S L a (a + 20) B g N cap W HC.out h h' h1 h2 h3 h4 (fun x hx => HL.out.2.1 x (HPH.out.2.perm.mem_iff.1 (by rw [h1]; simp [hx]))) hNs
      have HK := Stow.mk K
      have HNX := Stow.mk h5
      have HLN : Stow (P.length + X.length + S.length = N) := ⟨by have := congrArg List.length h1; simp only [List.length_append] at this; have := HPH.out.1; omega⟩
      have hii : (a : Int) + 20 ≤ N := by omega
      have e20 : ((a + 20 : Nat) : Int) = (a : Int) + 20 := by omega
      rw [e20] at HK
      clear h1 h2 h3 h4 h5 K e20
      go_wp2_with fail
      refine (HK.out _ HG2.out HW.out).mono ?_
      rintro e w1 ⟨rfl, L1, hr1, hm1, ho1⟩
      have H1 := Stow.mk (And.intro hr1 (And.intro hm1 (HO.out.trans ho1)))
      clear hr1 hm1 ho1
      go_wp2_with fail
      exact ⟨⟨a + 20, L1, by first | rfl | (simp; done) | (simp; omega), by first | (simp; done) | (simp; omega), hab, ⟨by rw [H1.out.2.1.len]; exact HLN.out, HNX.out _ H1.out.2.1⟩, ⟨H1.out.1⟩, H1.out.2.2⟩, by simp [intOf]; omega⟩
    · obtain ⟨P, X, h1, h2, h3, h4, h5⟩ := HPH.out.2.last (by rw [HPH.out.1]; exact hab)
      rw [HPH.out.1] at h3
      have K := fun W h h' => insSort_any T c Good P X [] L a N B g N cap W HC.out h h' h1 h2 h3 h4 (fun x hx => HL.out.2.1 x (HPH.out.2.perm.mem_iff.1 (by rw [h1]; simp [hx]))) hNs
      have HK := Stow.mk K
      have HNX := Stow.mk h5
      have HLN : Stow (P.length + X.length + ([] : List Nat).length = N) := ⟨by simpa using h3⟩
      have hii : ¬ (a : Int) + 20 ≤ N := by omega
      clear h1 h2 h3 h4 h5 K
      go_wp2_with fail
      refine (HK.out _ HG2.out HW.out).mono ?_
      rintro e w1 ⟨rfl, L1, hr1, hm1, ho1⟩
      have HS1 : Stow (L1.length = N ∧ So.St (Tr.lt T) Tr.bf L0 20 L1) := ⟨⟨by rw [hm1.len]; exact HLN.out, HNX.out _ hm1⟩⟩
      have H1 := Stow.mk (And.intro hr1 (HO.out.trans ho1))
      clear hr1 hm1 ho1
      go_wp2_with fail
      go_loopw [6] (fun u wr => ∃ (s : Nat) (L : List Nat), u = .int .i64 (s : Int) ∧ 0 < s ∧ s ≤ 2 * N + 20 ∧ Stow (L.length = N ∧ So.St (Tr.lt T) Tr.bf L0 s L) ∧ Stow (IRow wr B (.slice (some ⟨g, 0, none⟩) N cap) L) ∧ Only g w wr) (fun u _ => 2 * N + 20 - (intOf u).toNat)
      case atStart => exact ⟨20, L1, rfl, by omega, by omega, HS1, ⟨H1.out.1⟩, H1.out.2⟩
      case round =>
        obtain ⟨s, L2, rfl, hs0, hsN, HST, HW2, ho⟩ := hrel
        have HO2 := Stow.mk ho
        clear ho
        by_cases hsl : s < N
        rotate_left
        · have hii : ¬ (s : Int) < N := by omega
          have HE : Stow (L2 = Tr.sort T L0) := ⟨by
            have h := HST.out.2.all (by rw [HST.out.1]; omega)
            exact Tr.sort_eq HL.out.1 h.1 h.2⟩
          have hW := HW2.out
          rw [HE.out] at hW
          have HWE := Stow.mk hW
          clear hW
          go_wp2_with fail
          first | go_end0 | refine bodyPost_ret (results_none rfl _ _ _) rfl ?_
          exact ⟨rfl, HWE.out, HO2.out⟩
        have hii : (s : Int) < N := by omega
        have HPS0 : Stow (L2.length = N ∧ So.Ps (Tr.lt T) Tr.bf L0 s L2 0) := ⟨⟨HST.out.1, HST.out.2.pass⟩⟩
        have h2s : s ≤ 1000000 := by omega
        go_wp2_with fail
        go_loopw [7, 8] (fun u v wr => ∃ (a : Nat) (L : List Nat), u = .int .i64 (a : Int) ∧ v = .int .i64 ((a : Int) + 2 * s) ∧ a ≤ N ∧ Stow (L.length = N ∧ So.Ps (Tr.lt T) Tr.bf L0 s L a) ∧ Stow (IRow wr B (.slice (some ⟨g, 0, none⟩) N cap) L) ∧ Only g w wr) (fun u _ _ => N - (intOf u).toNat)
        case atStart => exact ⟨0, L2, rfl, by simp, by omega, HPS0, HW2, HO2.out⟩
        case round =>
          obtain ⟨a, L, rfl, rfl, ha, HPS, HW, ho⟩ := hrel
          have HO3 := Stow.mk ho
          have HG2 := Stow.mk (HC.out.keep _ _ HG.out ho)
          clear ho
          by_cases hab : a + 2 * s ≤ N
          · obtain ⟨P, X, Y, S, h1, h2, h3, h4, h5, h6, h7, h8⟩ := HPS.out.2.step (by rw [HPS.out.1]; exact hab)
            have hPre : SymPre T P X Y S L a (a + s) (a + 2 * s) := ⟨h1, h2, h3, h4, by omega, by omega, h5, h6, h7, fun x hx => HL.out.2.1 x (HPS.out.2.perm.mem_iff.1 (by rw [h1]; simp only [List.mem_append] at hx ⊢; rcases hx with hx | hx <;> simp [hx]))⟩
            have K := fun W h h' => symMerge_any T c Good B g N cap HC.out hNs (a + 2 * s - a + 1) P X Y S L a (a + s) (a + 2 * s) W (Nat.lt_succ_self _) h h' hPre
            have HK := Stow.mk K
            have HNX := Stow.mk h8
            have HLN : Stow (P.length + (X ++ Y).length + S.length = N) := ⟨by have := congrArg List.length h1; simp only [List.length_append] at this ⊢; have := HPS.out.1; omega⟩
            have hij : (a : Int) + 2 * (s : Int) ≤ N := by omega
            have e20 : ((a + 2 * s : Nat) : Int) = (a : Int) + 2 * (s : Int) := by omega
            have e21 : ((a + s : Nat) : Int) = (a : Int) + (s : Int) := by omega
            rw [e20, e21] at HK
            clear h1 h2 h3 h4 h5 h6 h7 h8 K e20 e21 hPre
            unfold SymPost at HK
            go_wp2_with fail
            refine (HK.out _ HG2.out HW.out).mono ?_
            rintro e w1 ⟨rfl, L1, hr1, hm1, ho1⟩
            have H1 := Stow.mk (And.intro hr1 (And.intro hm1 (HO3.out.trans ho1)))
            clear hr1 hm1 ho1
            go_wp2_with fail
            exact ⟨⟨a + 2 * s, L1, by simp, by simp, hab, ⟨by rw [H1.out.2.1.len]; exact HLN.out, HNX.out _ H1.out.2.1⟩, ⟨H1.out.1⟩, H1.out.2.2⟩, by simp [intOf]; omega⟩
          · have hij : ¬ (a : Int) + 2 * (s : Int) ≤ N := by omega
            by_cases ham : a + s < N
            · obtain ⟨P, X, Y, h1, h2, h3, h4, h5, h6, h7, h8⟩ := HPS.out.2.last (by rw [HPS.out.1]; exact hab) (by rw [HPS.out.1]; exact ham)
              rw [HPS.out.1] at h4
              have hPre : SymPre T P X Y [] L a (a + s) N := ⟨h1, h2, h3, h4, by omega, by omega, h5, h6, h7, fun x hx => HL.out.2.1 x (HPS.out.2.perm.mem_iff.1 (by rw [h1]; simp only [List.mem_append] at hx ⊢; rcases hx with hx | hx <;> simp [hx]))⟩
              have K := fun W h h' => symMerge_any T c Good B g N cap HC.out hNs (N - a + 1) P X Y [] L a (a + s) N W (Nat.lt_succ_self _) h h' hPre
              have HK := Stow.mk K
              have HNX := Stow.mk h8
              have HLN : Stow (P.length + (X ++ Y).length + ([] : List Nat).length = N) := ⟨by have := congrArg List.length h1; simp only [List.length_append] at this ⊢; have := HPS.out.1; omega⟩
              have e21 : ((a + s : Nat) : Int) = (a : Int) + (s : Int) := by omega
              have hmi : (a : Int) + (s : Int) < N := by omega
              rw [e21] at HK
              clear h1 h2 h3 h4 h5 h6 h7 h8 K e21 hPre
              unfold SymPost at HK
              go_wp2_with fail
              refine (HK.out _ HG2.out HW.out).mono ?_
              rintro e w1 ⟨rfl, L1, hr1, hm1, ho1⟩
              have H1 := Stow.mk (And.intro hr1 (And.intro hm1 (HO3.out.trans ho1)))
              clear hr1 hm1 ho1
              go_wp2_with fail
              exact ⟨⟨2 * s, L1, by first | (simp; done) | (simp; omega), by omega, by omega, ⟨by rw [H1.out.2.1.len]; exact HLN.out, HNX.out _ H1.out.2.1⟩, ⟨H1.out.1⟩, H1.out.2.2⟩, by simp [intOf]; omega⟩
            · have hmi : ¬ (a : Int) + (s : Int) < N := by omega
              have HNX : Stow (L.length = N ∧ So.St (Tr.lt T) Tr.bf L0 (2 * s) L) := ⟨⟨HPS.out.1, HPS.out.2.done hs0 (by rw [HPS.out.1]; exact hab) (by rw [HPS.out.1]; exact ham)⟩⟩
              go_wp2_with fail
              exact ⟨⟨2 * s, L, by first | (simp; done) | (simp; omega), by omega, by omega, HNX, HW, HO3.out⟩, by simp [intOf]; omega⟩

set_option maxHeartbeats 1000000 in
set_option maxRecDepth 100000 in
theorem sortStable_any (T : List Sp) (c : Value) (Good : World → Prop) (L0 : List Nat) (B g N cap : Nat) (w : World) (hC : CmpOK T c g Good) (hgood : Good w) (hR : IRow w B (.slice (some ⟨g, 0, none⟩) N cap) L0) (hL : L0.Pairwise Tr.bf) (hM : ∀ x ∈ L0, x < T.length) (hNs : N ≤ 1000000) :
    Calls Try.prog 74 #[.slice (some ⟨g, 0, none⟩) N cap, .func (.func 75) #[] #[c]] w fun e w' => e = .returned (.tuple #[]) ∧ IRow w' B (.slice (some ⟨g, 0, none⟩) N cap) (Tr.sort T L0) ∧ Only g w w' := by
  have HK := Stow.mk (stable_any T c Good L0 B g N cap w hC hgood hR hL hM hNs)
  clear hC hgood hR hL hM
  go_enter Try.func74, Try.ntmps74
  go_wp2_with (go_at_call 101; refine HK.out.mono ?_; rintro e w1 ⟨rfl, hr, ho⟩)
  first | go_end0 | refine bodyPost_ret (results_none rfl _ _ _) rfl ?_
  exact ⟨rfl, hr, ho⟩
theorem cmpNil_any (a b : Int) (w : World) : Calls Try.prog 76 #[.int .i64 a, .int .i64 b] w fun e w' => e = .returned (.int .i64 (cv a b)) ∧ w' = w := by
  have HN : ∀ (x : Int) (W : World), Calls Try.prog 102 #[.int .i64 x] W fun e w' => e = .returned (.bool false) ∧ w' = W := by
    intro x W
    go_enter Try.func102, Try.ntmps102
    go_wp2_with fail
    go_ret
    exact ⟨rfl, rfl⟩
  have HN' := Stow.mk HN
  clear HN
  obtain ⟨d, hd⟩ : ∃ d, cv a b = d := ⟨_, rfl⟩
  rw [hd]
  unfold cv at hd
  by_cases h1 : a < b
  · rw [if_pos h1] at hd
    subst hd
    go_enter Try.func76, Try.ntmps76
    go_wp2_with (go_at_call 102; refine (HN'.out _ _).mono ?_; rintro e w' ⟨rfl, rfl⟩)
    go_ret
    exact ⟨rfl, rfl⟩
  · rw [if_neg h1] at hd
    by_cases h2 : b < a
    · rw [if_pos h2] at hd
      subst hd
      go_enter Try.func76, Try.ntmps76
      go_wp2_with (go_at_call 102; refine (HN'.out _ _).mono ?_; rintro e w' ⟨rfl, rfl⟩)
      go_ret
      exact ⟨rfl, rfl⟩
    · rw [if_neg h2] at hd
      subst hd
      go_enter Try.func76, Try.ntmps76
      go_wp2_with (go_at_call 102; refine (HN'.out _ _).mono ?_; rintro e w' ⟨rfl, rfl⟩)
      go_ret
      exact ⟨rfl, rfl⟩
end Go.Proofs.Ythbpcdoddcacdaa
