/- Walks of slices.stableCmpFunc and SortStableFunc at ints, with the comparison of tree.Kids. Conditions: places within the row; the comparison's captured slice.; Walks of tree.places, Roots, Orphans, Kids. Conditions: a slice's own; spans' numbers fit their types.; Walks of slices.IndexFunc and ContainsFunc at spans, tree.Orphans. Conditions: a slice's own.; 'append(own, s...)': a slice of elements of several cells behind a row of the call's own; the rest of a slice. No condition. -/
import Derived.Test.YtfbhdkkmcfnghaaGreatM06
import Derived.Test.YtfbhdkkmcfnghaaGreatM02
import Derived.Laws.AppendOwnNone

section
namespace Go.Proofs.YtfbhdkkmcfnghaaGreat
open Go.RowKit
set_option linter.unusedVariables false

theorem symMerge_any (T : List Sp) (c : Value) (Good : World → Prop) (B g N cap : Nat) (hC : CmpOK T c g Good) (hNs : N ≤ 1000000) : ∀ n, SymIH T c g B N cap Good n
  | 0 => fun P X Y S L a m b w h => absurd h (Nat.not_lt_zero _)
  | n + 1 => symMerge_step T c Good B g N cap n hC hNs (symMerge_any T c Good B g N cap hC hNs n)
namespace So
variable {α : Type} {lt bf : α → α → Prop} {L0 L : List α} {c a : Nat}
theorem Ph.perm (h : Ph lt bf L0 c L a) : L.Perm L0 := let ⟨_, _, _, _, _, _, _, _, p⟩ := h.ex; p
theorem St.perm (h : St lt bf L0 c L) : L.Perm L0 := let ⟨_, _, _, _, _, _, _, p⟩ := h.ex; p
theorem Ps.perm (h : Ps lt bf L0 c L a) : L.Perm L0 := let ⟨_, _, _, _, _, _, _, _, _, _, p⟩ := h.ex; p
theorem Ph.le (h : Ph lt bf L0 c L a) : a ≤ L.length := by
  obtain ⟨D, R, h1, h2, _⟩ := h.ex
  rw [h1, List.length_append]; omega
theorem Ps.le (h : Ps lt bf L0 c L a) : a ≤ L.length := by
  obtain ⟨D, F, r, h1, h2, _⟩ := h.ex
  rw [h1, List.length_append]; omega
theorem Mid.len {P X S L : List α} (h : Mid lt P X S L) : L.length = P.length + X.length + S.length := by
  obtain ⟨Z, h1, h2, _⟩ := h.ex
  rw [h1]; simp only [List.length_append]; rw [h2.length_eq]
end So

set_option maxHeartbeats 4000000 in
set_option maxRecDepth 100000 in
theorem stable_any (T : List Sp) (c : Value) (Good : World → Prop) (L0 : List Nat) (B g N cap : Nat) (w : World) (hC : CmpOK T c g Good) (hgood : Good w) (hR : IRow w B (.slice (some ⟨g, 0, none⟩) N cap) L0) (hL : L0.Pairwise Tr.bf) (hM : ∀ x ∈ L0, x < T.length) (hNs : N ≤ 1000000) :
    Calls Tryz.prog 176 #[.slice (some ⟨g, 0, none⟩) N cap, .int .i64 (N : Int), .func (.func 166) #[] #[c]] w fun e w' => e = .returned (.tuple #[]) ∧ IRow w' B (.slice (some ⟨g, 0, none⟩) N cap) (Tr.sort T L0) ∧ Only g w w' := by
  have hN := hR.len
  have HR := Stow.mk hR
  have HC := Stow.mk hC
  have HG := Stow.mk hgood
  have HL := Stow.mk (And.intro hL (And.intro hM hN))
  have HP0 : Stow (So.Ph (Tr.lt T) Tr.bf L0 20 L0 0) := ⟨So.Ph.start hL⟩
  clear hC hgood hR hL hM hN
  go_enter Tryz.func176, Tryz.ntmps176
  go_wp2_with fail
  go_loopw [7, 8] (fun u v wr => ∃ (a : Nat) (L : List Nat), u = .int .i64 (a : Int) ∧ v = .int .i64 ((a : Int) + 20) ∧ a ≤ N ∧ Stow (L.length = N ∧ So.Ph (Tr.lt T) Tr.bf L0 20 L a) ∧ Stow (IRow wr B (.slice (some ⟨g, 0, none⟩) N cap) L) ∧ Only g w wr) (fun u _ _ => N - (intOf u).toNat)
  case atStart => exact ⟨0, L0, rfl, rfl, by omega, ⟨HL.out.2.2.symm, HP0.out⟩, HR, Only.refl _ _⟩
  case round =>
    obtain ⟨a, L, rfl, rfl, ha, HPH, HW, ho⟩ := hrel
    have HO := Stow.mk ho
    have HG2 := Stow.mk (HC.out.keep _ _ HG.out ho)
    clear ho
    by_cases hab : a + 20 ≤ N
    · obtain ⟨P, X, S, h1, h2, h3, h4, h5⟩ := HPH.out.2.step (by rw [HPH.out.1]; exact hab)
      have K := fun W h h' => insSort_any T c Good P X S L a (a + 20) B g N cap W HC.out h h' h1 h2 h3 h4 (fun x hx => HL.out.2.1 x (HPH.out.2.perm.mem_iff.1 (by rw [h1]; simp [hx]))) hNs
      have HK := Stow.mk K
      have HNX := Stow.mk h5
      have HLN : Stow (P.length + X.length + S.length = N) := ⟨by have := congrArg List.length h1; simp only [List.length_append] at this; have := HPH.out.1; omega⟩
      have hii : (a : Int) + 20 ≤ N := by omega
      have e20 : ((a + 20 : Nat) : Int) = (a : Int) + 20 := by omega
      rw [e20] at HK
      clear h1 h2 h3 h4 h5 K e20
      go_wp2_with fail
      refine (HK.out _ HG2.out HW.out).mono ?_
      rintro e w1 ⟨rfl, L1, hr1, hm1, ho1⟩
      have H1 := Stow.mk (And.intro hr1 (And.intro hm1 (HO.out.trans ho1)))
      clear hr1 hm1 ho1
      go_wp2_with fail
      exact ⟨⟨a + 20, L1, by first | rfl | (simp; done) | (simp; omega), by first | (simp; done) | (simp; omega), hab, ⟨by rw [H1.out.2.1.len]; exact HLN.out, HNX.out _ H1.out.2.1⟩, ⟨H1.out.1⟩, H1.out.2.2⟩, by simp [intOf]; omega⟩
    · obtain ⟨P, X, h1, h2, h3, h4, h5⟩ := HPH.out.2.last (by rw [HPH.out.1]; exact hab)
      rw [HPH.out.1] at h3
      have K := fun W h h' => insSort_any T c Good P X [] L a N B g N cap W HC.out h h' h1 h2 h3 h4 (fun x hx => HL.out.2.1 x (HPH.out.2.perm.mem_iff.1 (by rw [h1]; simp [hx]))) hNs
      have HK := Stow.mk K
      have HNX := Stow.mk h5
      have HLN : Stow (P.length + X.length + ([] : List Nat).length = N) := ⟨by simpa using h3⟩
      have hii : ¬ (a : Int) + 20 ≤ N := by omega
      clear h1 h2 h3 h4 h5 K
      go_wp2_with fail
      refine (HK.out _ HG2.out HW.out).mono ?_
      rintro e w1 ⟨rfl, L1, hr1, hm1, ho1⟩
      have HS1 : Stow (L1.length = N ∧ So.St (Tr.lt T) Tr.bf L0 20 L1) := ⟨⟨by rw [hm1.len]; exact HLN.out, HNX.out _ hm1⟩⟩
      have H1 := Stow.mk (And.intro hr1 (HO.out.trans ho1))
      clear hr1 hm1 ho1
      go_wp2_with fail
      go_loopw [6] (fun u wr => ∃ (s : Nat) (L : List Nat), u = .int .i64 (s : Int) ∧ 0 < s ∧ s ≤ 2 * N + 20 ∧ Stow (L.length = N ∧ So.St (Tr.lt T) Tr.bf L0 s L) ∧ Stow (IRow wr B (.slice (some ⟨g, 0, none⟩) N cap) L) ∧ Only g w wr) (fun u _ => 2 * N + 20 - (intOf u).toNat)
      case atStart => exact ⟨20, L1, rfl, by omega, by omega, HS1, ⟨H1.out.1⟩, H1.out.2⟩
      case round =>
        obtain ⟨s, L2, rfl, hs0, hsN, HST, HW2, ho⟩ := hrel
        have HO2 := Stow.mk ho
        clear ho
        by_cases hsl : s < N
        rotate_left
        · have hii : ¬ (s : Int) < N := by omega
          have HE : Stow (L2 = Tr.sort T L0) := ⟨by
            have h := HST.out.2.all (by rw [HST.out.1]; omega)
            exact Tr.sort_eq HL.out.1 h.1 h.2⟩
          have hW := HW2.out
          rw [HE.out] at hW
          have HWE := Stow.mk hW
          clear hW
          go_wp2_with fail
          first | go_end0 | refine bodyPost_ret (results_none rfl _ _ _) rfl ?_
          exact ⟨rfl, HWE.out, HO2.out⟩
        have hii : (s : Int) < N := by omega
        have HPS0 : Stow (L2.length = N ∧ So.Ps (Tr.lt T) Tr.bf L0 s L2 0) := ⟨⟨HST.out.1, HST.out.2.pass⟩⟩
        have h2s : s ≤ 1000000 := by omega
        go_wp2_with fail
        go_loopw [7, 8] (fun u v wr => ∃ (a : Nat) (L : List Nat), u = .int .i64 (a : Int) ∧ v = .int .i64 ((a : Int) + 2 * s) ∧ a ≤ N ∧ Stow (L.length = N ∧ So.Ps (Tr.lt T) Tr.bf L0 s L a) ∧ Stow (IRow wr B (.slice (some ⟨g, 0, none⟩) N cap) L) ∧ Only g w wr) (fun u _ _ => N - (intOf u).toNat)
        case atStart => exact ⟨0, L2, rfl, by simp, by omega, HPS0, HW2, HO2.out⟩
        case round =>
          obtain ⟨a, L, rfl, rfl, ha, HPS, HW, ho⟩ := hrel
          have HO3 := Stow.mk ho
          have HG2 := Stow.mk (HC.out.keep _ _ HG.out ho)
          clear ho
          by_cases hab : a + 2 * s ≤ N
          · obtain ⟨P, X, Y, S, h1, h2, h3, h4, h5, h6, h7, h8⟩ := HPS.out.2.step (by rw [HPS.out.1]; exact hab)
            have hPre : SymPre T P X Y S L a (a + s) (a + 2 * s) := ⟨h1, h2, h3, h4, by omega, by omega, h5, h6, h7, fun x hx => HL.out.2.1 x (HPS.out.2.perm.mem_iff.1 (by rw [h1]; simp only [List.mem_append] at hx ⊢; rcases hx with hx | hx <;> simp [hx]))⟩
            have K := fun W h h' => symMerge_any T c Good B g N cap HC.out hNs (a + 2 * s - a + 1) P X Y S L a (a + s) (a + 2 * s) W (Nat.lt_succ_self _) h h' hPre
            have HK := Stow.mk K
            have HNX := Stow.mk h8
            have HLN : Stow (P.length + (X ++ Y).length + S.length = N) := ⟨by have := congrArg List.length h1; simp only [List.length_append] at this ⊢; have := HPS.out.1; omega⟩
            have hij : (a : Int) + 2 * (s : Int) ≤ N := by omega
            have e20 : ((a + 2 * s : Nat) : Int) = (a : Int) + 2 * (s : Int) := by omega
            have e21 : ((a + s : Nat) : Int) = (a : Int) + (s : Int) := by omega
            rw [e20, e21] at HK
            clear h1 h2 h3 h4 h5 h6 h7 h8 K e20 e21 hPre
            unfold SymPost at HK
            go_wp2_with fail
            refine (HK.out _ HG2.out HW.out).mono ?_
            rintro e w1 ⟨rfl, L1, hr1, hm1, ho1⟩
            have H1 := Stow.mk (And.intro hr1 (And.intro hm1 (HO3.out.trans ho1)))
            clear hr1 hm1 ho1
            go_wp2_with fail
            exact ⟨⟨a + 2 * s, L1, by simp, by simp, hab, ⟨by rw [H1.out.2.1.len]; exact HLN.out, HNX.out _ H1.out.2.1⟩, ⟨H1.out.1⟩, H1.out.2.2⟩, by simp [intOf]; omega⟩
          · have hij : ¬ (a : Int) + 2 * (s : Int) ≤ N := by omega
            by_cases ham : a + s < N
            · obtain ⟨P, X, Y, h1, h2, h3, h4, h5, h6, h7, h8⟩ := HPS.out.2.last (by rw [HPS.out.1]; exact hab) (by rw [HPS.out.1]; exact ham)
              rw [HPS.out.1] at h4
              have hPre : SymPre T P X Y [] L a (a + s) N := ⟨h1, h2, h3, h4, by omega, by omega, h5, h6, h7, fun x hx => HL.out.2.1 x (HPS.out.2.perm.mem_iff.1 (by rw [h1]; simp only [List.mem_append] at hx ⊢; rcases hx with hx | hx <;> simp [hx]))⟩
              have K := fun W h h' => symMerge_any T c Good B g N cap HC.out hNs (N - a + 1) P X Y [] L a (a + s) N W (Nat.lt_succ_self _) h h' hPre
              have HK := Stow.mk K
              have HNX := Stow.mk h8
              have HLN : Stow (P.length + (X ++ Y).length + ([] : List Nat).length = N) := ⟨by have := congrArg List.length h1; simp only [List.length_append] at this ⊢; have := HPS.out.1; omega⟩
              have e21 : ((a + s : Nat) : Int) = (a : Int) + (s : Int) := by omega
              have hmi : (a : Int) + (s : Int) < N := by omega
              rw [e21] at HK
              clear h1 h2 h3 h4 h5 h6 h7 h8 K e21 hPre
              unfold SymPost at HK
              go_wp2_with fail
              refine (HK.out _ HG2.out HW.out).mono ?_
              rintro e w1 ⟨rfl, L1, hr1, hm1, ho1⟩
              have H1 := Stow.mk (And.intro hr1 (And.intro hm1 (HO3.out.trans ho1)))
              clear hr1 hm1 ho1
              go_wp2_with fail
              exact ⟨⟨2 * s, L1, by first | (simp; done) | (simp; omega), by omega, by omega, ⟨by rw [H1.out.2.1.len]; exact HLN.out, HNX.out _ H1.out.2.1⟩, ⟨H1.out.1⟩, H1.out.2.2⟩, by simp [intOf]; omega⟩
            · have hmi : ¬ (a : Int) + (s : Int) < N := by omega
              have HNX : Stow (L.length = N ∧ So.St (Tr.lt T) Tr.bf L0 (2 * s) L) := ⟨⟨HPS.out.1, HPS.out.2.done hs0 (by rw [HPS.out.1]; exact hab) (by rw [HPS.out.1]; exact ham)⟩⟩
              go_wp2_with fail
              exact ⟨⟨2 * s, L, by first | (simp; done) | (simp; omega), by omega, by omega, HNX, HW, HO3.out⟩, by simp [intOf]; omega⟩

set_option maxHeartbeats 1000000 in
set_option maxRecDepth 100000 in
theorem sortStable_any (T : List Sp) (c : Value) (Good : World → Prop) (L0 : List Nat) (B g N cap : Nat) (w : World) (hC : CmpOK T c g Good) (hgood : Good w) (hR : IRow w B (.slice (some ⟨g, 0, none⟩) N cap) L0) (hL : L0.Pairwise Tr.bf) (hM : ∀ x ∈ L0, x < T.length) (hNs : N ≤ 1000000) :
    Calls Tryz.prog 165 #[.slice (some ⟨g, 0, none⟩) N cap, .func (.func 166) #[] #[c]] w fun e w' => e = .returned (.tuple #[]) ∧ IRow w' B (.slice (some ⟨g, 0, none⟩) N cap) (Tr.sort T L0) ∧ Only g w w' := by
  have HK := Stow.mk (stable_any T c Good L0 B g N cap w hC hgood hR hL hM hNs)
  clear hC hgood hR hL hM
  go_enter Tryz.func165, Tryz.ntmps165
  go_wp2_with (go_at_call 176; refine HK.out.mono ?_; rintro e w1 ⟨rfl, hr, ho⟩)
  first | go_end0 | refine bodyPost_ret (results_none rfl _ _ _) rfl ?_
  exact ⟨rfl, hr, ho⟩
theorem cmpNil_any (a b : Int) (w : World) : Calls Tryz.prog 167 #[.int .i64 a, .int .i64 b] w fun e w' => e = .returned (.int .i64 (cv a b)) ∧ w' = w := by
  have HN : ∀ (x : Int) (W : World), Calls Tryz.prog 173 #[.int .i64 x] W fun e w' => e = .returned (.bool false) ∧ w' = W := by
    intro x W
    go_enter Tryz.func173, Tryz.ntmps173
    go_wp2_with fail
    go_ret
    exact ⟨rfl, rfl⟩
  have HN' := Stow.mk HN
  clear HN
  obtain ⟨d, hd⟩ : ∃ d, cv a b = d := ⟨_, rfl⟩
  rw [hd]
  unfold cv at hd
  by_cases h1 : a < b
  · rw [if_pos h1] at hd
    subst hd
    go_enter Tryz.func167, Tryz.ntmps167
    go_wp2_with (go_at_call 173; refine (HN'.out _ _).mono ?_; rintro e w' ⟨rfl, rfl⟩)
    go_ret
    exact ⟨rfl, rfl⟩
  · rw [if_neg h1] at hd
    by_cases h2 : b < a
    · rw [if_pos h2] at hd
      subst hd
      go_enter Tryz.func167, Tryz.ntmps167
      go_wp2_with (go_at_call 173; refine (HN'.out _ _).mono ?_; rintro e w' ⟨rfl, rfl⟩)
      go_ret
      exact ⟨rfl, rfl⟩
    · rw [if_neg h2] at hd
      subst hd
      go_enter Tryz.func167, Tryz.ntmps167
      go_wp2_with (go_at_call 173; refine (HN'.out _ _).mono ?_; rintro e w' ⟨rfl, rfl⟩)
      go_ret
      exact ⟨rfl, rfl⟩
end Go.Proofs.YtfbhdkkmcfnghaaGreat
end

section
namespace Go.Proofs.YtfbhdkkmcfnghaaGreat
open Go.RowKit
set_option linter.unusedVariables false

theorem info_int : (Tryz.prog.info? 3).map (fun i => (i.zero, i.size, i.bytes)) = some (some (.int .i64 0), 1, 8) := by kernel_rfl
/-- Spans in memory. -/
abbrev SpR (w : World) (A : Option Addr) (cap : Nat) (L : List Sp) : Prop := SlR w 11 (.slice A L.length cap) (L.map Sp.cells)
namespace Tr
def pl (L : List Sp) (p : Sp → Bool) (i : Nat) : List Nat := (List.range i).filter fun j => p (sp L j)
theorem pl_all (L : List Sp) (p : Sp → Bool) : pl L p L.length = places L p := rfl
theorem pl_yes {L : List Sp} {p : Sp → Bool} {i : Nat} (h : p (sp L i) = true) : pl L p (i + 1) = pl L p i ++ [i] := by
  unfold pl
  rw [List.range_succ, List.filter_append]
  simp [h]
theorem pl_no {L : List Sp} {p : Sp → Bool} {i : Nat} (h : p (sp L i) = false) : pl L p (i + 1) = pl L p i := by
  unfold pl
  rw [List.range_succ, List.filter_append]
  simp [h]
theorem pl_len (L : List Sp) (p : Sp → Bool) (i : Nat) : (pl L p i).length ≤ i := by
  have := List.length_filter_le (fun j => p (sp L j)) (List.range i)
  simpa [pl] using this
theorem sp_get {L : List Sp} {i : Nat} (h : i < L.length) : sp L i = L[i] := by
  unfold sp
  rw [List.getD_eq_getElem?_getD, List.getElem?_eq_getElem h]; rfl
end Tr

set_option maxHeartbeats 2000000 in
set_option maxRecDepth 100000 in
theorem places_any (K : Nat) (caps : Array Value) (hcf : ∀ (args : Array Value) (w : World), (callFunc K args).run Tryz.prog w = .ok (.enter K args) w) (p : Sp → Bool) (A : Option Addr) (cap : Nat) (L : List Sp) (Good : World → Prop) (w : World)
    (hG : ∀ W W', Good W → Below W.heap.size W W' → Good W') (hf : ∀ W s, Good W → s ∈ L → Calls Tryz.prog K (#[s.val] ++ caps) W fun e w' => e = .returned (.bool (p s)) ∧ Below W.heap.size W w') (hgood : Good w) (hS : SpR w A cap L) (hn : L.length ≤ 1000000) :
    Calls Tryz.prog 118 #[.slice A L.length cap, .func (.func K) #[] caps] w fun e w' => ∃ v, e = .returned v ∧ IRow w' w.heap.size v (Tr.places L p) ∧ Below w.heap.size w w' := by
  have HS := Stow.mk hS
  have HF := Stow.mk (And.intro hf (And.intro hG hgood))
  clear hS hf hG hgood
  go_enter Tryz.func118, Tryz.ntmps118
  go_wp2_with fail
  go_loopw [5, 10] (fun v u wr => ∃ i : Nat, u = .int .i64 (i : Int) ∧ i ≤ L.length ∧ Stow (IRow wr w.heap.size v (Tr.pl L p i)) ∧ Below w.heap.size w wr) (fun _ u _ => L.length - (intOf u).toNat)
  case atStart => exact ⟨0, rfl, by omega, ⟨NRow.nil _ _ _ _⟩, Below.self _⟩
  case round =>
    obtain ⟨i, rfl, hi, HR, hbr⟩ := hrel
    have HBR := Stow.mk hbr
    clear hbr
    by_cases hlt : i < L.length
    · obtain ⟨b, off, rfl, hblt, _⟩ := HS.out.open (by simp; omega)
      have hsp := span_at (HS.out.keep HBR.out) hlt
      obtain ⟨s, hs⟩ : ∃ s, L[i] = s := ⟨_, rfl⟩
      have hsL : s ∈ L := hs ▸ List.getElem_mem hlt
      have HSI : Stow (Tr.sp L i = s) := ⟨(Tr.sp_get hlt).trans hs⟩
      rw [hs] at hsp
      obtain ⟨hltb, q0, q1, q2, q3, q4, q5, q6, q7, q8, q9, q10⟩ := hsp
      clear hs
      have hii : (i : Int) < L.length := by omega
      obtain ⟨Av, cv_, rfl⟩ := own_form HR.out
      have hpl := Tr.pl_len L p i
      have hO0 : Below w.heap.size w (wr.alloc (.cells s.cells.toArray 64)) := HBR.out.alloc HBR.out.size _
      have KF := HF.out.1 (wr.alloc (.cells s.cells.toArray 64)) s (HF.out.2.1 _ _ HF.out.2.2 hO0) hsL
      obtain ⟨r, hr⟩ : ∃ r, p s = r := ⟨_, rfl⟩
      rw [hr] at KF
      have HKF := Stow.mk KF
      have HO0 := Stow.mk hO0
      have HPS : Stow (p (Tr.sp L i) = r) := ⟨by rw [HSI.out]; exact hr⟩
      have HR0 := Stow.mk (World.ownsRow.alloc HR.out (.cells s.cells.toArray 64))
      have K8 : Stow (((Tr.pl L p i).length + 1) * 8 ≤ 140737488355328) := ⟨by omega⟩
      clear KF hO0 hr hpl
      cases r
      · have HPL : Stow (Tr.pl L p (i + 1) = Tr.pl L p i) := ⟨Tr.pl_no HPS.out⟩
        go_wp2_with fail
        refine HKF.out.mono ?_
        rintro e w1 ⟨rfl, hb1⟩
        have HR1 : Stow (IRow w1 w.heap.size (.slice Av (Tr.pl L p i).length cv_) (Tr.pl L p i)) := ⟨own_kept HR0.out hb1⟩
        have HB1 : Stow (Below w.heap.size w w1) := ⟨HO0.out.trans (hb1.mono HO0.out.size)⟩
        clear hb1
        go_wp2_with fail
        exact ⟨⟨i + 1, rfl, by omega, ⟨by rw [HPL.out]; exact HR1.out⟩, HB1.out⟩, by simp [intOf]; omega⟩
      · have HPL : Stow (Tr.pl L p (i + 1) = Tr.pl L p i ++ [i]) := ⟨Tr.pl_yes HPS.out⟩
        go_wp2_with fail
        refine HKF.out.mono ?_
        rintro e w1 ⟨rfl, hb1⟩
        have HR1 : Stow (IRow w1 w.heap.size (.slice Av (Tr.pl L p i).length cv_) (Tr.pl L p i)) := ⟨own_kept HR0.out hb1⟩
        have HB1 : Stow (Below w.heap.size w w1) := ⟨HO0.out.trans (hb1.mono HO0.out.size)⟩
        clear hb1
        go_wp2_with (at_builtin; refine wpList_append_num HR1.out i rfl rfl (.tmp 18) (.tmp 20) 105 rfl Tryz.underlying105 8 info_int rfl rfl K8.out (by omega) HB1.out.size ?_; intro v' w2 hown2 _ hb2 hs2)
        exact ⟨⟨i + 1, rfl, by omega, ⟨by rw [HPL.out]; exact hown2⟩, HB1.out.trans hb2⟩, by simp [intOf]; omega⟩
    · obtain rfl : i = L.length := by omega
      obtain ⟨Av, cv_, rfl⟩ := own_form HR.out
      have hni : ¬ (L.length : Int) < L.length := by omega
      go_wp2_with fail
      go_ret
      exact ⟨_, rfl, by rw [← Tr.pl_all]; exact HR.out, HBR.out⟩

set_option maxHeartbeats 1000000 in
set_option maxRecDepth 100000 in
theorem rootsF_any (s : Sp) (w : World) : Calls Tryz.prog 119 #[s.val] w fun e w' => e = .returned (.bool (s.up == 0)) ∧ Below w.heap.size w w' := by
  have HM := Stow.mk (Below.alloc' (Below.self w) (.cells s.cells.toArray 64))
  obtain ⟨r, hr⟩ : ∃ r, (s.up == 0) = r := ⟨_, rfl⟩
  have hri : ((s.up : Int) == 0) = r := by rw [← hr, Bool.eq_iff_iff]; simp
  rw [hr]
  clear hr
  unfold Sp.val
  go_enter Tryz.func119, Tryz.ntmps119
  go_wp2_with fail
  go_ret
  exact ⟨rfl, HM.out⟩

theorem enters_roots : ∀ (args : Array Value) (w : World), (callFunc 119 args).run Tryz.prog w = .ok (.enter 119 args) w := enters_of Tryz.func119 (by kernel_rfl) rfl
set_option maxHeartbeats 1000000 in
set_option maxRecDepth 100000 in
theorem trRoots_any (A : Option Addr) (cap : Nat) (L : List Sp) (w : World) (hS : SpR w A cap L) (hn : L.length ≤ 1000000) :
    Calls Tryz.prog 81 #[.slice A L.length cap] w fun e w' => ∃ v, e = .returned v ∧ IRow w' w.heap.size v (Tr.roots L) ∧ Below w.heap.size w w' := by
  have HK := Stow.mk (places_any 119 #[] enters_roots (fun s => s.up == 0) A cap L (fun _ => True) w (fun _ _ _ _ => trivial) (fun W s _ _ => by rw [Array.append_empty]; exact rootsF_any s W) trivial hS hn)
  clear hS
  go_enter Tryz.func81, Tryz.ntmps81
  go_wp2_with (go_at_call 118; refine HK.out.mono ?_; rintro e w1 ⟨v, rfl, hr, hb⟩)
  go_ret
  exact ⟨v, rfl, hr, hb⟩
end Go.Proofs.YtfbhdkkmcfnghaaGreat
end

section
namespace Go.Proofs.YtfbhdkkmcfnghaaGreat
open Go.RowKit
set_option linter.unusedVariables false

theorem own_lower {w : World} {B B' : Nat} {e : TypeId} {size n : Nat} {v : Value} {xs : List Value} (h : w.ownsRow B' e size v n xs) (hle : B ≤ B') : w.ownsRow B e size v n xs := by
  refine ⟨h.1, ?_⟩
  rcases h.2 with h | ⟨g, cap, cur, hv, hb, r⟩
  · exact .inl h
  · exact .inr ⟨g, cap, cur, hv, by omega, r⟩
/-- A number that tells whether there is one. -/
def IxOf (r : Bool) (w : World) (e : Ending) (w' : World) : Prop := ∃ k : Int, e = .returned (.int .i64 k) ∧ decide (0 ≤ k) = r ∧ Below w.heap.size w w'
theorem any_next {L : List Sp} {p : Sp → Bool} {i : Nat} (h : i < L.length) (ha : (L.take i).any p = false) (hb : p L[i] = false) : (L.take (i + 1)).any p = false := by
  rw [List.take_succ_eq_append_getElem h, List.any_append, ha]; simp [hb]
theorem any_yes {L : List Sp} {p : Sp → Bool} {i : Nat} (h : i < L.length) (hb : p L[i] = true) : L.any p = true := List.any_eq_true.2 ⟨_, List.getElem_mem h, hb⟩

set_option maxHeartbeats 2000000 in
set_option maxRecDepth 100000 in
theorem indexF_any (K : Nat) (caps : Array Value) (hcf : ∀ (args : Array Value) (w : World), (callFunc K args).run Tryz.prog w = .ok (.enter K args) w) (p : Sp → Bool) (A : Option Addr) (cap : Nat) (L : List Sp) (Good : World → Prop) (w : World)
    (hG : ∀ W W', Good W → Below W.heap.size W W' → Good W') (hf : ∀ W s, Good W → s ∈ L → Calls Tryz.prog K (#[s.val] ++ caps) W fun e w' => e = .returned (.bool (p s)) ∧ Below W.heap.size W w') (hgood : Good w) (hS : SpR w A cap L) (hn : L.length ≤ 1000000) :
    Calls Tryz.prog 132 #[.slice A L.length cap, .func (.func K) #[] caps] w (IxOf (L.any p) w) := by
  have HS := Stow.mk hS
  have HF := Stow.mk (And.intro hf (And.intro hG hgood))
  clear hS hf hG hgood
  go_enter Tryz.func132, Tryz.ntmps132
  go_wp2_with fail
  go_loopw [8] (fun u wr => ∃ i : Nat, u = .int .i64 (i : Int) ∧ i ≤ L.length ∧ Stow ((L.take i).any p = false) ∧ Below w.heap.size w wr) (fun u _ => L.length - (intOf u).toNat)
  case atStart => exact ⟨0, rfl, by omega, ⟨rfl⟩, Below.self _⟩
  case round =>
    obtain ⟨i, rfl, hi, HN, hbr⟩ := hrel
    have HBR := Stow.mk hbr
    clear hbr
    by_cases hlt : i < L.length
    · obtain ⟨b, off, rfl, hblt, _⟩ := HS.out.open (by simp; omega)
      have hsp := span_at (HS.out.keep HBR.out) hlt
      obtain ⟨s, hs⟩ : ∃ s, L[i] = s := ⟨_, rfl⟩
      have hsL : s ∈ L := hs ▸ List.getElem_mem hlt
      rw [hs] at hsp
      obtain ⟨hltb, q0, q1, q2, q3, q4, q5, q6, q7, q8, q9, q10⟩ := hsp
      have hii : (i : Int) < L.length := by omega
      have KF := HF.out.1 wr s (HF.out.2.1 _ _ HF.out.2.2 HBR.out) hsL
      obtain ⟨r, hr⟩ : ∃ r, p s = r := ⟨_, rfl⟩
      rw [hr] at KF
      have HKF := Stow.mk KF
      have HPS : Stow (p (L[i]'hlt) = r) := ⟨by rw [hs]; exact hr⟩
      clear KF hr hs
      cases r
      · go_wp2_with fail
        refine HKF.out.mono ?_
        rintro e w1 ⟨rfl, hb1⟩
        have HB1 : Stow (Below w.heap.size w w1) := ⟨HBR.out.trans (hb1.mono HBR.out.size)⟩
        clear hb1
        go_wp2_with fail
        exact ⟨⟨i + 1, rfl, by omega, ⟨any_next hlt HN.out HPS.out⟩, HB1.out⟩, by simp [intOf]; omega⟩
      · have HE : Stow (∀ w1, Below wr.heap.size wr w1 → IxOf (L.any p) w (.returned (.int .i64 (i : Int))) w1) := ⟨fun w1 hb1 => ⟨i, rfl, by rw [any_yes hlt HPS.out]; simp, HBR.out.trans (hb1.mono HBR.out.size)⟩⟩
        go_wp2_with fail
        refine HKF.out.mono ?_
        rintro e w1 ⟨rfl, hb1⟩
        have HB1 := Stow.mk (HE.out w1 hb1)
        clear hb1
        go_wp2_with fail
        go_ret
        exact HB1.out
    · obtain rfl : i = L.length := by omega
      have hni : ¬ (L.length : Int) < L.length := by omega
      have HE : Stow (IxOf (L.any p) w (.returned (.int .i64 (-1))) wr) := ⟨⟨-1, rfl, by have := HN.out; rw [List.take_length] at this; rw [this]; rfl, HBR.out⟩⟩
      go_wp2_with fail
      go_ret
      exact HE.out

set_option maxHeartbeats 1000000 in
set_option maxRecDepth 100000 in
theorem containsF_any (K : Nat) (caps : Array Value) (hcf : ∀ (args : Array Value) (w : World), (callFunc K args).run Tryz.prog w = .ok (.enter K args) w) (p : Sp → Bool) (A : Option Addr) (cap : Nat) (L : List Sp) (Good : World → Prop) (w : World)
    (hG : ∀ W W', Good W → Below W.heap.size W W' → Good W') (hf : ∀ W s, Good W → s ∈ L → Calls Tryz.prog K (#[s.val] ++ caps) W fun e w' => e = .returned (.bool (p s)) ∧ Below W.heap.size W w') (hgood : Good w) (hS : SpR w A cap L) (hn : L.length ≤ 1000000) :
    Calls Tryz.prog 143 #[.slice A L.length cap, .func (.func K) #[] caps] w fun e w' => e = .returned (.bool (L.any p)) ∧ Below w.heap.size w w' := by
  have HK := Stow.mk (indexF_any K caps hcf p A cap L Good w hG hf hgood hS hn)
  obtain ⟨r, hr⟩ : ∃ r, L.any p = r := ⟨_, rfl⟩
  rw [hr] at HK ⊢
  clear hS hr hG hf hgood
  go_enter Tryz.func143, Tryz.ntmps143
  go_wp2_with (go_at_call 132; refine HK.out.mono ?_; unfold IxOf; rintro e w1 ⟨k, rfl, hk, hb⟩)
  go_ret
  first | exact ⟨by rw [hk], hb⟩ | exact ⟨rfl, hb⟩

set_option maxHeartbeats 1000000 in
set_option maxRecDepth 100000 in
theorem orphIn_any (s : Sp) (q : Nat) (up : Nat) (w : World) (hq : w.cell? ⟨q, 3, none⟩ = some (.int .u64 (up : Int))) : Calls Tryz.prog 144 #[s.val, .pointer (some ⟨q, 0, none⟩)] w fun e w' => e = .returned (.bool (s.id == up)) ∧ Below w.heap.size w w' := by
  have HM := Stow.mk (Below.alloc' (Below.self w) (.cells s.cells.toArray 64))
  obtain ⟨r, hr⟩ : ∃ r, (s.id == up) = r := ⟨_, rfl⟩
  have hri : ((s.id : Int) == (up : Int)) = r := by rw [← hr, Bool.eq_iff_iff]; simp; omega
  have hlt : q < w.heap.size := World.block_lt_of_cell? w ⟨q, 3, none⟩ hq
  rw [hr]
  clear hr
  unfold Sp.val
  go_enter Tryz.func144, Tryz.ntmps144
  go_wp2_with fail
  first | go_ret | (go_quiet (fail); go_wp2_with fail; go_ret)
  first | exact ⟨rfl, HM.out⟩ | exact ⟨rfl, Below.drewN' HM.out _⟩
theorem enters_orphIn : ∀ (args : Array Value) (w : World), (callFunc 144 args).run Tryz.prog w = .ok (.enter 144 args) w := enters_of Tryz.func144 (by kernel_rfl) rfl
theorem enters_orph : ∀ (args : Array Value) (w : World), (callFunc 142 args).run Tryz.prog w = .ok (.enter 142 args) w := enters_of Tryz.func142 (by kernel_rfl) rfl
/-- A slice of spans that a closure captured. -/
def LG (L : List Sp) (A : Option Addr) (cap q : Nat) (W : World) : Prop := W.cell? ⟨q, 0, none⟩ = some (.slice A L.length cap) ∧ SpR W A cap L
theorem LG.keep {L : List Sp} {A : Option Addr} {cap q : Nat} {W W' : World} (h : LG L A cap q W) (hb : Below W.heap.size W W') : LG L A cap q W' :=
  ⟨(hb.cell (p := ⟨q, 0, none⟩) (World.block_lt_of_cell? W ⟨q, 0, none⟩ h.1)).trans h.1, h.2.keep hb⟩

set_option maxHeartbeats 1000000 in
set_option maxRecDepth 100000 in
theorem orphF_any (s : Sp) (q : Nat) (A : Option Addr) (cap : Nat) (L : List Sp) (w : World) (hg : LG L A cap q w) (hn : L.length ≤ 1000000) : Calls Tryz.prog 142 #[s.val, .pointer (some ⟨q, 0, none⟩)] w fun e w' => e = .returned (.bool (Tr.lost_ L s)) ∧ Below w.heap.size w w' := by
  have hmf : ∀ (fn : Fn) (first cap : Array Value) (w : World), (Instr.makeFunc fn first cap).run Tryz.prog w = .ok (.func fn first cap) w := fun _ _ _ _ => rfl
  have hM := Below.alloc' (Below.self w) (.cells s.cells.toArray 64)
  have hc3 : (w.alloc (.cells s.cells.toArray 64)).cell? ⟨w.heap.size, 3, none⟩ = some (.int .u64 (s.up : Int)) := (Held.made w s.cells 64).cell rfl
  have HK := Stow.mk (containsF_any 144 #[.pointer (some ⟨w.heap.size, 0, none⟩)] enters_orphIn (fun x => x.id == s.up) A cap L (fun W => W.cell? ⟨w.heap.size, 3, none⟩ = some (.int .u64 (s.up : Int))) _
    (fun W W' h hb => (hb.cell (p := ⟨w.heap.size, 3, none⟩) (World.block_lt_of_cell? W ⟨w.heap.size, 3, none⟩ h)).trans h) (fun W x h _ => orphIn_any x w.heap.size s.up W h) hc3 (hg.keep hM).2 hn)
  have HM := Stow.mk hM
  have hq := hg.1
  have hlt : q < w.heap.size := World.block_lt_of_cell? w ⟨q, 0, none⟩ hq
  obtain ⟨r, hr⟩ : ∃ r, (L.any fun x => x.id == s.up) = r := ⟨_, rfl⟩
  obtain ⟨t, ht⟩ : ∃ t, (s.up != 0) = t := ⟨_, rfl⟩
  have HE : Stow (Tr.lost_ L s = (t && !r)) := ⟨by unfold Tr.lost_; rw [ht, hr]⟩
  have hti : ((s.up : Int) != 0) = t := by rw [← ht, Bool.eq_iff_iff]; simp
  rw [hr] at HK
  rw [HE.out]
  clear hr ht hc3 hM hg
  cases t
  · unfold Sp.val
    go_enter Tryz.func142, Tryz.ntmps142
    go_wp2_with fail
    go_ret
    exact ⟨rfl, HM.out⟩
  · unfold Sp.val
    go_enter Tryz.func142, Tryz.ntmps142
    go_wp2_with (go_at_call 143; refine HK.out.mono ?_; rintro e w1 ⟨rfl, hb⟩)
    go_ret
    exact ⟨by simp, Below.call HM.out hb⟩

set_option maxHeartbeats 1000000 in
set_option maxRecDepth 100000 in
theorem trOrphans_any (A : Option Addr) (cap : Nat) (L : List Sp) (w : World) (hS : SpR w A cap L) (hn : L.length ≤ 1000000) :
    Calls Tryz.prog 110 #[.slice A L.length cap] w fun e w' => ∃ v, e = .returned v ∧ IRow w' w.heap.size v (Tr.orphans L) ∧ Below w.heap.size w w' := by
  have hmf : ∀ (fn : Fn) (first cap : Array Value) (w : World), (Instr.makeFunc fn first cap).run Tryz.prog w = .ok (.func fn first cap) w := fun _ _ _ _ => rfl
  have hM := Below.alloc' (Below.self w) (.cells #[.slice A L.length cap] 38)
  have hg : LG L A cap w.heap.size (w.alloc (.cells #[.slice A L.length cap] 38)) := ⟨by simp, hS.keep hM⟩
  have HK := Stow.mk (places_any 142 #[.pointer (some ⟨w.heap.size, 0, none⟩)] enters_orph (Tr.lost_ L) A cap L (LG L A cap w.heap.size) _ (fun _ _ h hb => h.keep hb) (fun W s h _ => orphF_any s w.heap.size A cap L W h hn) hg (hS.keep hM) hn)
  have HM := Stow.mk hM
  clear hS hM hg
  go_enter Tryz.func110, Tryz.ntmps110
  go_wp2_with (go_at_call 118; refine HK.out.mono ?_; rintro e w1 ⟨v, rfl, hr, hb⟩)
  go_ret
  exact ⟨v, rfl, own_lower hr HM.out.size, Below.call HM.out hb⟩
end Go.Proofs.YtfbhdkkmcfnghaaGreat
end

section
namespace Go.Proofs.YtfbhdkkmcfnghaaGreat
open Go.RowKit
set_option linter.unusedVariables false

/-- The last elements. -/
theorem SlR.drop {w : World} {c : Nat} {b off n cap : Nat} {L : List (List Value)} (h : SlR w c (.slice (some ⟨b, off, none⟩) n cap) L) (k : Nat) (hk : k ≤ L.length) : SlR w c (.slice (some ⟨b, off + k * c, none⟩) (n - k) (cap - k)) (L.drop k) ∧ n = L.length := by
  obtain ⟨A', cap', hv, h1, h2, h3⟩ := h
  simp only [Value.slice.injEq] at hv
  obtain ⟨rfl, rfl, rfl⟩ := hv
  refine ⟨⟨_, _, by rw [List.length_drop], by rw [List.length_drop]; omega, by omega, fun hL => ?_⟩, rfl⟩
  obtain ⟨b', off', hA, hlt, hc⟩ := h3 (by intro e; subst e; simp at hL)
  cases hA
  refine ⟨_, _, rfl, hlt, fun i x hx j u hu => ?_⟩
  rw [List.getElem?_drop] at hx
  have := hc (k + i) x hx j u hu
  rwa [Nat.add_mul, ← Nat.add_assoc] at this

theorem flat_len {L : List (List Value)} {c : Nat} (hL : ∀ x ∈ L, x.length = c) : L.flatten.length = L.length * c := by
  induction L with
  | nil => simp
  | cons y t ih => rw [List.flatten_cons, List.length_append, hL y (by simp), ih (fun x hx => hL x (by simp [hx])), List.length_cons, Nat.succ_mul]; omega

/-- 'append(own, s...)', the new slice as the walk writes it. -/
theorem wpList_append_slr {P : Program} {ops : Array Oper} {rest : List Oper} {o : Oper} {a : Act} {Q : Exit → Act → World → Prop} {w : World}
    {B : Nat} {e : TypeId} {size bytes : Nat} {z : Value} {v : Value} {n : Nat} {ys : List Value} (hown : w.ownsRow B e size v n ys)
    (L2 : List (List Value)) (A2 : Option Addr) (m c2 : Nat) (hsrc : SlR w size (.slice A2 m c2) L2) (hc0 : A2 = none → c2 = 0) (hL2 : ∀ x ∈ L2, x.length = size) (h1 : ∀ x ∈ L2, ∀ u ∈ x, u.oneCell' = true)
    (hgd : o.guard = none) (s x : Operand) (t : TypeId) (ho : o.op = .call { callee := .builtin .append, args := #[s, x], argTypes := #[t, t] }) (ht : P.underlying t = some (.slice e))
    (hinfo : (P.info? e).map (fun i => (i.zero, i.size, i.bytes)) = some (some z, size, bytes)) (hzc : z.cells.size = size) (hsz : 0 < size)
    (hs : a.eval s = v) (hx : a.eval x = .slice A2 m c2) (hn : n + m ≤ maxLen) (hbytes : (n + m) * bytes ≤ 140737488355328) (hB : B ≤ w.heap.size)
    (h : ∀ A cap w', w'.ownsRow B e size (.slice A (n + m) cap) (n + m) (ys ++ L2.flatten) → w.grownBy w' v.ownBlock → Below B w w' → wpList P ops Q rest (a.put o.dst (.slice A (n + m) cap)) w') : wpList P ops Q (o :: rest) a w := by
  obtain ⟨i, hi, hz, hsz', hby⟩ := info_parts hinfo
  have hml : m = L2.length := by
    obtain ⟨_, _, hv, _⟩ := hsrc
    simp only [Value.slice.injEq] at hv
    exact hv.2.1
  subst hml
  have key : ∀ ad, A2 = some ad → (∀ j u, L2.flatten[j]? = some u → w.cell? (ad.add j) = some u) → wpList P ops Q (o :: rest) a w := by
    intro ad hA hc
    subst hA
    refine wpList_append_own _ hgd s x t ho B e i _ size bytes ht hi hz hsz' hby hzc hsz v n _ hs hown ad L2.length c2 L2.flatten hx (flat_len hL2) hc (by intro u hu; obtain ⟨y, hy, hu⟩ := List.mem_flatten.1 hu; exact h1 y hy u hu) hn hbytes hB ?_
    intro v' w' h1 h2 _
    obtain ⟨A, c, rfl⟩ := own_form h1
    exact h A c w' h1 h2 ((Below.refl _ _).grown h2 hB fun k hk => (World.ownsRow.lt hown k hk).1)
  by_cases hE : L2 = []
  · subst hE
    rcases A2 with _ | ad
    · have hc2 := hc0 rfl
      subst hc2
      refine wpList_append_own_none hgd s x t ho B e i size ht hi v n _ hs hown hx ?_
      obtain ⟨A, cap, rfl⟩ := own_form hown
      have := h A cap w (by simpa using hown) (World.grownBy.refl w _) (Below.refl _ _)
      simpa using this
    · exact key ad rfl (by intro j u hj; simp at hj)
  · obtain ⟨b, off, rfl, hlt, hc⟩ := hsrc.open (by rcases L2 with _ | ⟨y, t⟩; exact absurd rfl hE; simp)
    refine key _ rfl fun j u hj => ?_
    rw [Addr.add_lit]
    have hjl : j < L2.length * size := by
      rw [← flat_len hL2]
      rcases Nat.lt_or_ge j L2.flatten.length with h | h
      · exact h
      · rw [List.getElem?_eq_none h] at hj; cases hj
    have hq : j / size < L2.length := by rw [Nat.div_lt_iff_lt_mul hsz]; exact hjl
    have hr : j % size < size := Nat.mod_lt _ hsz
    have hxl := hL2 _ (List.getElem_mem hq)
    have h2 := flat_at hL2 (j / size) _ (List.getElem?_eq_getElem hq) (j % size) _ (List.getElem?_eq_getElem (by rw [hxl]; exact hr))
    have e1 : j / size * size + j % size = j := by rw [Nat.mul_comm]; exact Nat.div_add_mod j size
    rw [e1, hj] at h2
    have h3 := hc (j / size) _ (List.getElem?_eq_getElem hq) (j % size) _ (List.getElem?_eq_getElem (by rw [hxl]; exact hr))
    rw [Nat.add_assoc, e1, ← h2] at h3
    exact h3
end Go.Proofs.YtfbhdkkmcfnghaaGreat
end
