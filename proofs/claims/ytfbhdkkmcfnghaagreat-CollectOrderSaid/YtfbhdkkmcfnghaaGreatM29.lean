/- Walk of the reference's Kids. Conditions: a slice's own. -/
import Derived.Test.YtfbhdkkmcfnghaaGreatM28

section
namespace Go.Proofs.YtfbhdkkmcfnghaaGreat
open Go.RowKit
set_option linter.unusedVariables false

namespace Tr
theorem ins_at {L : List Sp} {x : Nat} : ∀ {A : List Nat} {k : Nat}, k ≤ A.length → (∀ y ∈ A.take k, (sp L y).sq ≤ (sp L x).sq) → (∀ h : k < A.length, ¬ (sp L A[k]).sq ≤ (sp L x).sq) → ins L x A = A.take k ++ [x] ++ A.drop k
  | [], k, hk, _, _ => by
    obtain rfl : k = 0 := by simpa using hk
    rfl
  | y :: t, 0, _, _, h => by
    unfold ins
    rw [if_neg (show ¬ (sp L y).sq ≤ (sp L x).sq from h (by simp))]
    rfl
  | y :: t, k + 1, hk, h1, h2 => by
    unfold ins
    rw [if_pos (h1 y (by simp))]
    rw [ins_at (k := k) (by simpa using hk) (fun z hz => h1 z (by rw [List.take_succ_cons]; exact List.mem_cons_of_mem y hz)) (fun h => h2 (by simpa using h))]
    rfl
def kid (L : List Sp) (at_ i : Nat) : List Nat := (pl L (fun s => s.up == (sp L at_).id) i).foldl (fun out x => ins L x out) []
theorem kid_yes {L : List Sp} {at_ i : Nat} (h : ((sp L i).up == (sp L at_).id) = true) : kid L at_ (i + 1) = ins L i (kid L at_ i) := by
  unfold kid
  rw [pl_yes (p := fun s => s.up == (sp L at_).id) h, List.foldl_append]; rfl
theorem kid_no {L : List Sp} {at_ i : Nat} (h : ((sp L i).up == (sp L at_).id) = false) : kid L at_ (i + 1) = kid L at_ i := by
  unfold kid
  rw [pl_no (p := fun s => s.up == (sp L at_).id) h]
theorem kid_lt (L : List Sp) (at_ : Nat) : ∀ i, (∀ x ∈ kid L at_ i, x < i) ∧ (kid L at_ i).length ≤ i
  | 0 => by simp [kid, pl]
  | i + 1 => by
    have ih := kid_lt L at_ i
    cases h : ((sp L i).up == (sp L at_).id)
    · rw [kid_no h]
      exact ⟨fun x hx => Nat.lt_succ_of_lt (ih.1 x hx), by omega⟩
    · rw [kid_yes h]
      have hp := ins_perm L i (kid L at_ i)
      refine ⟨fun x hx => ?_, by rw [hp.length_eq, List.length_cons]; omega⟩
      rcases List.mem_cons.1 (hp.mem_iff.1 hx) with rfl | hx
      · omega
      · exact Nat.lt_succ_of_lt (ih.1 x hx)
theorem kids_kid {L : List Sp} {n : Nat} (hl : n < L.length) (hid : (sp L n).id ≠ 0) : kids L n = kid L n L.length := by
  unfold kids
  rw [if_pos ⟨hl, hid⟩]
  rfl
end Tr
/-- A window of a row of ints. -/
theorem wpList_append_win {w : World} {ops : Array Oper} {rest : List Oper} {o : Oper} {a : Act} {Q : Exit → Act → World → Prop} {B : Nat} {v : Value} {L : List Nat} (hown : IRow w B v L) (L2 : List Nat) (A2 : Option Addr) (m c2 : Nat) (hm : m = L2.length)
    (hsrc : (L2 = [] ∧ (A2 = none → c2 = 0)) ∨ ∃ g off, A2 = some ⟨g, off, none⟩ ∧ ∀ j (h : j < L2.length), w.cell? ⟨g, off + j, none⟩ = some (.int .i64 (L2[j] : Nat)))
    (hgd : o.guard = none) (s x : Operand) (ho : o.op = .call { callee := .builtin .append, args := #[s, x], argTypes := #[105, 105] }) (hs : a.eval s = v) (hx : a.eval x = .slice A2 m c2)
    (hbytes : (L.length + L2.length) * 8 ≤ 140737488355328) (hB : B ≤ w.heap.size)
    (h : ∀ A cap w', IRow w' B (.slice A (L ++ L2).length cap) (L ++ L2) → w.grownBy w' v.ownBlock → Below B w w' → wpList Tryz.prog ops Q rest (a.put o.dst (.slice A (L ++ L2).length cap)) w') : wpList Tryz.prog ops Q (o :: rest) a w := by
  subst hm
  obtain ⟨i, hi, hz, hsz, hby⟩ := info_parts info_int
  have key : ∀ ad, A2 = some ad → (∀ j u, (L2.map fun n : Nat => Value.int .i64 (n : Int))[j]? = some u → w.cell? (ad.add j) = some u) → wpList Tryz.prog ops Q (o :: rest) a w := by
    intro ad hA hc
    subst hA
    refine wpList_append_own _ hgd s x 105 ho B 3 i _ 1 8 Tryz.underlying105 hi hz hsz hby rfl (by decide) v L.length _ hs hown ad L2.length c2 (L2.map fun n : Nat => Value.int .i64 (n : Int)) hx (by simp) hc (by intro u hu; obtain ⟨m, _, rfl⟩ := List.mem_map.1 hu; rfl) (by unfold maxLen; omega) hbytes hB ?_
    intro v' w' h1 h2 _
    obtain ⟨A, c, rfl⟩ := own_form h1
    have e : L.length + L2.length = (L ++ L2).length := by simp
    rw [e] at h1 ⊢
    refine h A c w' ?_ h2 ((Below.refl _ _).grown h2 hB fun k hk => (World.ownsRow.lt hown k hk).1)
    unfold IRow NRow
    rw [List.map_append]
    exact h1
  rcases hsrc with ⟨rfl, hc0⟩ | ⟨g, off, rfl, hc⟩
  · rcases A2 with _ | ad
    · have hc2 := hc0 rfl
      subst hc2
      refine wpList_append_own_none hgd s x 105 ho B 3 i 1 Tryz.underlying105 hi v L.length _ hs hown hx ?_
      obtain ⟨A, cap, rfl⟩ := own_form hown
      have := h A cap w (by rw [List.append_nil]; exact hown) (World.grownBy.refl w _) (Below.refl _ _)
      rwa [List.append_nil] at this
    · exact key ad rfl (by intro j u hj; simp at hj)
  · refine key _ rfl fun j u hj => ?_
    have hjl : j < L2.length := by
      rcases Nat.lt_or_ge j L2.length with h | h
      · exact h
      · rw [List.getElem?_eq_none (by simpa using h)] at hj; cases hj
    rw [List.getElem?_map, List.getElem?_eq_getElem hjl] at hj
    obtain rfl := Option.some.inj hj
    rw [Addr.add_lit]
    exact hc j hjl


set_option maxHeartbeats 8000000 in
set_option maxRecDepth 100000 in
theorem refKids_yes (A : Option Addr) (cap : Nat) (L : List Sp) (n : Nat) (w : World) (hS : SpR w A cap L) (hn : L.length ≤ 1000000) (hl : n < L.length) (hid : (Tr.sp L n).id ≠ 0) :
    Calls Tryz.prog 113 #[.slice A L.length cap, .int .i64 (n : Int)] w fun e w' => ∃ v, e = .returned v ∧ IRow w' w.heap.size v (Tr.kids L n) ∧ Below w.heap.size w w' := by
  have HS := Stow.mk hS
  obtain ⟨b, off, rfl, hblt, _⟩ := hS.open (by simp; omega)
  have hsp := (span_at hS hl).c2
  rw [← Tr.sp_get hl] at hsp
  have HKK := Stow.mk (Tr.kids_kid hl hid)
  obtain ⟨id, hide⟩ : ∃ id, (Tr.sp L n).id = id := ⟨_, rfl⟩
  have HID := Stow.mk hide
  rw [hide] at hsp hid
  have hidi : ((id : Int) == 0) = false := by rw [beq_eq_false_iff_ne]; omega
  have hd : decide ((n : Int) < 0) = false := by simp
  have hd2 : decide (L.length ≤ n) = false := by simp; omega
  have hni : (n : Int) < L.length := by omega
  clear hS hide hid
  go_enter Tryz.func113, Tryz.ntmps113
  go_wp2_with fail
  go_loopw [5, 6] (fun v u wr => ∃ i : Nat, u = .int .i64 (i : Int) ∧ i ≤ L.length ∧ Stow (IRow wr w.heap.size v (Tr.kid L n i)) ∧ Below w.heap.size w wr) (fun _ u _ => L.length - (intOf u).toNat)
  case atStart => exact ⟨0, rfl, by omega, ⟨NRow.nil _ _ _ _⟩, Below.self _⟩
  case round =>
    obtain ⟨i, rfl, hi, HR, hbr⟩ := hrel
    have HBR := Stow.mk hbr
    have hsn := (span_at (HS.out.keep hbr) hl).c2
    rw [← Tr.sp_get hl, HID.out] at hsn
    clear hbr
    have hkl := Tr.kid_lt L n i
    have HKL := Stow.mk hkl.1
    have hkl2 := hkl.2
    clear hkl
    by_cases hlt : i < L.length
    · have hq3 := (span_at (HS.out.keep HBR.out) hlt).c3
      have hq6 := (span_at (HS.out.keep HBR.out) hlt).c6
      have hgt := Tr.sp_get hlt
      rw [← hgt] at hq3 hq6
      obtain ⟨s, hs⟩ : ∃ s, Tr.sp L i = s := ⟨_, rfl⟩
      rw [hs] at hq3 hq6
      have HSI := Stow.mk hs
      have hii : (i : Int) < L.length := by omega
      obtain ⟨r, hr⟩ : ∃ r, (s.up == id) = r := ⟨_, rfl⟩
      have hri : ((s.up : Int) != (id : Int)) = !r := by rw [← hr, Bool.eq_iff_iff]; simp; omega
      have HRE : Stow (((Tr.sp L i).up == (Tr.sp L n).id) = r) := ⟨by rw [HSI.out, HID.out]; exact hr⟩
      clear hs hr hgt
      obtain ⟨O, hO⟩ : ∃ O, Tr.kid L n i = O := ⟨_, rfl⟩
      have HO := Stow.mk hO
      rw [hO] at HR HKL hkl2
      clear hO
      obtain ⟨Ao, co, rfl⟩ := own_form HR.out
      cases r
      · have HN : Stow (Tr.kid L n (i + 1) = O) := ⟨by rw [Tr.kid_no HRE.out]; exact HO.out⟩
        simp only [Bool.not_false] at hri
        go_wp2_with fail
        go_quiet (fail)
        go_wp2_with fail
        exact ⟨⟨i + 1, rfl, by omega, ⟨by rw [HN.out]; exact IRow.drewN HR.out _⟩, Below.drewN' HBR.out _⟩, by simp [intOf]; omega⟩
      · have HN : Stow (Tr.kid L n (i + 1) = Tr.ins L i O) := ⟨by rw [Tr.kid_yes HRE.out, HO.out]⟩
        simp only [Bool.not_true] at hri
        go_wp2_with fail
        go_quiet (fail)
        go_wp2_with fail
        go_loopw [7] (fun u wi => ∃ k : Nat, u = .int .i64 (k : Int) ∧ k ≤ O.length ∧ Stow (∀ y ∈ O.take k, (Tr.sp L y).sq ≤ s.sq) ∧ ∃ nn, wi = wr.drewN nn) (fun u _ => O.length - (intOf u).toNat)
        case atStart => exact ⟨0, rfl, by omega, ⟨by simp⟩, _, rfl⟩
        case round =>
          obtain ⟨k, rfl, hk, HLE, nn, rfl⟩ := hrel
          by_cases hko : k < O.length
          · obtain ⟨g, rfl, hgl, _, p0⟩ := IRow.at_ HR.out hko
            obtain ⟨y, hy⟩ : ∃ y, O[k] = y := ⟨_, rfl⟩
            have hyL : y < L.length := by have := HKL.out y (hy ▸ List.getElem_mem hko); omega
            rw [hy] at p0
            have p6 := (span_at (HS.out.keep HBR.out) hyL).c6
            rw [← Tr.sp_get hyL] at p6
            obtain ⟨q, hq⟩ : ∃ q, (Tr.sp L y).sq = q := ⟨_, rfl⟩
            rw [hq] at p6
            have hki : (k : Int) < O.length := by omega
            have hyi : (y : Int) < L.length := by omega
            have hkd : decide (k < O.length) = true := by simpa using hko
            have hlO : O.length ≤ 1000000 := by omega
            by_cases hle : q ≤ s.sq
            · have hled : decide (q ≤ s.sq) = true := by simpa using hle
              have HLN : Stow (∀ z ∈ O.take (k + 1), (Tr.sp L z).sq ≤ s.sq) := ⟨fun z hz => by
                rw [List.take_succ_eq_append_getElem hko, hy] at hz
                rcases List.mem_append.1 hz with hz | hz
                · exact HLE.out z hz
                · simp at hz; subst hz; rw [hq]; exact hle⟩
              clear hq hy
              go_wp2_with fail
              go_quiet (fail)
              go_wp2_with fail
              exact ⟨⟨k + 1, rfl, by omega, HLN, _, rfl⟩, by simp [intOf]; omega⟩
            · have hled : decide (q ≤ s.sq) = false := by simpa using hle
              have HIN : Stow (Tr.ins L i O = O.take k ++ [i] ++ O.drop k) := ⟨Tr.ins_at hk (by rw [HSI.out]; exact HLE.out) (fun h => by rw [HSI.out]; show ¬ (Tr.sp L O[k]).sq ≤ _; rw [hy, hq]; exact hle)⟩
              clear hq hy
              go_wp2_with fail
              go_quiet (fail)
              generalize hWg : World.drewN (World.drewN wr nn) nq = W
              have HRW : Stow (IRow W w.heap.size (.slice (some (⟨g, 0, none⟩ : Addr)) O.length co) O) := ⟨hWg ▸ IRow.drewN (IRow.drewN HR.out _) _⟩
              have HBW : Stow (Below w.heap.size w W) := ⟨hWg ▸ Below.drewN' (Below.drewN' HBR.out _) _⟩
              clear hWg
              have HL1 : Stow (([] ++ O.take k).length = k) := ⟨by rw [List.nil_append, List.length_take]; omega⟩
              have HL2 : Stow (([] ++ O.take k ++ [i]).length = k + 1) := ⟨by rw [List.length_append, HL1.out]; rfl⟩
              have HL3 : Stow (([] ++ O.take k ++ [i] ++ O.drop k).length = (Tr.ins L i O).length ∧ [] ++ O.take k ++ [i] ++ O.drop k = Tr.ins L i O) := ⟨by rw [HIN.out]; simp, by rw [HIN.out]; simp⟩
              have K8 : Stow ((([] : List Nat).length + (O.take k).length) * 8 ≤ 140737488355328 ∧ (([] ++ O.take k).length + 1) * 8 ≤ 140737488355328 ∧ (([] ++ O.take k ++ [i]).length + (O.drop k).length) * 8 ≤ 140737488355328) := ⟨by simp only [List.length_nil, List.length_take]; omega, by rw [HL1.out]; omega, by rw [HL2.out, List.length_drop]; omega⟩
              have hOl : O.length ≤ co := by
                rcases HRW.out.2 with ⟨h1, h2⟩ | ⟨g2, cp, cur, hv, _, _, h1, _⟩
                · simp only [Value.slice.injEq] at h1; omega
                · simp only [Value.slice.injEq] at hv; omega
              have hkc : (k : Int) ≤ co := by omega
              have hk0 : (0 : Int) ≤ k := by omega
              have hkO : (k : Int) ≤ O.length := by omega
              have HS1 : Stow ((O.take k = [] ∧ ((some (⟨g, 0, none⟩ : Addr)) = none → co = 0)) ∨ ∃ gg off, (some (⟨g, 0, none⟩ : Addr)) = some ⟨gg, off, none⟩ ∧ ∀ j (h : j < (O.take k).length), W.cell? ⟨gg, off + j, none⟩ = some (.int .i64 ((O.take k)[j] : Nat))) := ⟨by
                by_cases hz : O.take k = []
                · refine .inl ⟨hz, fun hA => ?_⟩
                  rcases HRW.out.2 with ⟨h1, h2⟩ | ⟨g2, cp, cur, hv, _⟩
                  · simp only [Value.slice.injEq] at h1; exact h1.2.2
                  · simp only [Value.slice.injEq] at hv; rw [hA] at hv; cases hv.1
                · right
                  have hpos : 0 < O.length := by
                    rcases Nat.eq_zero_or_pos O.length with h | h
                    · exact absurd (by rw [List.eq_nil_of_length_eq_zero h]; simp) hz
                    · exact h
                  obtain ⟨g0, hA, _⟩ := IRow.at_ HRW.out hpos
                  refine ⟨g0, 0, hA, fun j hj => ?_⟩
                  rw [List.length_take] at hj
                  obtain ⟨g1, hA', _, _, hc⟩ := IRow.at_ HRW.out (show j < O.length by omega)
                  rw [hA] at hA'
                  simp only [Option.some.injEq, Addr.mk.injEq] at hA'
                  obtain ⟨rfl, _, _⟩ := hA'
                  rw [Nat.zero_add, hc, List.getElem_take]⟩
              have HS2 : Stow (∀ w3, Below W.heap.size W w3 → ∀ A3 c3, (A3 = (some (⟨g, 0, none⟩ : Addr)) ∧ co = k ∧ c3 = 0) ∨ (A3 = Option.map (fun a : Addr => (⟨a.block, a.off + k, a.spot⟩ : Addr)) (some (⟨g, 0, none⟩ : Addr)) ∧ c3 = co - k) → (O.drop k = [] ∧ (A3 = none → c3 = 0)) ∨ ∃ gg off, A3 = some ⟨gg, off, none⟩ ∧ ∀ j (h : j < (O.drop k).length), w3.cell? ⟨gg, off + j, none⟩ = some (.int .i64 ((O.drop k)[j] : Nat))) := ⟨by
                intro w3 hb3 A3 c3 hA
                by_cases hz : O.drop k = []
                · refine .inl ⟨hz, fun hn => ?_⟩
                  rcases hA with ⟨_, _, h⟩ | ⟨h1, h2⟩
                  · exact h
                  · rw [hn] at h1
                    rcases HRW.out.2 with ⟨h3, _⟩ | ⟨g2, cp, cur, hv, _⟩
                    · simp only [Value.slice.injEq] at h3; omega
                    · simp only [Value.slice.injEq] at hv
                      rw [hv.1] at h1; cases h1
                · right
                  have hpos : k < O.length := by
                    rcases Nat.lt_or_ge k O.length with h | h
                    · exact h
                    · exact absurd (List.drop_eq_nil_of_le h) hz
                  rcases hA with ⟨_, h, _⟩ | ⟨h1, _⟩
                  · omega
                  · obtain ⟨g0, hA', _⟩ := IRow.at_ (IRow.keep HRW.out hb3) hpos
                    rw [hA'] at h1
                    refine ⟨g0, 0 + k, h1, fun j hj => ?_⟩
                    rw [List.length_drop] at hj
                    obtain ⟨g1, hA2, _, _, hc⟩ := IRow.at_ (IRow.keep HRW.out hb3) (show k + j < O.length by omega)
                    rw [hA'] at hA2
                    simp only [Option.some.injEq, Addr.mk.injEq] at hA2
                    obtain ⟨rfl, _, _⟩ := hA2
                    rw [Nat.zero_add, hc, List.getElem_drop]⟩
              have hnk : O.length - k + k = O.length := by omega
              have HDL : Stow (O.length - k = (O.drop k).length) := ⟨by rw [List.length_drop]⟩
              by_cases hck : co = k
              · (try (exfalso; omega))
                all_goals
                  subst hck
                  have HA3 := Stow.mk (fun w3 h3 => HS2.out w3 h3 (some (⟨g, 0, none⟩ : Addr)) 0 (.inl ⟨rfl, rfl, rfl⟩))
                  have HDZ : Stow (0 = (O.drop co).length) := ⟨by rw [List.length_drop]; omega⟩
                  clear HS2 hnk
                  go_wp2_with (first
                    | (at_builtin; refine wpList_append_win (NRow.nil _ _ W.heap.size _) (O.take co) (some (⟨g, 0, none⟩ : Addr)) co co (by rw [List.length_take]; omega) HS1.out rfl (.tmp 64) (.tmp 67) rfl rfl rfl K8.out.1 (Nat.le_refl _) ?_; intro A9 c9 w2 h9 _ hb9; rw [HL1.out] at h9 ⊢; have H9 := Stow.mk (And.intro h9 hb9); clear h9 hb9)
                    | (at_builtin; refine wpList_append_int H9.out.1 i rfl (.tmp 69) (.tmp 71) 105 rfl Tryz.underlying105 info_int rfl _ rfl rfl K8.out.2.1 H9.out.2.size ?_; intro A8 c8 w3 h8 _ hb8 _; rw [HL1.out] at h8 ⊢; have H8 := Stow.mk (And.intro h8 (H9.out.2.trans hb8)); clear h8 hb8)
                    | (at_builtin; refine wpList_append_win H8.out.1 (O.drop co) (some (⟨g, 0, none⟩ : Addr)) (O.length - co) 0 HDL.out (HA3.out _ H8.out.2) rfl (.tmp 73) (.tmp 76) rfl rfl rfl K8.out.2.2 H8.out.2.size ?_; intro A7 c7 w4 h7 _ hb7; rw [HL3.out.1] at h7 ⊢; have H7 := Stow.mk (And.intro h7 (H8.out.2.trans hb7)); clear h7 hb7)
                    | (at_builtin; refine wpList_append_win H8.out.1 (O.drop co) (some (⟨g, 0, none⟩ : Addr)) 0 0 HDZ.out (HA3.out _ H8.out.2) rfl (.tmp 73) (.tmp 76) rfl rfl rfl K8.out.2.2 H8.out.2.size ?_; intro A7 c7 w4 h7 _ hb7; rw [HL3.out.1] at h7 ⊢; have H7 := Stow.mk (And.intro h7 (H8.out.2.trans hb7)); clear h7 hb7))
                  exact ⟨⟨i + 1, rfl, by omega, ⟨by rw [HN.out]; have h := H7.out.1; rw [HL3.out.2] at h; exact IRow.lower h HBW.out.size⟩, HBW.out.trans (H7.out.2.mono HBW.out.size)⟩, by simp [intOf]; omega⟩
              · have HA3 := Stow.mk (fun w3 h3 => HS2.out w3 h3 (some ⟨g, k, none⟩) (co - k) (.inr ⟨by simp, rfl⟩))
                clear HS2 hnk
                go_wp2_with (first
                  | (at_builtin; refine wpList_append_win (NRow.nil _ _ W.heap.size _) (O.take k) (some (⟨g, 0, none⟩ : Addr)) k co (by rw [List.length_take]; omega) HS1.out rfl (.tmp 64) (.tmp 67) rfl rfl rfl K8.out.1 (Nat.le_refl _) ?_; intro A9 c9 w2 h9 _ hb9; rw [HL1.out] at h9 ⊢; have H9 := Stow.mk (And.intro h9 hb9); clear h9 hb9)
                  | (at_builtin; refine wpList_append_int H9.out.1 i rfl (.tmp 69) (.tmp 71) 105 rfl Tryz.underlying105 info_int rfl _ rfl rfl K8.out.2.1 H9.out.2.size ?_; intro A8 c8 w3 h8 _ hb8 _; rw [HL1.out] at h8 ⊢; have H8 := Stow.mk (And.intro h8 (H9.out.2.trans hb8)); clear h8 hb8)
                  | (at_builtin; refine wpList_append_win H8.out.1 (O.drop k) (some ⟨g, k, none⟩) (O.length - k) (co - k) HDL.out (HA3.out _ H8.out.2) rfl (.tmp 73) (.tmp 76) rfl rfl rfl K8.out.2.2 H8.out.2.size ?_; intro A7 c7 w4 h7 _ hb7; rw [HL3.out.1] at h7 ⊢; have H7 := Stow.mk (And.intro h7 (H8.out.2.trans hb7)); clear h7 hb7))
                exact ⟨⟨i + 1, rfl, by omega, ⟨by rw [HN.out]; have h := H7.out.1; rw [HL3.out.2] at h; exact IRow.lower h HBW.out.size⟩, HBW.out.trans (H7.out.2.mono HBW.out.size)⟩, by simp [intOf]; omega⟩
          · have hkd : decide (k < O.length) = false := by simp; omega
            have HIN : Stow (Tr.ins L i O = O.take k ++ [i] ++ O.drop k) := ⟨Tr.ins_at hk (by rw [HSI.out]; exact HLE.out) (fun h => absurd h hko)⟩
            have hlO : O.length ≤ 1000000 := by omega
            rcases HR.out.2 with ⟨hv, h0⟩ | ⟨g, cp, cur, hv, _⟩
            · simp only [Value.slice.injEq] at hv
              obtain ⟨rfl, _, rfl⟩ := hv
              obtain rfl := List.eq_nil_of_length_eq_zero h0
              obtain rfl : k = 0 := by simpa using hk
              have HIE : Stow (Tr.ins L i [] = [i]) := ⟨rfl⟩
              go_wp2_with fail
              go_quiet (fail)
              generalize hWg : World.drewN (World.drewN wr nn) nq = W
              have HBW : Stow (Below w.heap.size w W) := ⟨hWg ▸ Below.drewN' (Below.drewN' HBR.out _) _⟩
              clear hWg
              go_wp2_with (first
                | (at_builtin; refine wpList_append_int (NRow.nil _ W W.heap.size _) i rfl (.tmp 69) (.tmp 71) 105 rfl Tryz.underlying105 info_int rfl _ rfl rfl (by decide) (Nat.le_refl _) ?_; intro A8 c8 w3 h8 _ hb8 _; have H8 := Stow.mk (And.intro h8 hb8); clear h8 hb8)
                | (at_builtin; refine wpList_append_win H8.out.1 [] none 0 0 rfl (.inl ⟨rfl, fun _ => rfl⟩) rfl (.tmp 73) (.tmp 76) rfl rfl rfl (by simp) H8.out.2.size ?_; intro A7 c7 w4 h7 _ hb7; have H7 := Stow.mk (And.intro h7 (H8.out.2.trans hb7)); clear h7 hb7))
              exact ⟨⟨i + 1, rfl, by omega, ⟨by rw [HN.out, HIE.out]; exact IRow.lower H7.out.1 HBW.out.size⟩, HBW.out.trans (H7.out.2.mono HBW.out.size)⟩, by simp [intOf]; omega⟩
            · simp only [Value.slice.injEq] at hv
              obtain ⟨rfl, _, rfl⟩ := hv
              go_wp2_with fail
              go_quiet (fail)
              generalize hWg : World.drewN (World.drewN wr nn) nq = W
              have HRW : Stow (IRow W w.heap.size (.slice (some (⟨g, 0, none⟩ : Addr)) O.length co) O) := ⟨hWg ▸ IRow.drewN (IRow.drewN HR.out _) _⟩
              have HBW : Stow (Below w.heap.size w W) := ⟨hWg ▸ Below.drewN' (Below.drewN' HBR.out _) _⟩
              clear hWg
              have HL1 : Stow (([] ++ O.take k).length = k) := ⟨by rw [List.nil_append, List.length_take]; omega⟩
              have HL2 : Stow (([] ++ O.take k ++ [i]).length = k + 1) := ⟨by rw [List.length_append, HL1.out]; rfl⟩
              have HL3 : Stow (([] ++ O.take k ++ [i] ++ O.drop k).length = (Tr.ins L i O).length ∧ [] ++ O.take k ++ [i] ++ O.drop k = Tr.ins L i O) := ⟨by rw [HIN.out]; simp, by rw [HIN.out]; simp⟩
              have K8 : Stow ((([] : List Nat).length + (O.take k).length) * 8 ≤ 140737488355328 ∧ (([] ++ O.take k).length + 1) * 8 ≤ 140737488355328 ∧ (([] ++ O.take k ++ [i]).length + (O.drop k).length) * 8 ≤ 140737488355328) := ⟨by simp only [List.length_nil, List.length_take]; omega, by rw [HL1.out]; omega, by rw [HL2.out, List.length_drop]; omega⟩
              have hOl : O.length ≤ co := by
                rcases HRW.out.2 with ⟨h1, h2⟩ | ⟨g2, cp, cur, hv, _, _, h1, _⟩
                · simp only [Value.slice.injEq] at h1; omega
                · simp only [Value.slice.injEq] at hv; omega
              have hkc : (k : Int) ≤ co := by omega
              have hk0 : (0 : Int) ≤ k := by omega
              have hkO : (k : Int) ≤ O.length := by omega
              have HS1 : Stow ((O.take k = [] ∧ ((some (⟨g, 0, none⟩ : Addr)) = none → co = 0)) ∨ ∃ gg off, (some (⟨g, 0, none⟩ : Addr)) = some ⟨gg, off, none⟩ ∧ ∀ j (h : j < (O.take k).length), W.cell? ⟨gg, off + j, none⟩ = some (.int .i64 ((O.take k)[j] : Nat))) := ⟨by
                by_cases hz : O.take k = []
                · refine .inl ⟨hz, fun hA => ?_⟩
                  rcases HRW.out.2 with ⟨h1, h2⟩ | ⟨g2, cp, cur, hv, _⟩
                  · simp only [Value.slice.injEq] at h1; exact h1.2.2
                  · simp only [Value.slice.injEq] at hv; rw [hA] at hv; cases hv.1
                · right
                  have hpos : 0 < O.length := by
                    rcases Nat.eq_zero_or_pos O.length with h | h
                    · exact absurd (by rw [List.eq_nil_of_length_eq_zero h]; simp) hz
                    · exact h
                  obtain ⟨g0, hA, _⟩ := IRow.at_ HRW.out hpos
                  refine ⟨g0, 0, hA, fun j hj => ?_⟩
                  rw [List.length_take] at hj
                  obtain ⟨g1, hA', _, _, hc⟩ := IRow.at_ HRW.out (show j < O.length by omega)
                  rw [hA] at hA'
                  simp only [Option.some.injEq, Addr.mk.injEq] at hA'
                  obtain ⟨rfl, _, _⟩ := hA'
                  rw [Nat.zero_add, hc, List.getElem_take]⟩
              have HS2 : Stow (∀ w3, Below W.heap.size W w3 → ∀ A3 c3, (A3 = (some (⟨g, 0, none⟩ : Addr)) ∧ co = k ∧ c3 = 0) ∨ (A3 = Option.map (fun a : Addr => (⟨a.block, a.off + k, a.spot⟩ : Addr)) (some (⟨g, 0, none⟩ : Addr)) ∧ c3 = co - k) → (O.drop k = [] ∧ (A3 = none → c3 = 0)) ∨ ∃ gg off, A3 = some ⟨gg, off, none⟩ ∧ ∀ j (h : j < (O.drop k).length), w3.cell? ⟨gg, off + j, none⟩ = some (.int .i64 ((O.drop k)[j] : Nat))) := ⟨by
                intro w3 hb3 A3 c3 hA
                by_cases hz : O.drop k = []
                · refine .inl ⟨hz, fun hn => ?_⟩
                  rcases hA with ⟨_, _, h⟩ | ⟨h1, h2⟩
                  · exact h
                  · rw [hn] at h1
                    rcases HRW.out.2 with ⟨h3, _⟩ | ⟨g2, cp, cur, hv, _⟩
                    · simp only [Value.slice.injEq] at h3; omega
                    · simp only [Value.slice.injEq] at hv
                      rw [hv.1] at h1; cases h1
                · right
                  have hpos : k < O.length := by
                    rcases Nat.lt_or_ge k O.length with h | h
                    · exact h
                    · exact absurd (List.drop_eq_nil_of_le h) hz
                  rcases hA with ⟨_, h, _⟩ | ⟨h1, _⟩
                  · omega
                  · obtain ⟨g0, hA', _⟩ := IRow.at_ (IRow.keep HRW.out hb3) hpos
                    rw [hA'] at h1
                    refine ⟨g0, 0 + k, h1, fun j hj => ?_⟩
                    rw [List.length_drop] at hj
                    obtain ⟨g1, hA2, _, _, hc⟩ := IRow.at_ (IRow.keep HRW.out hb3) (show k + j < O.length by omega)
                    rw [hA'] at hA2
                    simp only [Option.some.injEq, Addr.mk.injEq] at hA2
                    obtain ⟨rfl, _, _⟩ := hA2
                    rw [Nat.zero_add, hc, List.getElem_drop]⟩
              have hnk : O.length - k + k = O.length := by omega
              have HDL : Stow (O.length - k = (O.drop k).length) := ⟨by rw [List.length_drop]⟩
              by_cases hck : co = k
              · (try (exfalso; omega))
                all_goals
                  subst hck
                  have HA3 := Stow.mk (fun w3 h3 => HS2.out w3 h3 (some (⟨g, 0, none⟩ : Addr)) 0 (.inl ⟨rfl, rfl, rfl⟩))
                  have HDZ : Stow (0 = (O.drop co).length) := ⟨by rw [List.length_drop]; omega⟩
                  clear HS2 hnk
                  go_wp2_with (first
                    | (at_builtin; refine wpList_append_win (NRow.nil _ _ W.heap.size _) (O.take co) (some (⟨g, 0, none⟩ : Addr)) co co (by rw [List.length_take]; omega) HS1.out rfl (.tmp 64) (.tmp 67) rfl rfl rfl K8.out.1 (Nat.le_refl _) ?_; intro A9 c9 w2 h9 _ hb9; rw [HL1.out] at h9 ⊢; have H9 := Stow.mk (And.intro h9 hb9); clear h9 hb9)
                    | (at_builtin; refine wpList_append_int H9.out.1 i rfl (.tmp 69) (.tmp 71) 105 rfl Tryz.underlying105 info_int rfl _ rfl rfl K8.out.2.1 H9.out.2.size ?_; intro A8 c8 w3 h8 _ hb8 _; rw [HL1.out] at h8 ⊢; have H8 := Stow.mk (And.intro h8 (H9.out.2.trans hb8)); clear h8 hb8)
                    | (at_builtin; refine wpList_append_win H8.out.1 (O.drop co) (some (⟨g, 0, none⟩ : Addr)) (O.length - co) 0 HDL.out (HA3.out _ H8.out.2) rfl (.tmp 73) (.tmp 76) rfl rfl rfl K8.out.2.2 H8.out.2.size ?_; intro A7 c7 w4 h7 _ hb7; rw [HL3.out.1] at h7 ⊢; have H7 := Stow.mk (And.intro h7 (H8.out.2.trans hb7)); clear h7 hb7)
                    | (at_builtin; refine wpList_append_win H8.out.1 (O.drop co) (some (⟨g, 0, none⟩ : Addr)) 0 0 HDZ.out (HA3.out _ H8.out.2) rfl (.tmp 73) (.tmp 76) rfl rfl rfl K8.out.2.2 H8.out.2.size ?_; intro A7 c7 w4 h7 _ hb7; rw [HL3.out.1] at h7 ⊢; have H7 := Stow.mk (And.intro h7 (H8.out.2.trans hb7)); clear h7 hb7))
                  exact ⟨⟨i + 1, rfl, by omega, ⟨by rw [HN.out]; have h := H7.out.1; rw [HL3.out.2] at h; exact IRow.lower h HBW.out.size⟩, HBW.out.trans (H7.out.2.mono HBW.out.size)⟩, by simp [intOf]; omega⟩
              · have HA3 := Stow.mk (fun w3 h3 => HS2.out w3 h3 (some ⟨g, k, none⟩) (co - k) (.inr ⟨by simp, rfl⟩))
                clear HS2 hnk
                go_wp2_with (first
                  | (at_builtin; refine wpList_append_win (NRow.nil _ _ W.heap.size _) (O.take k) (some (⟨g, 0, none⟩ : Addr)) k co (by rw [List.length_take]; omega) HS1.out rfl (.tmp 64) (.tmp 67) rfl rfl rfl K8.out.1 (Nat.le_refl _) ?_; intro A9 c9 w2 h9 _ hb9; rw [HL1.out] at h9 ⊢; have H9 := Stow.mk (And.intro h9 hb9); clear h9 hb9)
                  | (at_builtin; refine wpList_append_int H9.out.1 i rfl (.tmp 69) (.tmp 71) 105 rfl Tryz.underlying105 info_int rfl _ rfl rfl K8.out.2.1 H9.out.2.size ?_; intro A8 c8 w3 h8 _ hb8 _; rw [HL1.out] at h8 ⊢; have H8 := Stow.mk (And.intro h8 (H9.out.2.trans hb8)); clear h8 hb8)
                  | (at_builtin; refine wpList_append_win H8.out.1 (O.drop k) (some ⟨g, k, none⟩) (O.length - k) (co - k) HDL.out (HA3.out _ H8.out.2) rfl (.tmp 73) (.tmp 76) rfl rfl rfl K8.out.2.2 H8.out.2.size ?_; intro A7 c7 w4 h7 _ hb7; rw [HL3.out.1] at h7 ⊢; have H7 := Stow.mk (And.intro h7 (H8.out.2.trans hb7)); clear h7 hb7))
                exact ⟨⟨i + 1, rfl, by omega, ⟨by rw [HN.out]; have h := H7.out.1; rw [HL3.out.2] at h; exact IRow.lower h HBW.out.size⟩, HBW.out.trans (H7.out.2.mono HBW.out.size)⟩, by simp [intOf]; omega⟩
    · obtain rfl : i = L.length := by omega
      have hni : ¬ (L.length : Int) < L.length := by omega
      obtain ⟨Ao, co, rfl⟩ := own_form HR.out
      go_wp2_with fail
      go_ret
      exact ⟨_, rfl, by rw [HKK.out]; exact HR.out, HBR.out⟩

set_option maxHeartbeats 2000000 in
set_option maxRecDepth 100000 in
theorem refKids_no (A : Option Addr) (cap : Nat) (L : List Sp) (at_ : Int) (w : World) (hS : SpR w A cap L) (hn : L.length ≤ 1000000) (h : at_ < 0 ∨ (L.length : Int) ≤ at_ ∨ ∃ n : Nat, at_ = n ∧ n < L.length ∧ (Tr.sp L n).id = 0) :
    Calls Tryz.prog 113 #[.slice A L.length cap, .int .i64 at_] w fun e w' => e = .returned (.slice none 0 0) ∧ Below w.heap.size w w' := by
  have HM := Stow.mk (Below.self w)
  rcases h with h | h | ⟨n, rfl, hl, hid⟩
  · have hd : decide (at_ < 0) = true := by simp; exact h
    go_enter Tryz.func113, Tryz.ntmps113
    go_wp2_with fail
    go_ret
    exact ⟨rfl, HM.out⟩
  · have hd : decide (at_ < 0) = false := by simp; omega
    have hd2 : decide ((L.length : Int) ≤ at_) = true := by simp; exact h
    go_enter Tryz.func113, Tryz.ntmps113
    go_wp2_with fail
    go_ret
    exact ⟨rfl, HM.out⟩
  · obtain ⟨b, off, rfl, hblt, _⟩ := hS.open (by simp; omega)
    have hsp := (span_at hS hl).c2
    rw [← Tr.sp_get hl, hid] at hsp
    have hd : decide ((n : Int) < 0) = false := by simp
    have hd2 : decide (L.length ≤ n) = false := by simp; omega
    have hni : (n : Int) < L.length := by omega
    clear hS
    go_enter Tryz.func113, Tryz.ntmps113
    go_wp2_with fail
    go_ret
    exact ⟨rfl, HM.out⟩

/-- The kids of any place, be it none. -/
def Tr.kidsI (L : List Sp) (a : Int) : List Nat := if a < 0 then [] else Tr.kids L a.toNat
theorem Tr.kidsI_no {L : List Sp} {a : Int} (h : ¬ (∃ n : Nat, a = n ∧ n < L.length ∧ (Tr.sp L n).id ≠ 0)) : Tr.kidsI L a = [] ∧ (a < 0 ∨ (L.length : Int) ≤ a ∨ ∃ n : Nat, a = n ∧ n < L.length ∧ (Tr.sp L n).id = 0) := by
  by_cases ha : a < 0
  · exact ⟨by unfold Tr.kidsI; rw [if_pos ha], .inl ha⟩
  · obtain ⟨n, rfl⟩ : ∃ n : Nat, a = n := ⟨a.toNat, by omega⟩
    refine ⟨?_, ?_⟩
    · unfold Tr.kidsI Tr.kids
      rw [if_neg ha, if_neg]
      intro hc
      exact h ⟨n, rfl, by simpa using hc.1, by simpa using hc.2⟩
    · by_cases h1 : n < L.length
      · exact .inr (.inr ⟨n, rfl, h1, by by_cases h2 : (Tr.sp L n).id = 0; exact h2; exact absurd ⟨n, rfl, h1, h2⟩ h⟩)
      · exact .inr (.inl (by omega))
theorem Tr.kidsI_yes {L : List Sp} (n : Nat) : Tr.kidsI L n = Tr.kids L n := by
  unfold Tr.kidsI
  rw [if_neg (by omega)]
  rfl
theorem refKids_at (A : Option Addr) (cap : Nat) (L : List Sp) (a : Int) (w : World) (hS : SpR w A cap L) (hn : L.length ≤ 1000000) :
    Calls Tryz.prog 113 #[.slice A L.length cap, .int .i64 a] w fun e w' => ∃ v, e = .returned v ∧ IRow w' w.heap.size v (Tr.kidsI L a) ∧ Below w.heap.size w w' := by
  by_cases h : ∃ n : Nat, a = n ∧ n < L.length ∧ (Tr.sp L n).id ≠ 0
  · obtain ⟨n, rfl, h1, h2⟩ := h
    rw [Tr.kidsI_yes]
    exact refKids_yes A cap L n w hS hn h1 h2
  · obtain ⟨hk, hc⟩ := Tr.kidsI_no h
    exact (refKids_no A cap L a w hS hn hc).mono fun e w' ⟨he, hb⟩ => ⟨_, he, by rw [hk]; exact NRow.nil _ _ _ _, hb⟩
theorem trKids_at (A : Option Addr) (cap : Nat) (L : List Sp) (a : Int) (w : World) (hS : SpR w A cap L) (hn : L.length ≤ 1000000) :
    Calls Tryz.prog 141 #[.slice A L.length cap, .int .i64 a] w fun e w' => ∃ v, e = .returned v ∧ IRow w' w.heap.size v (Tr.kidsI L a) ∧ Below w.heap.size w w' := by
  by_cases h : ∃ n : Nat, a = n ∧ n < L.length ∧ (Tr.sp L n).id ≠ 0
  · obtain ⟨n, rfl, h1, h2⟩ := h
    rw [Tr.kidsI_yes]
    exact trKids_yes A cap L n w hS hn h1 h2
  · obtain ⟨hk, hc⟩ := Tr.kidsI_no h
    exact (trKids_no A cap L a w hS hn hc).mono fun e w' ⟨he, hb⟩ => ⟨_, he, by rw [hk]; exact NRow.nil _ _ _ _, hb⟩
end Go.Proofs.YtfbhdkkmcfnghaaGreat
end
