/- Walk of dedup.Fresh. Condition: windows as they come of numbers.; Walks of the reference's In, Ints, at, Has, with, Same. Condition: slices' own.; Walks of the reference's Same and Fresh. Condition: windows as they come of numbers. -/
import Derived.Test.YtfbhdkkmcfnghaaGreatM34
import Derived.Laws.AppendOwnNone

section
namespace Go.Proofs.YtfbhdkkmcfnghaaGreat
open Go.RowKit Go.Lib Go.Sort
set_option linter.unusedVariables false

theorem flat_set {q : Wm} : ∀ {R : List Wm} {i : Nat}, i < R.length → (((R.flatMap Wm.cells).set (i * 3) (.int .i64 q.w.n)).set (i * 3 + 1) (.int .i64 q.w.h)).set (i * 3 + 2) (.slice q.A q.w.s.length q.cap) = (R.set i q).flatMap Wm.cells
  | [], i, h => by simp at h
  | p :: t, 0, _ => by simp [Wm.cells]
  | p :: t, i + 1, h => by
    have ih := flat_set (q := q) (R := t) (i := i) (by simpa using h)
    simp only [List.set_cons_succ, List.flatMap_cons]
    rw [← ih]
    have e0 : (i + 1) * 3 = i * 3 + 3 := by omega
    rw [e0, show i * 3 + 3 + 1 = i * 3 + 1 + 3 by omega, show i * 3 + 3 + 2 = i * 3 + 2 + 3 by omega]
    rfl

theorem own_set {w1 w2 : World} {B g0 c gi g' i : Nat} {R : List Wm} (h : OwnW w1 B (.slice (some ⟨g0, 0, none⟩) R.length c) R) (hi : i < R.length) (hgi : R[i].v.ownBlock = some gi) (ho : Only gi w1 w2) (q : Wm)
    (hq : SlR w2 1 q.v (q.w.s.map ic)) (hqA : q.A = some ⟨g', 0, none⟩) (hqg : g' ≠ g0) :
    WinR (((w2.setCell ⟨g0, i * 3, none⟩ (.int .i64 q.w.n)).setCell ⟨g0, i * 3 + 1, none⟩ (.int .i64 q.w.h)).setCell ⟨g0, i * 3 + 2, none⟩ (.slice q.A q.w.s.length q.cap)) (.slice (some ⟨g0, 0, none⟩) R.length c) (R.set i q) := by
  have hoff := h.off _ (List.getElem_mem hi)
  rw [hgi] at hoff
  have hg0 : g0 ≠ gi := fun e => hoff (by rw [e]; rfl)
  have hrow : w2.ownsRow B 113 3 (.slice (some ⟨g0, 0, none⟩) R.length c) R.length (R.flatMap Wm.cells) := h.row.only ho (by simp [Value.ownBlock]; exact hg0)
  have s0 := (World.ownsRow.stored hrow (i * 3) (.int .i64 q.w.n)).1
  have s1 := (World.ownsRow.stored s0 (i * 3 + 1) (.int .i64 q.w.h)).1
  have s2 := (World.ownsRow.stored s1 (i * 3 + 2) (.slice q.A q.w.s.length q.cap)).1
  rw [flat_set hi] at s2
  have hr : WRow (((w2.setCell ⟨g0, i * 3, none⟩ (.int .i64 q.w.n)).setCell ⟨g0, i * 3 + 1, none⟩ (.int .i64 q.w.h)).setCell ⟨g0, i * 3 + 2, none⟩ (.slice q.A q.w.s.length q.cap)) B (.slice (some ⟨g0, 0, none⟩) R.length c) (R.set i q) := by
    unfold WRow
    rw [List.length_set]
    exact s2
  refine ⟨hr.slr, fun p hp => ?_, fun e => ?_⟩
  · obtain ⟨j, hj, rfl⟩ := List.getElem_of_mem hp
    rw [List.length_set] at hj
    rw [List.getElem_set]
    split
    · unfold Wm.v at *
      rw [hqA] at hq ⊢
      exact ((hq.only (Only.set _ _ _ _) hqg).only (Only.set _ _ _ _) hqg).only (Only.set _ _ _ _) hqg
    · rename_i hne
      have hne1 : R[j].v.ownBlock ≠ some gi := by
        rw [← hgi]
        rcases Nat.lt_or_gt_of_ne hne with hlt | hlt
        · exact fun e => List.pairwise_iff_getElem.1 h.apart i j hi hj hlt e.symm
        · exact List.pairwise_iff_getElem.1 h.apart j i hj hi hlt
      have hne0 : R[j].v.ownBlock ≠ some g0 := h.off _ (List.getElem_mem hj)
      exact (((((h.ints _ (List.getElem_mem hj)).only ho hne1).only (Only.set _ _ _ _) hne0).only (Only.set _ _ _ _) hne0).only (Only.set _ _ _ _) hne0).slr
  · have := congrArg List.length e
    simp at this
    subst this
    simp at hi

theorem Dd.fresh_bad {L : List Wi} {node x : Int} (h : Dd.bad node x = true) : Dd.fresh L node x = (L, false) := by
  unfold Dd.fresh; rw [if_pos h]
theorem Dd.fresh_new {L : List Wi} {node x : Int} (h : Dd.bad node x = false) (hp : Dd.pl L node = none) : Dd.fresh L node x = (L ++ [⟨node, x, [x]⟩], true) := by
  unfold Dd.fresh; rw [if_neg (by simp [h]), hp]
theorem Dd.fresh_at {L : List Wi} {node x : Int} {i : Nat} (h : Dd.bad node x = false) (hp : Dd.pl L node = some i) (hi : i < L.length) : Dd.fresh L node x = match Dd.step L[i] x with | none => (L, false) | some w' => (L.set i w', true) := by
  unfold Dd.fresh; rw [if_neg (by simp [h]), hp]
  simp only [List.getElem?_eq_getElem hi]
  cases Dd.step L[i] x <;> rfl
theorem wis_set (R : List Wm) (i : Nat) (q : Wm) : wis (R.set i q) = (wis R).set i q.w := List.map_set
theorem bad_cases {node x : Int} (h : Dd.bad node x = true) : node < 0 ∨ (¬ node < 0 ∧ 8 ≤ node) ∨ (¬ node < 0 ∧ ¬ 8 ≤ node ∧ x < 0) ∨ (¬ node < 0 ∧ ¬ 8 ≤ node ∧ ¬ x < 0 ∧ 1099511627776 < x) := by
  simp [Dd.bad] at h
  omega

/-- What Fresh leaves. -/
def FreshOf (w : World) (L : List Wi) (node x : Int) (e : Ending) (w' : World) : Prop :=
  ∃ v' R', e = .returned (.tuple #[v', .bool (Dd.fresh L node x).2]) ∧ wis R' = (Dd.fresh L node x).1 ∧ WinR w' v' R' ∧ Below w.heap.size w w'

/-- All blocks are new. -/
def NewW (B : Nat) (v : Value) (R : List Wm) : Prop := (∀ a n c, v = .slice (some a) n c → B ≤ a.block) ∧ ∀ p ∈ R, ∀ a, p.A = some a → B ≤ a.block
theorem row_new {w : World} {B : Nat} {e : TypeId} {size n : Nat} {v : Value} {xs : List Value} (h : w.ownsRow B e size v n xs) (a : Addr) (n' c : Nat) (hv : v = .slice (some a) n' c) : B ≤ a.block := by
  subst hv
  exact (World.ownsRow.lt h a.block rfl).1
theorem OwnW.new {w : World} {B : Nat} {v : Value} {R : List Wm} (h : OwnW w B v R) : NewW B v R := ⟨row_new h.row, fun p hp a ha => row_new (h.ints p hp) a p.w.s.length p.cap (by unfold Wm.v; rw [ha])⟩
theorem NewW.set {B i : Nat} {v : Value} {R : List Wm} (h : NewW B v R) (q : Wm) (hq : ∀ a, q.A = some a → B ≤ a.block) : NewW B v (R.set i q) := ⟨h.1, fun p hp => by
  rcases List.mem_or_eq_of_mem_set hp with hp | rfl
  · exact h.2 p hp
  · exact hq⟩
/-- What the code's Fresh leaves. -/
def FreshNew (w : World) (L : List Wi) (node x : Int) (e : Ending) (w' : World) : Prop :=
  ∃ v' R', e = .returned (.tuple #[v', .bool (Dd.fresh L node x).2]) ∧ wis R' = (Dd.fresh L node x).1 ∧ WinR w' v' R' ∧ Below w.heap.size w w' ∧ NewW w.heap.size v' R'

set_option maxHeartbeats 2000000 in
set_option maxRecDepth 100000 in
theorem ddFresh_any (node x : Int) (v : Value) (R : List Wm) (w : World) (hW : WinR w v R) (hok : Dd.Ok (wis R)) :
    Calls Tryz.prog 52 #[v, .int .i64 node, .int .i64 x] w (FreshNew w (wis R) node x) := by
  have HW := Stow.mk hW
  have HOK := Stow.mk hok
  have hvf : ∃ A c, v = .slice A R.length c := by
    obtain ⟨A, c, h, _⟩ := hW.row.form
    rw [List.length_map] at h
    exact ⟨A, c, h⟩
  clear hW hok
  by_cases hbad : Dd.bad node x = true
  · have HF := Stow.mk (Dd.fresh_bad (L := wis R) hbad)
    rcases bad_cases hbad with h1 | ⟨h1, h2⟩ | ⟨h1, h2, h3⟩ | ⟨h1, h2, h3, h4⟩
    all_goals
      obtain ⟨A, c, rfl⟩ := hvf
      clear hbad
      go_enter Tryz.func52, Tryz.ntmps52
      go_wp2_with fail
      refine (ddCopied_any _ R _ HW.out HOK.out).mono ?_
      rintro e w1 ⟨v1, R1, rfl, hwis, hown, hb1⟩
      have HO := Stow.mk hown
      have HWI := Stow.mk hwis
      have HB := Stow.mk hb1
      obtain ⟨A1, c1, hv1, _⟩ := hown.row.slr.form
      rw [List.length_map] at hv1
      subst hv1
      clear hown hwis hb1
      go_wp2_with fail
      go_ret2
      refine ⟨_, R1, ?_, ?_, HO.out.win, HB.out, HO.out.new⟩
      · rw [HF.out]; rfl
      · rw [HF.out, HWI.out]
  have hbf : Dd.bad node x = false := by simpa using hbad
  obtain ⟨n0, n8, x0, x1⟩ := Dd.bad_no hbf
  have HBF := Stow.mk hbf
  clear hbad hbf
  obtain ⟨A, c, rfl⟩ := hvf
  obtain ⟨o, ho⟩ : ∃ o, Dd.pl (wis R) node = o := ⟨_, rfl⟩
  have HPL := Stow.mk ho
  clear ho
  go_enter Tryz.func52, Tryz.ntmps52
  go_wp2_with fail
  refine (ddCopied_any _ R _ HW.out HOK.out).mono ?_
  rintro e w1 ⟨v1, R1, rfl, hwis, hown, hb1⟩
  have HO := Stow.mk hown
  have HWI := Stow.mk hwis
  have HB := Stow.mk hb1
  obtain ⟨A1, c1, hv1, _⟩ := hown.row.slr.form
  rw [List.length_map] at hv1
  subst hv1
  clear hown hwis hb1
  go_wp2_with fail
  refine (ddFind_any node A1 c1 R1 _ HO.out.row.slr).mono ?_
  rw [HWI.out, HPL.out]
  rintro e w2 ⟨rfl, hb2⟩
  have HO2 := Stow.mk (HO.out.keep hb2)
  have HB2 : Stow (Below w.heap.size w w2) := ⟨HB.out.trans (hb2.mono HB.out.size)⟩
  clear hb2
  have hR8 : R1.length ≤ 8 := by
    have := HOK.out.len
    rw [← HWI.out] at this
    simpa using this
  cases o with
  | none =>
    have HF := Stow.mk (Dd.fresh_new (x := x) HBF.out HPL.out)
    simp only [plInt]
    have K1 : Stow (∀ (gx : Nat), ∀ u ∈ [Value.int .i64 node, .int .i64 x, .slice (some ⟨gx, 0, none⟩) 1 1], u.oneCell' = true) := ⟨by intro gx u hu; simp at hu; rcases hu with rfl | rfl | rfl <;> rfl⟩
    have K2 : Stow ((R1.length + 1) * 40 ≤ 140737488355328) := ⟨by omega⟩
    have K3 : Stow (R1.length + 1 ≤ maxLen) := ⟨by unfold maxLen; omega⟩
    have K4 : Stow (w.heap.size ≤ (w2.alloc (.cells #[.int .i64 x] 3)).heap.size) := ⟨by have := HB2.out.size; simp; omega⟩
    have HOA := Stow.mk (HO2.out.row.keep (Below.alloc' (Below.self w2) (.cells #[.int .i64 x] 3)))
    go_wp2_with (at_builtin; refine wpList_append_elem_form _ _ _ rfl (.tmp 35) (.tmp 41) 29 rfl w.heap.size 113 _ 3 40 Tryz.underlying29 info_window _ _ _ HOA.out rfl _ rfl (by simp) rfl (by decide) rfl (K1.out _) K2.out K3.out K4.out ?_; intro A4 cap4 w4 hown4 hg4 hb4 hs4)
    go_ret2
    have hlit : WnRow (w2.alloc (.cells #[.int .i64 x] 3)) w2.heap.size (.slice (some ⟨w2.heap.size, 0, none⟩) 1 1) [x] := World.ownsRow_lit w2 #[.int .i64 x] 1 (Nat.le_refl _) (by unfold maxLen; omega) rfl
    have hv0 : (Value.slice A1 R1.length c1).ownBlock ≠ some w2.heap.size := by
      intro h
      have := World.ownsRow.lt HO2.out.row _ h
      omega
    have hkeep : ∀ {B0 : Nat} {u : Value} {s : List Int}, WnRow (w2.alloc (.cells #[.int .i64 x] 3)) B0 u s → u.ownBlock ≠ (Value.slice A1 R1.length c1).ownBlock → WnRow w4 B0 u s := fun h hne => World.ownsRow.kept (World.ownsRow.alloc h _) hg4 (.inr hne)
    refine ⟨.slice A4 (R1.length + 1) cap4, R1 ++ [(⟨⟨node, x, [x]⟩, some ⟨w2.heap.size, 0, none⟩, 1⟩ : Wm)], ?_, ?_, ?_, ?_, ?_⟩
    · rw [HF.out]; rfl
    · rw [HF.out, ← HWI.out]; simp
    · have hrow : WRow w4 w.heap.size (.slice A4 (R1.length + 1) cap4) (R1 ++ [(⟨⟨node, x, [x]⟩, some ⟨w2.heap.size, 0, none⟩, 1⟩ : Wm)]) := by
        unfold WRow
        rw [List.length_append, List.flatMap_append]
        exact hown4
      refine ⟨hrow.slr, fun p hp => ?_, fun e => by simp at e⟩
      rcases List.mem_append.1 hp with hp | hp
      · exact (hkeep ((HO2.out.ints p hp).keep (Below.alloc' (Below.self _) _)) (HO2.out.off p hp)).slr
      · simp at hp; subst hp
        exact (hkeep hlit (fun e => hv0 e.symm)).slr
    · exact (Below.alloc' HB2.out _).trans hb4
    · refine ⟨row_new hown4, fun p hp => ?_⟩
      rcases List.mem_append.1 hp with hp | hp
      · exact HO2.out.new.2 p hp
      · simp at hp; subst hp
        intro a ha
        cases ha
        exact HB2.out.size
  | some i =>
    obtain ⟨hi, hin⟩ := plR_lt (R := R1) (by rw [HWI.out]; exact HPL.out)
    have hiL : i < (wis R).length := by rw [← HWI.out]; simpa using hi
    have hLi : (wis R)[i] = R1[i].w := by simp only [← HWI.out]; simp
    have HF := Stow.mk (Dd.fresh_at (x := x) HBF.out HPL.out hiL)
    rw [hLi] at HF
    have hokp : Dd.OkW R1[i].w := HOK.out.each _ (by rw [← hLi]; exact List.getElem_mem hiL)
    have hlen := HO2.out.row.slr.len
    simp only [List.length_map] at hlen
    obtain ⟨g0, _, hA1, hg0, _⟩ := HO2.out.row.slr.open (by simp; omega)
    have hA1' : A1 = some ⟨g0, 0, none⟩ := by
      obtain ⟨g1, c1', hv, _, _⟩ := row_form HO2.out.row (by omega)
      simp only [Value.slice.injEq] at hv
      rw [hA1] at hv
      have := hv.1
      simp at this
      rw [hA1, this.1, this.2]
    subst hA1'
    have hsp := win_at HO2.out.row.slr hi
    have HSET := Stow.mk (fun (w3 : World) (gi g' : Nat) h1 h2 q h3 h4 h5 => own_set (w2 := w3) (gi := gi) (g' := g') HO2.out hi h1 h2 q h3 h4 h5)
    have HIR := Stow.mk (HO2.out.ints _ (List.getElem_mem hi))
    have hoff := HO2.out.off _ (List.getElem_mem hi)
    have hii : (i : Int) < R1.length := by omega
    clear hiL hLi hA1 hin
    obtain ⟨p, hp⟩ : ∃ p, R1[i] = p := ⟨_, rfl⟩
    have HP := Stow.mk hp
    rw [hp] at hsp HSET HIR hoff HF hokp
    clear hp
    have HOKP := Stow.mk hokp
    have hsl := hokp.len
    have hh0 := hokp.h0
    have hh1 := hokp.h1
    clear hokp
    obtain ⟨⟨n, h, s⟩, PA, pc⟩ := p
    obtain ⟨hltb, q0, q1, q2⟩ := hsp
    simp only [Wm.v, Nat.zero_add] at q0 q1 q2 HSET HIR hoff HF hsl hh0 hh1 HOKP
    obtain ⟨gi, _, hPA, hgilt⟩ := row_form HIR.out hsl.1
    simp only [Value.slice.injEq] at hPA
    obtain ⟨rfl, _, rfl⟩ := hPA
    have hgi0 : gi ≠ g0 := fun e => hoff (by rw [e]; rfl)
    have HS2 := Stow.mk (fun w3 g' => HSET.out w3 gi g' rfl)
    have hfr : ∀ k, w2.frozen? ⟨g0, k, none⟩ = false := fun k => World.ownsRow.frozenAt HO2.out.row k
    have HFR := Stow.mk hfr
    clear hoff HSET hfr
    simp only [plInt]
    have hcellK : ∀ w3, Only gi w2 w3 → (w3.cell? ⟨g0, i * 3, none⟩ = some (.int .i64 n) ∧ w3.cell? ⟨g0, i * 3 + 1, none⟩ = some (.int .i64 h) ∧ w3.cell? ⟨g0, i * 3 + 2, none⟩ = some (.slice (some ⟨gi, 0, none⟩) s.length pc) ∧ ∀ k, w3.frozen? ⟨g0, k, none⟩ = false) := fun w3 ho => by
      have hbk := ho.block g0 hltb (by simp; omega)
      refine ⟨(World.cell?_of_block (a := ⟨g0, i * 3, none⟩) hbk).trans q0, (World.cell?_of_block (a := ⟨g0, i * 3 + 1, none⟩) hbk).trans q1, (World.cell?_of_block (a := ⟨g0, i * 3 + 2, none⟩) hbk).trans q2, fun k => ?_⟩
      exact (World.frozen?_of_block (a := ⟨g0, k, none⟩) hbk).trans (HFR.out k)
    have HCK := Stow.mk hcellK
    clear hcellK
    have hg0w : w.heap.size ≤ g0 := (World.ownsRow.lt HO2.out.row g0 rfl).1
    by_cases hhx : h < x
    · have HST : Stow (Dd.step ⟨n, h, s⟩ x = some ⟨n, x, keepS x s ++ [x]⟩) := ⟨by unfold Dd.step; rw [if_pos hhx]; rfl⟩
      go_wp2_with fail
      refine (ddHigher_any n h x s gi pc w.heap.size _ HIR.out hsl.1 hsl.2 hgilt.2 x0 x1).mono ?_
      rintro e w3 ⟨g', c', rfl, hg'1, hg'2, hI3, ho3⟩
      obtain ⟨r0, r1, r2, rf⟩ := HCK.out w3 ho3
      have rf0 := rf (i * 3)
      have rf1 := rf (i * 3 + 1)
      have rf2 := rf (i * 3 + 2)
      have hltb3 : g0 < w3.heap.size := Nat.lt_of_lt_of_le hltb ho3.size
      have HFIN := Stow.mk (HS2.out w3 g' ho3 (⟨⟨n, x, keepS x s ++ [x]⟩, some ⟨g', 0, none⟩, c'⟩ : Wm) hI3.slr rfl (by omega))
      have HB3 : Stow (Below w.heap.size w w3) := ⟨HB2.out.trans (ho3.below hgilt.1 HB2.out.size)⟩
      clear rf hI3 ho3 q0 q1 q2
      go_wp2_with fail
      go_ret2
      refine ⟨.slice (some ⟨g0, 0, none⟩) R1.length c1, R1.set i (⟨⟨n, x, keepS x s ++ [x]⟩, some ⟨g', 0, none⟩, c'⟩ : Wm), ?_, ?_, ?_, ?_, ?_⟩
      · rw [HF.out, HST.out]; rfl
      · rw [HF.out, HST.out, wis_set, HWI.out]
      · simpa using HFIN.out
      · exact ((HB3.out.setCell (p := ⟨g0, i * 3, none⟩) hg0w _).setCell (p := ⟨g0, i * 3 + 1, none⟩) hg0w _).setCell (p := ⟨g0, i * 3 + 2, none⟩) hg0w _
      · exact HO2.out.new.set _ fun a ha => by cases ha; exact Nat.le_trans HB2.out.size hg'1
    · by_cases hbad : 128 ≤ h - x ∨ x ∈ s
      · have HST : Stow (Dd.step ⟨n, h, s⟩ x = none) := ⟨by unfold Dd.step; rw [if_neg hhx, if_pos hbad]⟩
        have HBAD := Stow.mk hbad
        have hxh : ¬ x > h → True := fun _ => trivial
        clear hbad hxh
        go_wp2_with fail
        refine (ddLower_any n h x s gi pc w.heap.size _ HIR.out hsl.2 hgilt.2 x0 (by omega) hh1 HOKP.out.asc HOKP.out.top).mono ?_
        rintro e w3 ⟨hA, _⟩
        obtain ⟨rfl, hb3⟩ := hA (by have := HBAD.out; first | exact this | simpa using this)
        have ho3 : Only gi w2 w3 := Only.of_below hb3
        have hIR3 := HIR.out.keep hb3
        obtain ⟨r0, r1, r2, rf⟩ := HCK.out _ ho3
        have rf0 := rf (i * 3)
        have rf1 := rf (i * 3 + 1)
        have rf2 := rf (i * 3 + 2)
        have hltb3 : g0 < w3.heap.size := Nat.lt_of_lt_of_le hltb ho3.size
        have hne3 : (w3.heap.size == g0) = false := by simp; omega
        have HFIN := Stow.mk (HS2.out _ gi ho3 (⟨⟨n, h, s⟩, some ⟨gi, 0, none⟩, pc⟩ : Wm) hIR3.slr rfl hgi0)
        have HB3 : Stow (Below w.heap.size w w3) := ⟨HB2.out.trans (hb3.mono HB2.out.size)⟩
        have hself : R1.set i (⟨⟨n, h, s⟩, some ⟨gi, 0, none⟩, pc⟩ : Wm) = R1 := by rw [← HP.out]; exact List.set_getElem_self hi
        have HSELF := Stow.mk hself
        clear rf hIR3 ho3  hself q0 q1 q2 hA
        go_wp2_with fail
        go_ret2
        refine ⟨.slice (some ⟨g0, 0, none⟩) R1.length c1, R1, ?_, ?_, ?_, ?_, ?_⟩
        · rw [HF.out, HST.out]; rfl
        · rw [HF.out, HST.out, HWI.out]
        · have := HFIN.out
          rw [HSELF.out] at this
          exact this.keep (Below.alloc' (Below.self _) _)
        · exact Below.alloc' (((HB3.out.setCell (p := ⟨g0, i * 3, none⟩) hg0w _).setCell (p := ⟨g0, i * 3 + 1, none⟩) hg0w _).setCell (p := ⟨g0, i * 3 + 2, none⟩) hg0w _) _
        · exact HO2.out.new
      · have HST : Stow (Dd.step ⟨n, h, s⟩ x = some ⟨n, h, Dd.ins x s⟩) := ⟨by unfold Dd.step; rw [if_neg hhx, if_neg hbad]; rfl⟩
        have HBAD := Stow.mk hbad
        clear hbad
        go_wp2_with fail
        refine (ddLower_any n h x s gi pc w.heap.size _ HIR.out hsl.2 hgilt.2 x0 (by omega) hh1 HOKP.out.asc HOKP.out.top).mono ?_
        rintro e w3 ⟨_, hA⟩
        obtain ⟨g', c', rfl, hS3, ho3, hg3⟩ := hA (by have := HBAD.out; first | exact this | simpa using this)
        obtain ⟨r0, r1, r2, rf⟩ := HCK.out _ ho3
        have rf0 := rf (i * 3)
        have rf1 := rf (i * 3 + 1)
        have rf2 := rf (i * 3 + 2)
        have hltb3 : g0 < w3.heap.size := Nat.lt_of_lt_of_le hltb ho3.size
        have hne3 : (w3.heap.size == g0) = false := by simp; omega
        have HFIN := Stow.mk (HS2.out _ g' ho3 (⟨⟨n, h, Dd.ins x s⟩, some ⟨g', 0, none⟩, c'⟩ : Wm) hS3 rfl (by omega))
        have HB3 : Stow (Below w.heap.size w w3) := ⟨HB2.out.trans (ho3.below hgilt.1 HB2.out.size)⟩
        clear rf ho3  q0 q1 q2 hA
        go_wp2_with fail
        go_ret2
        refine ⟨.slice (some ⟨g0, 0, none⟩) R1.length c1, R1.set i (⟨⟨n, h, Dd.ins x s⟩, some ⟨g', 0, none⟩, c'⟩ : Wm), ?_, ?_, ?_, ?_, ?_⟩
        · rw [HF.out, HST.out]; rfl
        · rw [HF.out, HST.out, wis_set, HWI.out]
        · exact HFIN.out.keep (Below.alloc' (Below.self _) _)
        · exact Below.alloc' (((HB3.out.setCell (p := ⟨g0, i * 3, none⟩) hg0w _).setCell (p := ⟨g0, i * 3 + 1, none⟩) hg0w _).setCell (p := ⟨g0, i * 3 + 2, none⟩) hg0w _) _
        · exact HO2.out.new.set _ fun a ha => by
            cases ha
            have := HB2.out.size
            rcases hg3 with h | h
            · exact h ▸ hgilt.1
            · exact Nat.le_trans this h
end Go.Proofs.YtfbhdkkmcfnghaaGreat
end

section
namespace Go.Proofs.YtfbhdkkmcfnghaaGreat
open Go.RowKit Go.Lib Go.Sort
set_option linter.unusedVariables false

theorem in_no {s : List Int} {x : Int} (h : ∀ y ∈ s, (y == x) = false) : s.contains x = false := by
  rw [Bool.eq_false_iff]
  intro hc
  have := h x (List.contains_iff_mem.1 hc)
  simp at this

set_option maxHeartbeats 400000 in
set_option maxRecDepth 100000 in
theorem refIn_any (s : List Int) (A : Option Addr) (cap : Nat) (x : Int) (w : World) (hS : SlR w 1 (.slice A s.length cap) (s.map ic)) :
    Calls Tryz.prog 62 #[.slice A s.length cap, .int .i64 x] w fun e w' => e = .returned (.bool (s.contains x)) ∧ w' = w := by
  have HS := Stow.mk hS
  have hlen := hS.len
  simp only [List.length_map] at hlen
  clear hS
  obtain ⟨cc, hcc⟩ : ∃ cc, s.contains x = cc := ⟨_, rfl⟩
  rw [hcc]
  have HCC := Stow.mk hcc
  clear hcc
  go_enter Tryz.func62, Tryz.ntmps62
  go_wp2_with fail
  go_loop [5] (fun v => ∃ j : Nat, v = .int .i64 (j : Int) ∧ j ≤ s.length ∧ Stow (∀ y ∈ s.take j, (y == x) = false)) (fun v => s.length - (intOf v).toNat)
  case atStart => exact ⟨0, rfl, by omega, ⟨by simp⟩⟩
  case round =>
    obtain ⟨j, rfl, hj, HJ⟩ := hrel
    by_cases hlt : j < s.length
    · obtain ⟨b, off, rfl, hblt, _⟩ := HS.out.open (by simp; omega)
      have hc := (ints_at HS.out hlt).2
      have HMEM := Stow.mk (List.getElem_mem hlt)
      have HTK : Stow (∀ y ∈ s.take (j + 1), y ∈ s.take j ∨ y = s[j]) := ⟨fun y hy => by
        rw [List.take_succ_eq_append_getElem hlt] at hy
        simp only [List.mem_append, List.mem_singleton] at hy
        exact hy⟩
      generalize s[j] = y at *
      obtain ⟨c, hcc⟩ : ∃ c, (y == x) = c := ⟨_, rfl⟩
      have HCS := Stow.mk hcc
      have hji : (j : Int) < s.length := by omega
      cases c
      · go_wp2_with fail
        exact ⟨⟨j + 1, rfl, by omega, ⟨fun z hz => by
          rcases HTK.out z hz with h | h
          · exact HJ.out z h
          · rw [h]; exact HCS.out⟩⟩, by simp [intOf]; omega⟩
      · have HV : Stow (s.contains x = true) := ⟨List.contains_iff_mem.2 (by have := HCS.out; rw [beq_iff_eq] at this; rw [← this]; exact HMEM.out)⟩
        go_wp2_with fail
        go_ret
        exact ⟨by rw [← HCC.out, HV.out]; rfl, rfl⟩
    · obtain rfl : j = s.length := by omega
      have HV : Stow (s.contains x = false) := ⟨by have := HJ.out; rw [List.take_length] at this; exact in_no this⟩
      go_wp2_with fail
      go_ret
      exact ⟨by rw [← HCC.out, HV.out]; rfl, rfl⟩

set_option maxHeartbeats 400000 in
set_option maxRecDepth 100000 in
theorem refAt_any (node : Int) (A : Option Addr) (cap : Nat) (R : List Wm) (w : World) (hS : SlR w 3 (.slice A R.length cap) (R.map Wm.cells)) :
    Calls Tryz.prog 60 #[.slice A R.length cap, .int .i64 node] w fun e w' => e = .returned (.int .i64 (plInt (Dd.pl (wis R) node))) ∧ w' = w := by
  have HS := Stow.mk hS
  have hlen := hS.len
  simp only [List.length_map] at hlen
  clear hS
  go_enter Tryz.func60, Tryz.ntmps60
  go_wp2_with fail
  go_loop [5] (fun v => ∃ j : Nat, v = .int .i64 (j : Int) ∧ j ≤ R.length ∧ Stow (∀ x ∈ (wis R).take j, (x.n == node) = false)) (fun v => R.length - (intOf v).toNat)
  case atStart => exact ⟨0, rfl, by omega, ⟨by simp⟩⟩
  case round =>
    obtain ⟨j, rfl, hj, HJ⟩ := hrel
    by_cases hlt : j < R.length
    · obtain ⟨b, off, rfl, hblt, _⟩ := HS.out.open (by simp; omega)
      have hsp := win_at HS.out hlt
      have HJS := Stow.mk (fun h => plR_some (node := node) hlt HJ.out h)
      have HJN := Stow.mk (fun h => plR_succ (node := node) hlt HJ.out h)
      obtain ⟨p, hp⟩ : ∃ p, R[j] = p := ⟨_, rfl⟩
      rw [hp] at hsp HJS HJN
      clear hp
      obtain ⟨⟨n, h, s⟩, PA, pc⟩ := p
      obtain ⟨hltb, q0, q1, q2⟩ := hsp
      simp only at q0 HJS HJN
      clear q1 q2
      obtain ⟨c, hc⟩ : ∃ c, (n == node) = c := ⟨_, rfl⟩
      have HCS := Stow.mk hc
      have hji : (j : Int) < R.length := by omega
      cases c
      · go_wp2_with fail
        exact ⟨⟨j + 1, rfl, by omega, ⟨HJN.out HCS.out⟩⟩, by simp [intOf]; omega⟩
      · go_wp2_with fail
        go_ret
        refine ⟨?_, rfl⟩
        rw [HJS.out HCS.out]
        rfl
    · obtain rfl : j = R.length := by omega
      go_wp2_with fail
      go_ret
      refine ⟨?_, rfl⟩
      have := HJ.out
      rw [List.take_of_length_le (by simp)] at this
      rw [pl_noneI this]
      rfl

theorem keepS_succ {x : Int} {s : List Int} {j : Nat} (h : j < s.length) : keepS x (s.take (j + 1)) = keepS x (s.take j) ++ if x - 128 < s[j] then [s[j]] else [] := by
  unfold keepS
  rw [List.take_succ_eq_append_getElem h, List.filter_append]
  congr 1
  by_cases hc : x - 128 < s[j] <;> simp [hc]

set_option maxHeartbeats 1000000 in
set_option maxRecDepth 100000 in
theorem refWith_any (s : List Int) (A : Option Addr) (cap : Nat) (x a : Int) (w : World) (hS : SlR w 1 (.slice A s.length cap) (s.map ic)) (h9 : s.length ≤ 128) (hx : ∀ y ∈ s, y < x) (ha : a = x - 128) :
    Calls Tryz.prog 61 #[.slice A s.length cap, .int .i64 x, .int .i64 a] w fun e w' => ∃ g c', e = .returned (.slice (some ⟨g, 0, none⟩) (keepS x s ++ [x]).length c') ∧ w.heap.size ≤ g ∧ g < w'.heap.size ∧ WnRow w' w.heap.size (.slice (some ⟨g, 0, none⟩) (keepS x s ++ [x]).length c') (keepS x s ++ [x]) ∧ Below w.heap.size w w' := by
  have HS := Stow.mk hS
  have HX := Stow.mk hx
  clear hS hx
  have K1 : Stow (∀ y : Int, ∀ u ∈ [Value.int .i64 y], u.oneCell' = true) := ⟨by intro y u hu; simp at hu; subst hu; rfl⟩
  have HA := Stow.mk ha
  clear ha
  go_enter Tryz.func61, Tryz.ntmps61
  go_wp2_with fail
  go_loopw [7, 8, 9] (fun o pu v wr => ∃ (j : Nat) (A' : Option Addr) (c' : Nat), pu = .bool false ∧ o = .slice A' (keepS x (s.take j)).length c' ∧ v = .int .i64 (j : Int) ∧ j ≤ s.length ∧ WnRow wr w.heap.size o (keepS x (s.take j)) ∧ Below w.heap.size w wr) (fun _ _ v _ => s.length - (intOf v).toNat)
  case atStart => exact ⟨0, none, 0, rfl, rfl, rfl, by omega, World.ownsRow_nil _ _ _ _, Below.self _⟩
  case round =>
    obtain ⟨j, A', c', rfl, rfl, rfl, hj, hown, hbr⟩ := hrel
    have hkl : (keepS x (s.take j)).length ≤ 128 := Nat.le_trans (List.length_filter_le _ _) (by simp; omega)
    have HO := Stow.mk hown
    have HBR := Stow.mk hbr
    clear hown
    have K2 : Stow (((keepS x (s.take j)).length + 1) * 8 ≤ 140737488355328) := ⟨by omega⟩
    have K3 : Stow ((keepS x (s.take j)).length + 1 ≤ maxLen) := ⟨by unfold maxLen; omega⟩
    have K4 := Stow.mk hbr.size
    by_cases hlt : j < s.length
    · obtain ⟨b, off, rfl, hblt, _⟩ := HS.out.open (by simp; omega)
      have hc := (ints_at (HS.out.keep hbr) hlt).2
      have hyx := HX.out _ (List.getElem_mem hlt)
      have HN := Stow.mk (keepS_succ (x := x) hlt)
      generalize s[j] = y at *
      generalize keepS x (s.take j) = K at *
      have hji : (j : Int) < s.length := by omega
      have hd : decide (x < y) = false := by simp; omega
      by_cases hay : a < y
      · have HN2 : Stow (keepS x (s.take (j + 1)) = K ++ [y]) := ⟨by rw [HN.out, if_pos (by have := HA.out; omega)]⟩
        go_wp2_with (at_builtin; refine wpList_append_elem_form _ _ _ rfl (.tmp 36) (.tmp 41) 105 rfl w.heap.size 3 _ 1 8 Tryz.underlying105 info_intW _ _ _ HO.out rfl _ rfl rfl rfl (by decide) rfl (K1.out _) K2.out K3.out K4.out ?_; intro A4 cap4 w4 hown4 hg4 hb4 hs4)
        exact ⟨⟨j + 1, A4, cap4, rfl, by rw [HN2.out]; simp, rfl, by omega, by rw [HN2.out]; unfold WnRow; simpa using hown4, hbr.trans hb4⟩, by simp [intOf]; omega⟩
      · have HN2 : Stow (keepS x (s.take (j + 1)) = K) := ⟨by rw [HN.out, if_neg (by have := HA.out; omega)]; simp⟩
        go_wp2_with fail
        exact ⟨⟨j + 1, A', c', rfl, by rw [HN2.out], rfl, by omega, by rw [HN2.out]; exact HO.out, hbr⟩, by simp [intOf]; omega⟩
    · obtain rfl : j = s.length := by omega
      rw [List.take_length] at *
      go_wp2_with (at_builtin; refine wpList_append_elem_form _ _ _ rfl (.tmp 45) (.tmp 47) 105 rfl w.heap.size 3 _ 1 8 Tryz.underlying105 info_intW _ _ _ HO.out rfl _ rfl rfl rfl (by decide) rfl (K1.out _) K2.out K3.out K4.out ?_; intro A4 cap4 w4 hown4 hg4 hb4 hs4)
      obtain ⟨g, c4, hv4, hg1, hg2⟩ := row_form hown4 (by omega)
      simp only [Value.slice.injEq] at hv4
      obtain ⟨rfl, _, rfl⟩ := hv4
      go_ret
      refine ⟨g, cap4, by simp, hg1, hg2, ?_, hbr.trans hb4⟩
      unfold WnRow
      simpa using hown4
end Go.Proofs.YtfbhdkkmcfnghaaGreat
end

section
namespace Go.Proofs.YtfbhdkkmcfnghaaGreat
open Go.RowKit Go.Lib Go.Sort
set_option linter.unusedVariables false

theorem wis_at {R R' : List Wm} (h : wis R = wis R') {j : Nat} (hj : j < R.length) (hj' : j < R'.length) : R'[j].w = R[j].w := by
  have h1 : (wis R)[j]? = (wis R')[j]? := by rw [h]
  simpa [List.getElem?_map, hj, hj'] using h1.symm
theorem wis_len {R R' : List Wm} (h : wis R = wis R') : R.length = R'.length := by simpa using congrArg List.length h

/-- What stands when the first numbers were looked at. -/
def insF (x : Int) (s : List Int) : List Int := s.filter (· < x) ++ if s.any (x < ·) then x :: s.filter (x < ·) else []
theorem insF_lt {x v : Int} {s : List Int} (ha : s.any (x < ·) = false) (hv : v < x) : insF x (s ++ [v]) = insF x s ++ [v] := by
  have hnv : ¬ x < v := by omega
  unfold insF
  simp [List.filter_append, List.any_append, ha, hv, hnv]
theorem insF_first {x v : Int} {s : List Int} (ha : s.any (x < ·) = false) (hv : x < v) : insF x (s ++ [v]) = insF x s ++ [x, v] := by
  have hnv : ¬ v < x := by omega
  have hf : s.filter (x < ·) = [] := by
    rw [List.filter_eq_nil_iff]
    intro y hy
    have := List.any_eq_false.1 ha y hy
    simpa using this
  unfold insF
  simp [List.filter_append, List.any_append, ha, hv, hnv, hf]
theorem insF_gt {x v : Int} {s : List Int} (ha : s.any (x < ·) = true) (hv : x < v) : insF x (s ++ [v]) = insF x s ++ [v] := by
  have hnv : ¬ v < x := by omega
  unfold insF
  simp [List.filter_append, List.any_append, ha, hv, hnv]
theorem insF_end {x : Int} {s : List Int} (ha : s.any (x < ·) = true) : insF x s = Dd.ins x s := by
  unfold insF Dd.ins
  rw [if_pos ha]
theorem insF_len (x : Int) (s : List Int) : (insF x s).length ≤ 2 * s.length + 1 := by
  have h1 := List.length_filter_le (fun y => decide (y < x)) s
  have h2 := List.length_filter_le (fun y => decide (x < y)) s
  unfold insF
  split <;> simp <;> omega
theorem any_nextW {x v : Int} {s : List Int} {j : Nat} (hs : s.Pairwise (· < ·)) (hj : j < s.length) (ha : (s.take j).any (x < ·) = true) : x < s[j] := by
  obtain ⟨y, hy, hxy⟩ := List.any_eq_true.1 ha
  obtain ⟨i, hi, rfl⟩ := List.mem_take_iff_getElem.1 hy
  have := List.pairwise_iff_getElem.1 hs i j (by omega) hj (by omega)
  simp at hxy
  omega
end Go.Proofs.YtfbhdkkmcfnghaaGreat
end
