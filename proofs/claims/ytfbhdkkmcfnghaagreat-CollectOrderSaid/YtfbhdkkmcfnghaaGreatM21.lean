/- Walk of store.put. Conditions: rows of the call's own; lists not longer than a thousand.; Walk of slices.Delete at traces. Conditions: rows of the call's own; lists not longer than a thousand. -/
import Derived.Test.YtfbhdkkmcfnghaaGreatM20
import Derived.Deep.RegionLaw

section
namespace Go.Proofs.YtfbhdkkmcfnghaaGreat
open Go.RowKit
set_option linter.unusedVariables false

set_option maxHeartbeats 1000000 in
set_option maxRecDepth 100000 in
theorem stPutB_any (s x : Sp) (g : Nat) (w : World) (hH : Held w g s.cells) :
    Calls Tryz.prog 133 #[.agg x.cells.toArray, .pointer (some ⟨g, 0, none⟩)] w fun e w' => e = .returned (.bool (St.idIs s x)) ∧ Below w.heap.size w w' := by
  have ba := Below.alloc' (Below.self w) (.cells x.cells.toArray 64)
  have hk := Held.made w x.cells 64
  have hg := hH.kept ba
  obtain ⟨W, hW⟩ : ∃ W, w.alloc (.cells x.cells.toArray 64) = W := ⟨_, rfl⟩
  rw [hW] at ba hk hg
  have c2 := hk.cell (i := 2) rfl
  have d2 := hg.cell (i := 2) rfl
  have HB := Stow.mk ba
  have HW := Stow.mk hW
  unfold Sp.cells at HW ⊢
  unfold St.idIs
  obtain ⟨a, ha⟩ : ∃ a, x.id = a := ⟨_, rfl⟩
  obtain ⟨b, hb⟩ : ∃ b, s.id = b := ⟨_, rfl⟩
  rw [ha] at c2 HW ⊢
  rw [hb] at d2 ⊢
  have HE : Stow ((((a : Int) == (b : Int)) : Bool) = (a == b)) := ⟨by rw [Bool.eq_iff_iff]; simp [Int.natCast_inj]⟩
  clear hk hg hH ba hW ha hb
  go_enter Tryz.func133, Tryz.ntmps133
  go_upto_region 1 with fail
  generalize hX : World.alloc w _ = X
  obtain rfl : W = X := HW.out.symm.trans hX
  clear hX HW
  go_wp2_with fail
  go_ret
  exact ⟨by first | rfl | (rw [← HE.out]; rfl) | simp [HE.out], HB.out⟩
/-- One of the traces gives way to another. -/
theorem KO.swap {w w' : World} {B g cap : Nat} {Q T : List Km} {m m' : Km} (h : KO w B (some ⟨g, 0, none⟩) cap (Q ++ m :: T))
    (hrow : w'.ownsRow B 40 5 (.slice (some ⟨g, 0, none⟩) (Q ++ m :: T).length cap) (Q ++ m :: T).length ((Q ++ m' :: T).flatMap Km.cells))
    (hoth : ∀ x ∈ Q ++ T, KmO w' B x) (hm : KmO w' B m') (hf : ∀ b, m'.A = some b → b.block ≠ g ∧ ∀ x ∈ Q ++ T, ∀ c, x.A = some c → c.block ≠ b.block) : KO w' B (some ⟨g, 0, none⟩) cap (Q ++ m' :: T) := by
  obtain ⟨p1, p2, p3⟩ := List.pairwise_append.1 h.apart
  obtain ⟨p4, p5⟩ := List.pairwise_cons.1 p2
  refine ⟨by simpa using hrow, ?_, ?_, ?_⟩
  · intro x hx
    rcases List.mem_append.1 hx with hx | hx
    · exact hoth x (by simp [hx])
    · rcases List.mem_cons.1 hx with rfl | hx
      · exact hm
      · exact hoth x (by simp [hx])
  · intro x hx a b ha hb
    rcases List.mem_append.1 hx with hx' | hx'
    · exact h.off x (by simp [hx']) a b ha hb
    · rcases List.mem_cons.1 hx' with rfl | hx'
      · cases ha
        exact (hf b hb).1
      · exact h.off x (by simp [hx']) a b ha hb
  · refine List.pairwise_append.2 ⟨p1, List.pairwise_cons.2 ⟨fun x hx a b ha hb => ?_, p5⟩, fun x hx y hy a b ha hb => ?_⟩
    · exact fun e => (hf a ha).2 x (by simp [hx]) b hb e.symm
    · rcases List.mem_cons.1 hy with rfl | hy
      · exact (hf b hb).2 x (by simp [hx]) a ha
      · exact p3 x hx y (by simp [hy]) a b ha hb
/-- One trace of the row, its row's block as before. -/
theorem KO.blk {w : World} {B g cap : Nat} {Q T : List Km} {m : Km} (h : KO w B (some ⟨g, 0, none⟩) cap (Q ++ m :: T)) : ∀ b, m.A = some b → b.block ≠ g ∧ ∀ x ∈ Q ++ T, ∀ c, x.A = some c → c.block ≠ b.block := by
  obtain ⟨p1, p2, p3⟩ := List.pairwise_append.1 h.apart
  obtain ⟨p4, p5⟩ := List.pairwise_cons.1 p2
  intro b hb
  refine ⟨h.off m (by simp) _ _ rfl hb, fun x hx c hc => ?_⟩
  rcases List.mem_append.1 hx with hx | hx
  · exact p3 x hx m (by simp) c b hc hb
  · exact fun e => p4 x hx b c hb hc e.symm
theorem km_flat_set {Q T : List Km} {m m' : Km} {f : Nat} {v : Value} (hf : f < 5) (hm : m'.cells = m.cells.set f v) : ((Q ++ m :: T).flatMap Km.cells).set (Q.length * 5 + f) v = (Q ++ m' :: T).flatMap Km.cells := by
  have hq := km_flat_len Q
  rw [List.flatMap_append, List.flatMap_cons, List.flatMap_append, List.flatMap_cons, List.set_append_right _ _ (by omega), List.set_append_left _ _ (by rw [Km.cells_len]; omega), hm]
  rw [show Q.length * 5 + f - (Q.flatMap Km.cells).length = f by omega]
/-- A trace of the row whose one cell is written, its spans left alone. -/
theorem KO.cell {w w1 : World} {B g cap : Nat} {Q T : List Km} {m m' : Km} {f : Nat} {v : Value} (h : KO w B (some ⟨g, 0, none⟩) cap (Q ++ m :: T)) (hb : Below w.heap.size w w1) (hf : f < 5) (hm : m'.cells = m.cells.set f v) (hL : m'.k.L = m.k.L) (hA : m'.A = m.A) (hc : m'.cap = m.cap) :
    KO (w1.setCell ⟨g, Q.length * 5 + f, none⟩ v) B (some ⟨g, 0, none⟩) cap (Q ++ m' :: T) := by
  have ho : Only g w1 (w1.setCell ⟨g, Q.length * 5 + f, none⟩ v) := Only.set _ _ _ _
  have h1 := (h.keep hb)
  refine KO.swap h ?_ (fun x hx => ?_) ?_ (fun b hb => by rw [hA] at hb; exact h.blk b hb)
  · have := (World.ownsRow.stored h1.row (Q.length * 5 + f) v).1
    rw [km_flat_set hf hm] at this
    exact this
  · have hx' : x ∈ Q ++ m :: T := by rcases List.mem_append.1 hx with h | h <;> simp [h]
    exact own_other (h1.each x hx') ho fun a ha => h.off x hx' _ a rfl ha
  · unfold KmO
    rw [hL, hA, hc]
    exact own_other (h1.each m (by simp)) ho fun a ha => h.off m (by simp) _ a rfl ha
/-- A trace of the row whose spans have grown. -/
theorem KO.grow {W w' : World} {B g cap sb g' cap' : Nat} {Q T : List Km} {m : Km} {s : Sp} (h : KO W B (some ⟨g, 0, none⟩) cap (Q ++ m :: T)) (hA : m.A = some ⟨sb, 0, none⟩)
    (hown : w'.ownsRow B 64 11 (.slice (some ⟨g', 0, none⟩) (m.k.L.length + 1) cap') (m.k.L.length + 1) (m.k.L.flatMap Sp.cells ++ s.cells)) (hgrow : W.grownBy w' (some sb)) (hat : sb = g' ∨ g' = W.heap.size) :
    KO (w'.setCell ⟨g, Q.length * 5 + 2, none⟩ (.slice (some ⟨g', 0, none⟩) (m.k.L.length + 1) cap')) B (some ⟨g, 0, none⟩) cap (Q ++ ⟨{ m.k with L := m.k.L ++ [s] }, some ⟨g', 0, none⟩, cap'⟩ :: T) := by
  have ho1 : Only sb W w' := hgrow
  have ho2 : Only g w' (w'.setCell ⟨g, Q.length * 5 + 2, none⟩ (.slice (some ⟨g', 0, none⟩) (m.k.L.length + 1) cap')) := Only.set _ _ _ _
  obtain ⟨hbg, hbx⟩ := h.blk _ hA
  simp only at hbg hbx
  have hgl := (own_block h.row _ rfl).2
  simp only at hgl
  have hgg : g' ≠ g := by rcases hat with e | e <;> omega
  refine KO.swap h ?_ (fun x hx => ?_) ?_ (fun b hb => ?_)
  · have h1 := own_other h.row ho1 (fun a ha => by cases ha; exact fun e => hbg e.symm)
    have h2 := (World.ownsRow.stored h1 (Q.length * 5 + 2) (.slice (some ⟨g', 0, none⟩) (m.k.L.length + 1) cap')).1
    rw [km_flat_set (m' := ⟨{ m.k with L := m.k.L ++ [s] }, some ⟨g', 0, none⟩, cap'⟩) (by omega) (by simp [Km.cells])] at h2
    exact h2
  · have hx' : x ∈ Q ++ m :: T := by rcases List.mem_append.1 hx with h | h <;> simp [h]
    exact own_other (own_other (h.each x hx') ho1 (fun a ha => hbx x hx a ha)) ho2 fun a ha => h.off x hx' _ a rfl ha
  · have h1 := own_other hown ho2 (fun a ha => by cases ha; exact hgg)
    unfold KmO
    simp only [List.length_append, List.length_cons, List.length_nil, Nat.zero_add, List.flatMap_append, List.flatMap_cons, List.flatMap_nil, List.append_nil]
    exact h1
  · cases hb
    refine ⟨hgg, fun x hx c hc => ?_⟩
    have hx' : x ∈ Q ++ m :: T := by rcases List.mem_append.1 hx with h | h <;> simp [h]
    rcases hat with e | e
    · have := hbx x hx c hc
      simp only
      omega
    · have := (own_block (h.each x hx') c hc).2
      simp only
      omega
set_option maxHeartbeats 4000000 in
set_option maxRecDepth 100000 in
theorem stPut_any (B g cap : Nat) (Q T : List Km) (m : Km) (s : Sp) (w : World) (h : KO w B (some ⟨g, 0, none⟩) cap (Q ++ m :: T)) (hB : B ≤ w.heap.size) (hn : m.k.L.length ≤ 64) (hpos : 0 < m.k.L.length) :
    Calls Tryz.prog 92 #[.pointer (some ⟨g, Q.length * 5, none⟩), .agg s.cells.toArray] w fun e w' => e = .returned (.tuple #[]) ∧ ∃ m' : Km, m'.k = St.putK m.k s ∧ KO w' B (some ⟨g, 0, none⟩) cap (Q ++ m' :: T) ∧ Below B w w' := by
  have hcf := enters_of Tryz.func133 (by kernel_rfl) rfl
  have HC := Stow.mk hcf; clear hcf
  have hmf : ∀ (fn : Fn) (first cap : Array Value) (w : World), (Instr.makeFunc fn first cap).run Tryz.prog w = .ok (.func fn first cap) w := fun _ _ _ _ => rfl
  have hgb := own_block h.row _ rfl
  simp only at hgb
  have ba := Below.alloc' (Below.self w) (.cells s.cells.toArray 64)
  have hbx := Held.made w s.cells 64
  have h1 := h.keep ba
  obtain ⟨W, hW⟩ : ∃ W, w.alloc (.cells s.cells.toArray 64) = W := ⟨_, rfl⟩
  rw [hW] at ba hbx h1
  have hlen : (Q ++ m :: T).length = Q.length + (T.length + 1) := by simp
  have hjl : Q.length < (Q ++ m :: T).length := by omega
  have hra := (km_at (own_of_cells (fun _ => rfl) h1.row rfl) hjl).2
  rw [show (Q ++ m :: T)[Q.length] = m by simp, Nat.zero_add] at hra
  have HK := Stow.mk (indexS_any 133 #[.pointer (some ⟨w.heap.size, 0, none⟩)] HC.out (St.idIs s) m.A m.cap m.k.L W (fun W' x hb _ => stPutB_any s x w.heap.size W' (hbx.kept hb)) (h1.each m (by simp)).read (by omega))
  obtain ⟨o, ho⟩ : ∃ o, m.k.L.findIdx? (St.idIs s) = o := ⟨_, rfl⟩
  rw [ho] at HK
  have HO := Stow.mk ho
  have HH := Stow.mk h1
  have HX := Stow.mk hbx
  have HBW := Stow.mk ba
  have HW := Stow.mk hW
  have HMR := Stow.mk (h1.each m (by simp)).read
  have HMO := Stow.mk (h1.each m (by simp))
  have HFZ := Stow.mk (fun k => h1.row.frozenAt k)
  have HGB := Stow.mk hgb
  have c2 := hra 2 _ rfl
  have HRA := Stow.mk hra
  clear h h1 hbx ba hW hra ho hgb hlen hjl
  obtain ⟨⟨mh, ml, L, mx, mc⟩, A, mcap⟩ := m
  simp only at hn HK HO HMR c2 hpos
  unfold Sp.cells at HW ⊢
  go_enter Tryz.func92, Tryz.ntmps92
  go_upto_region 1 with fail
  generalize hX : World.alloc w _ = X
  obtain rfl : W = X := HW.out.symm.trans hX
  clear hX HW
  go_wp2_with fail
  refine HK.out.mono ?_
  rintro e w1 ⟨rfl, hb1⟩
  have HB1 := Stow.mk hb1
  clear c2 hb1
  cases o with
  | some k =>
    simp only [St.ixInt]
    obtain ⟨hk, -⟩ := St.find_at HO.out
    have HPK := Stow.mk (St.putK_some (k := ⟨mh, ml, L, mx, mc⟩) HO.out hk)
    obtain ⟨sb, so, rfl, hsb, _⟩ := HMR.out.open (by simp; omega)
    have hsp := (sp_at (SlR.keep HMR.out HB1.out) hk).2
    simp only at HPK
    obtain ⟨y, hy⟩ : ∃ y, L[k] = y := ⟨_, rfl⟩
    rw [hy] at hsp HPK
    have hbx := HX.out.kept HB1.out
    have HRB : Stow (∀ j v, (Km.mk ⟨mh, ml, L, mx, mc⟩ (some ⟨sb, so, none⟩) mcap).cells[j]? = some v → w1.cell? ⟨g, Q.length * 5 + j, none⟩ = some v) := ⟨fun j v hj => by
      rw [HB1.out.cell (p := ⟨g, Q.length * 5 + j, none⟩) (by have := HGB.out.2; have := HBW.out.size; simp; omega)]
      exact HRA.out j v hj⟩
    have c2 := HRB.out 2 _ rfl
    have c4 := HRB.out 4 _ rfl
    have hfz : w1.frozen? ⟨g, Q.length * 5 + 4, none⟩ = false := by
      rw [HB1.out.frozen (p := ⟨g, Q.length * 5 + 4, none⟩) (by have := HGB.out.2; have := HBW.out.size; simp; omega)]
      exact HFZ.out _
    have s0 := hsp 0 _ rfl
    simp only [Nat.add_zero] at s0
    have s1 := hsp 1 _ rfl
    have s2 := hsp 2 _ rfl
    have s3 := hsp 3 _ rfl
    have s4 := hsp 4 _ rfl
    have s5 := hsp 5 _ rfl
    have s6 := hsp 6 _ rfl
    have s7 := hsp 7 _ rfl
    have s8 := hsp 8 _ rfl
    have s9 := hsp 9 _ rfl
    have s10 := hsp 10 _ rfl
    have b0 := hbx.cell (i := 0) rfl
    have b1 := hbx.cell (i := 1) rfl
    have b2 := hbx.cell (i := 2) rfl
    have b3 := hbx.cell (i := 3) rfl
    have b4 := hbx.cell (i := 4) rfl
    have b5 := hbx.cell (i := 5) rfl
    have b6 := hbx.cell (i := 6) rfl
    have b7 := hbx.cell (i := 7) rfl
    have b8 := hbx.cell (i := 8) rfl
    have b9 := hbx.cell (i := 9) rfl
    have b10 := hbx.cell (i := 10) rfl
    have he := eql_sp y s
    unfold Sp.val at he
    obtain ⟨r, hr⟩ : ∃ r, Sp.eq y s = r := ⟨_, rfl⟩
    rw [hr] at he HPK
    have hki : (0 : Int) ≤ k := by omega
    have hkl : (k : Int) < L.length := by omega
    have HEND : Stow (∀ v, v = (mc || !r) → ∃ m' : Km, m'.k = St.putK ⟨mh, ml, L, mx, mc⟩ s ∧ KO (w1.setCell ⟨g, Q.length * 5 + 4, none⟩ (.bool v)).drew B (some ⟨g, 0, none⟩) cap (Q ++ m' :: T) ∧ Below B w (w1.setCell ⟨g, Q.length * 5 + 4, none⟩ (.bool v)).drew) := ⟨fun v hv => ⟨⟨⟨mh, ml, L, mx, mc || !r⟩, some ⟨sb, so, none⟩, mcap⟩, HPK.out.symm,
      (KO.cell (f := 4) (v := .bool v) (m' := ⟨⟨mh, ml, L, mx, mc || !r⟩, some ⟨sb, so, none⟩, mcap⟩) HH.out HB1.out (by omega) (by rw [hv]; rfl) rfl rfl rfl).keep (Below.drew (Below.self _)), Below.drew (((HBW.out.trans (HB1.out.mono HBW.out.size)).mono hB).setCell (p := ⟨g, Q.length * 5 + 4, none⟩) HGB.out.1 _)⟩⟩
    clear hsp hbx hy hr HRB HPK HO HK hk
    cases mc
    · go_wp2_with fail
      go_region
      all_goals
        go_wp2_with fail
        first | go_end0 | refine bodyPost_ret (results_none rfl _ _ _) rfl ?_
        exact ⟨rfl, HEND.out _ (by simp)⟩
    · go_wp2_with fail
      go_region
      all_goals
        go_wp2_with fail
        first | go_end0 | refine bodyPost_ret (results_none rfl _ _ _) rfl ?_
        exact ⟨rfl, HEND.out _ (by simp)⟩
  | none =>
    simp only [St.ixInt]
    have HRB : Stow (∀ j v, (Km.mk ⟨mh, ml, L, mx, mc⟩ A mcap).cells[j]? = some v → w1.cell? ⟨g, Q.length * 5 + j, none⟩ = some v) := ⟨fun j v hj => by
      rw [HB1.out.cell (p := ⟨g, Q.length * 5 + j, none⟩) (by have := HGB.out.2; have := HBW.out.size; simp; omega)]
      exact HRA.out j v hj⟩
    have HF : Stow (∀ j, w1.frozen? ⟨g, Q.length * 5 + j, none⟩ = false) := ⟨fun j => by
      rw [HB1.out.frozen (p := ⟨g, Q.length * 5 + j, none⟩) (by have := HGB.out.2; have := HBW.out.size; simp; omega)]
      exact HFZ.out _⟩
    have c2 := HRB.out 2 _ rfl
    have hneg : ¬ (0 : Int) ≤ -1 := by omega
    by_cases h64 : 64 ≤ L.length
    · have HPK := Stow.mk (St.putK_full (k := ⟨mh, ml, L, mx, mc⟩) HO.out h64)
      have c3 := HRB.out 3 _ rfl
      have hfz := HF.out 3
      have h64i : (64 : Int) ≤ L.length := by omega
      have HEND : Stow (∃ m' : Km, m'.k = St.putK ⟨mh, ml, L, mx, mc⟩ s ∧ KO (w1.setCell ⟨g, Q.length * 5 + 3, none⟩ (.bool true)) B (some ⟨g, 0, none⟩) cap (Q ++ m' :: T) ∧ Below B w (w1.setCell ⟨g, Q.length * 5 + 3, none⟩ (.bool true))) := ⟨⟨⟨mh, ml, L, true, mc⟩, A, mcap⟩, HPK.out.symm,
        KO.cell HH.out HB1.out (by omega) rfl rfl rfl rfl, ((HBW.out.trans (HB1.out.mono HBW.out.size)).mono hB).setCell (p := ⟨g, Q.length * 5 + 3, none⟩) HGB.out.1 _⟩
      clear HRB HPK HO HK
      go_wp2_with fail
      first | go_end0 | refine bodyPost_ret (results_none rfl _ _ _) rfl ?_
      exact ⟨rfl, HEND.out⟩
    · have HPK := Stow.mk (St.putK_new (k := ⟨mh, ml, L, mx, mc⟩) HO.out h64)
      obtain ⟨sb, c0, hform, hge, hlt⟩ := World.ownsRow.form HMO.out hpos
      simp only [Value.slice.injEq, true_and] at hform
      obtain ⟨rfl, rfl⟩ := hform
      have hbx := HX.out.kept HB1.out
      have b0 := hbx.cell (i := 0) rfl
      have b1 := hbx.cell (i := 1) rfl
      have b2 := hbx.cell (i := 2) rfl
      have b3 := hbx.cell (i := 3) rfl
      have b4 := hbx.cell (i := 4) rfl
      have b5 := hbx.cell (i := 5) rfl
      have b6 := hbx.cell (i := 6) rfl
      have b7 := hbx.cell (i := 7) rfl
      have b8 := hbx.cell (i := 8) rfl
      have b9 := hbx.cell (i := 9) rfl
      have b10 := hbx.cell (i := 10) rfl
      have h64i : ¬ (64 : Int) ≤ L.length := by omega
      have hng : sb ≠ g := HH.out.off (Km.mk ⟨mh, ml, L, mx, mc⟩ (some ⟨sb, 0, none⟩) mcap) (by simp) _ _ rfl rfl
      have hb2 : Below w1.heap.size w1 (w1.alloc (.cells s.cells.toArray 64)).drew := Below.drew (Below.alloc' (Below.self w1) _)
      have HKO := Stow.mk ((HH.out.keep HB1.out).keep hb2)
      have HXX : Stow (∀ j u, s.cells[j]? = some u → (w1.alloc (.cells s.cells.toArray 64)).drew.cell? ((⟨w1.heap.size, 0, none⟩ : Addr).add j) = some u) := ⟨by
        have := World.news_of_block (w := (w1.alloc (.cells s.cells.toArray 64)).drew) (cs := s.cells.toArray) (heap_alloc_new w1 _)
        intro j u hj
        exact this j u (by simpa using hj)⟩
      have HX1 : Stow (∀ u ∈ s.cells, u.oneCell' = true) := ⟨Sp.one s⟩
      have HN1 : Stow (L.length + 1 ≤ maxLen ∧ (L.length + 1) * 96 ≤ 140737488355328 ∧ B ≤ (w1.alloc (.cells s.cells.toArray 64)).drew.heap.size) := ⟨by unfold maxLen; omega, by omega, by have := hb2.size; have := HB1.out.size; have := HBW.out.size; omega⟩
      obtain ⟨i0, hi, hz, hsz, hby⟩ := info_parts info_spn
      have HI := Stow.mk hi
      have HZ := Stow.mk hz
      have HSZ := Stow.mk hsz
      have HBY := Stow.mk hby
      have HBD := Stow.mk ((HBW.out.trans (HB1.out.mono HBW.out.size)).trans (hb2.mono (Nat.le_trans HBW.out.size HB1.out.size)))
      have HOS := Stow.mk (show (w1.alloc (.cells s.cells.toArray 64)).drew.ownsRow B 64 11 (.slice (some ⟨sb, 0, none⟩) L.length mcap) L.length (L.flatMap Sp.cells) from HKO.out.each _ (List.mem_append_right _ (List.mem_cons_self ..)))
      have HRC : Stow ((w1.alloc (.cells s.cells.toArray 64)).drew.cell? ⟨g, Q.length * 5 + 2, none⟩ = some (.slice (some ⟨sb, 0, none⟩) L.length mcap) ∧ (w1.alloc (.cells s.cells.toArray 64)).drew.frozen? ⟨g, Q.length * 5 + 2, none⟩ = false ∧ g < (w1.alloc (.cells s.cells.toArray 64)).drew.heap.size) := ⟨by
        have hgl : g < w1.heap.size := by have := HGB.out.2; have := HBW.out.size; have := HB1.out.size; omega
        exact ⟨by rw [hb2.cell (p := ⟨g, Q.length * 5 + 2, none⟩) hgl]; exact c2, by rw [hb2.frozen (p := ⟨g, Q.length * 5 + 2, none⟩) hgl]; exact HF.out 2, Nat.lt_of_lt_of_le hgl hb2.size⟩⟩
      have hnbg : (sb == g) = false := by simpa using hng
      have hgl : g < w1.heap.size := by have := HGB.out.2; have := HBW.out.size; have := HB1.out.size; omega
      have hxl : w.heap.size < w1.heap.size := by have := HX.out.lt; have := HB1.out.size; omega
      have hn1 : (w1.heap.size == g) = false := by simp; omega
      have hn2 : (w1.heap.size == w.heap.size) = false := by simp; omega
      clear HRB HO HK hbx hi hz hsz hby hb2
      unfold Sp.cells at HXX HX1 HN1 HKO HBD HOS HRC
      go_wp2_with fail
      go_region_law (refine step_append_lies _ rfl (.tmp 15) (.tmp 17) 38 rfl B 64 i0 _ 11 96 Tryz.underlying38 HI.out HZ.out HSZ.out HBY.out rfl (by decide) _ L.length _ rfl HOS.out ⟨w1.heap.size, 0, none⟩ 1 1 _ rfl rfl HXX.out HX1.out (by decide) HN1.out.1 HN1.out.2.1 HN1.out.2.2 _ rfl ?_; intro g' cap' w' hown hgrow hat hlt'; have HOW := Stow.mk hown; have HGR := Stow.mk hgrow; have HAT := Stow.mk hat; have d2 := (hgrow.cell_far ⟨g, Q.length * 5 + 2, none⟩ HRC.out.2.2 (by intro e; cases e; exact hng rfl)).trans HRC.out.1; have f2 := (hgrow.frozen_far ⟨g, Q.length * 5 + 2, none⟩ HRC.out.2.2 (by intro e; cases e; exact hng rfl)).trans HRC.out.2.1; clear hown hgrow hat)
      all_goals
        go_wp2_with fail
        first | go_end0 | refine bodyPost_ret (results_none rfl _ _ _) rfl ?_
        refine ⟨rfl, _, HPK.out.symm, KO.grow HKO.out rfl HOW.out HGR.out (by rcases HAT.out with e | e; exact .inl (Option.some.inj (show (some sb : Option Nat) = some g' from e)); exact .inr e), ?_⟩
        have hz := HBD.out.size
        exact ((HBD.out.mono hB).grown HGR.out (by have := HN1.out.2.2; omega) (fun k hk => (World.ownsRow.lt HOS.out k hk).1)).setCell (p := ⟨g, Q.length * 5 + 2, none⟩) HGB.out.1 _
end Go.Proofs.YtfbhdkkmcfnghaaGreat
end

section
namespace Go.Proofs.YtfbhdkkmcfnghaaGreat
open Go.RowKit
set_option linter.unusedVariables false

theorem zero_flat (z : Array Value) (n : Nat) (hz : 0 < z.size) : (Builtin.zeroCells z n).toList.length = n * z.size ∧ ∀ u ∈ (Builtin.zeroCells z n).toList, u ∈ z.toList := by
  constructor
  · simp [Builtin.zeroCells]
  · intro u hu
    simp only [Builtin.zeroCells, Array.toList_map, List.mem_map] at hu
    obtain ⟨i, _, rfl⟩ := hu
    rw [getElem!_pos z (i % z.size) (Nat.mod_lt _ hz)]
    simp
theorem run_clear_kept (w : World) (ty : TypeId) (b o n c : Nat) (hn : 0 < n) (hc : ∀ j, j < n * 5 → (w.cell? ⟨b, o + j, none⟩).isSome = true) (hf : ∀ j, j < n * 5 → w.frozen? ⟨b, o + j, none⟩ = false) :
    ∃ zs : List Value, zs.length = n * 5 ∧ (Builtin.clear_ #[30] ty #[.slice (some ⟨b, o, none⟩) n c]).run Tryz.prog w = .ok (.tuple #[]) (w.setCells b o zs) := by
  obtain ⟨h1, h2⟩ := zero_flat (Value.agg #[.int .u64 0, .int .u64 0, .slice none 0 0, .bool false, .bool false]).cells n (by decide)
  have hz := fun w => Tryz.zeroValue40 w
  rw [show (Value.agg #[.int .u64 0, .int .u64 0, .slice none 0 0, .bool false, .bool false]).cells.size = 5 from rfl] at h1
  refine ⟨_, h1, ?_⟩
  have hst := run_storeCells_cells (P := Tryz.prog) b o (Builtin.zeroCells (Value.agg #[.int .u64 0, .int .u64 0, .slice none 0 0, .bool false, .bool false]).cells n).toList 0 w (by rw [h1]; simpa using hc) (by rw [h1]; simpa using hf) (by
    intro v hv'
    have := h2 v hv'
    simp [Value.cells] at this
    rcases this with rfl | rfl | rfl <;> rfl)
  simp only [Nat.add_zero] at hst
  obtain ⟨m, rfl⟩ : ∃ m, n = m + 1 := ⟨n - 1, by omega⟩
  simp [Builtin.clear_, run_underlying Tryz.underlying30, hz, hst]
theorem putL_front (cs xs : List Value) (h : cs.length ≤ xs.length) : putL xs 0 cs = cs ++ xs.drop cs.length := by
  have := putL_mid cs [] (xs.take cs.length) (xs.drop cs.length) (by rw [List.length_take]; omega)
  simpa using this
theorem putL_back (zs pre old : List Value) (h : zs.length = old.length) : putL (pre ++ old) pre.length zs = pre ++ zs := by
  have := putL_mid zs pre old [] h
  simpa using this
theorem own_cutK {w : World} {B : Nat} {e : TypeId} {size g n cap k : Nat} {xs : List Value} (h : w.ownsRow B e size (.slice (some ⟨g, 0, none⟩) n cap) n xs) (hk : k ≤ n) : w.ownsRow B e size (.slice (some ⟨g, 0, none⟩) k cap) k (xs.take (k * size)) := by
  have hkn : k * size ≤ n * size := Nat.mul_le_mul_right _ hk
  have hl := h.1
  refine ⟨by rw [List.length_take]; omega, ?_⟩
  rcases h.2 with ⟨h0, _⟩ | ⟨g', cap', cur, hv, hbg, hg, hnc, hcm, hcs, htake⟩
  · cases h0
  · cases hv
    refine .inr ⟨g, cap, cur, rfl, hbg, hg, by omega, hcm, hcs, ?_⟩
    rw [← htake, List.take_take, Nat.min_eq_left hkn]
theorem km_flat_drop : ∀ (R : List Km) (k : Nat), (R.flatMap Km.cells).drop (k * 5) = (R.drop k).flatMap Km.cells
  | R, 0 => by simp
  | [], k + 1 => by simp
  | x :: t, k + 1 => by
    rw [List.flatMap_cons, List.drop_succ_cons, ← km_flat_drop t k, List.drop_append, Km.cells_len, List.drop_eq_nil_of_le (by rw [Km.cells_len]; omega), List.nil_append]
    congr 1
    omega
set_option maxHeartbeats 4000000 in
set_option maxRecDepth 100000 in
theorem stDelete_any (B g cap : Nat) (R : List Km) (d : Nat) (w : World) (h : KO w B (some ⟨g, 0, none⟩) cap R) (hB : B ≤ w.heap.size) (hd : d < R.length) (hn : R.length ≤ 1000) :
    Calls Tryz.prog 93 #[.slice (some ⟨g, 0, none⟩) R.length cap, .int .i64 0, .int .i64 (d : Int)] w fun e w' => e = .returned (.slice (some ⟨g, 0, none⟩) (R.length - d) cap) ∧ KO w' B (some ⟨g, 0, none⟩) cap (R.drop d) ∧ Below B w w' := by
  have hgb := own_block h.row _ rfl
  simp only at hgb
  have hcap : R.length ≤ cap := by
    obtain ⟨_, _, hv, hc, _⟩ := (own_of_cells (fun _ => rfl) h.row rfl : SlR w 5 (.slice (some ⟨g, 0, none⟩) R.length cap) (R.map Km.cells))
    simp only [Value.slice.injEq, List.length_map] at hv hc
    omega
  by_cases h0 : d = 0
  · subst h0
    have HK := Stow.mk h
    have hr0 : (0 : Int) ≤ R.length := by omega
    have hr1 : (R.length : Int) ≤ cap := by omega
    clear h
    go_enter Tryz.func93, Tryz.ntmps93
    go_wp2_with fail
    go_ret
    exact ⟨rfl, by simpa using HK.out, Below.refl _ _⟩
  have hd0 : (0 : Int) ≤ d := by omega
  have hd1 : (d : Int) ≤ R.length := by omega
  have hd2 : ((0 : Int) == (d : Int)) = false := by simp; omega
  have hr0 : (0 : Int) ≤ R.length := by omega
  have hr1 : (R.length : Int) ≤ cap := by omega
  have hr2 : (R.length : Int) ≤ (R.length : Int) := by omega
  -- the rest, moved to the front
  obtain ⟨news, hnews⟩ : ∃ n, (R.drop d).flatMap Km.cells = n := ⟨_, rfl⟩
  have hnl : news.length = (R.length - d) * 5 := by rw [← hnews, km_flat_len, List.length_drop]
  have hflat := km_flat_len R
  have hsrc : ∀ j u, news[j]? = some u → w.drew.cell? ((⟨g, d * 5, none⟩ : Addr).add j) = some u := fun j u hj => by
    have hjl : j < news.length := by
      rcases Nat.lt_or_ge j news.length with h | h
      · exact h
      · rw [List.getElem?_eq_none h] at hj; cases hj
    rw [← hnews, ← km_flat_drop, List.getElem?_drop] at hj
    rw [Addr.add_lit]
    have := h.row.cellAt (d * 5 + j) (by omega)
    exact this.trans hj
  have hone : ∀ u ∈ news, u.oneCell' = true := fun u hu => by
    rw [← hnews] at hu
    obtain ⟨m, _, hu⟩ := List.mem_flatMap.1 hu
    exact Km.one m u hu
  have hspare : ∀ j, j < news.length → (w.drew.cell? ⟨g, 0 + 0 * 5 + j, none⟩).isSome = true ∧ w.drew.frozen? ⟨g, 0 + 0 * 5 + j, none⟩ = false := fun j hj => by
    rw [Nat.zero_mul, Nat.add_zero, Nat.zero_add]
    refine ⟨?_, h.row.frozenAt _⟩
    have := h.row.cellAt j (by omega)
    rw [show w.drew.cell? ⟨g, j, none⟩ = w.cell? ⟨g, j, none⟩ from rfl, this, List.getElem?_eq_getElem (by omega)]
    rfl
  obtain ⟨i0, hi, hz, hsz, hby⟩ := info_parts info_kept
  have HI := Stow.mk hi
  have HSZ := Stow.mk hsz
  have HSR := Stow.mk hsrc
  have HON := Stow.mk hone
  have HSP := Stow.mk hspare
  have HNL := Stow.mk hnl
  have HNE := Stow.mk hnews
  have HFL := Stow.mk hflat
  have HK := Stow.mk h
  have HGB := Stow.mk hgb
  clear hsrc hone hspare hnl hnews hflat h hi hz hsz hby hgb
  go_enter Tryz.func93, Tryz.ntmps93
  go_upto_region 5 with fail
  have hdc : (cap == d) = false := by simp; omega
  have hdc2 : ¬ cap = d := by omega
  have HRM : Stow (0 + (R.length - d) ≤ cap) := ⟨by omega⟩
  -- the world behind the move
  have HOM := Stow.mk (show Only g w (w.drew.setCells g (0 + 0 * 5) news) from (Only.drewN g w 1).trans (only_all news _ _))
  have hrow1 := own_putAll news w.drew (0 + 0 * 5) _ (World.ownsRow.drew HK.out.row)
  rw [show 0 + 0 * 5 = 0 from rfl] at hrow1
  rw [putL_front news (R.flatMap Km.cells) (by rw [HNL.out, HFL.out]; omega)] at hrow1
  obtain ⟨W1, hW1⟩ : ∃ W, w.drew.setCells g (0 + 0 * 5) news = W := ⟨_, rfl⟩
  rw [show w.drew.setCells g 0 news = W1 from hW1] at hrow1
  rw [hW1] at HOM
  have HW1 := Stow.mk hW1
  have hfull : (news ++ (R.flatMap Km.cells).drop news.length).length = R.length * 5 := by
    have h1 := HNL.out
    have h2 := HFL.out
    rw [List.length_append, List.length_drop]
    omega
  obtain ⟨zs, hzl, hzr⟩ := run_clear_kept W1 30 g ((R.length - d) * 5) (R.length - (R.length - d)) (cap - (R.length - d)) (by omega) (fun j hj => by
    rw [hrow1.cellAt _ (by omega), List.getElem?_eq_getElem (by omega)]; rfl) (fun j _ => hrow1.frozenAt _)
  have hcl : ∀ ty, (Builtin.clear_ #[30] ty #[.slice (some ⟨g, (R.length - d) * 5, none⟩) (R.length - (R.length - d)) (cap - (R.length - d))]).run Tryz.prog W1 = .ok (.tuple #[]) (W1.setCells g ((R.length - d) * 5) zs) := fun ty => by
    have := hzr
    simpa [Builtin.clear_] using this
  have hrow2 := own_putAll zs W1 ((R.length - d) * 5) _ hrow1
  have hpl : putL (news ++ (R.flatMap Km.cells).drop news.length) ((R.length - d) * 5) zs = news ++ zs := by
    have := putL_back zs news ((R.flatMap Km.cells).drop news.length) (by have h1 := HNL.out; have h2 := HFL.out; rw [List.length_drop, hzl]; omega)
    rw [HNL.out] at this ⊢
    exact this
  rw [hpl] at hrow2
  have hrow3 := own_cutK hrow2 (show R.length - d ≤ R.length by omega)
  rw [show (news ++ zs).take ((R.length - d) * 5) = (R.drop d).flatMap Km.cells from by rw [← HNL.out, List.take_left, HNE.out]] at hrow3
  have HR3 := Stow.mk hrow3
  have HO2 := Stow.mk (HOM.out.trans (only_all zs W1 ((R.length - d) * 5)))
  have HCL := Stow.mk hcl
  clear hW1 hrow1 hrow2 hrow3 hpl hcl hzr hzl hfull
  go_region_law (refine step_append_room rfl (.tmp 22) (.tmp 25) 30 rfl 40 i0 5 Tryz.underlying30 HI.out HSZ.out g 0 0 cap rfl ⟨g, d * 5, none⟩ (R.length - d) (cap - d) news rfl HNL.out HSR.out HON.out HRM.out HSP.out ?_)
  all_goals
    generalize hX : World.setCells _ _ _ news = X
    obtain rfl : W1 = X := HW1.out.symm.trans hX
    have hcl := HCL.out
    have hl1 : (0 : Int) ≤ ((R.length - d : Nat) : Int) := by omega
    have hl2 : ((R.length - d : Nat) : Int) ≤ (R.length : Int) := by omega
    have hl3 : (R.length : Int) ≤ (cap : Int) := by omega
    have hl4 : (cap == R.length - d) = false := by simp; omega
    have hl5 : ¬ cap = R.length - d := by omega
    clear hX HW1 hdc hdc2 hd2
    go_wp2_with fail
    go_ret
    have ho := HO2.out
    have hlk := (HK.out.apart.sublist (List.drop_sublist d R))
    refine ⟨rfl, ⟨?_, fun m hm => ?_, fun m hm => HK.out.off m (List.mem_of_mem_drop hm), hlk⟩, ho.below HGB.out.1 hB⟩
    · have := HR3.out
      rw [List.length_drop]
      exact this
    · exact own_other (HK.out.each m (List.mem_of_mem_drop hm)) ho fun a ha => HK.out.off m (List.mem_of_mem_drop hm) _ a rfl ha
end Go.Proofs.YtfbhdkkmcfnghaaGreat
end
