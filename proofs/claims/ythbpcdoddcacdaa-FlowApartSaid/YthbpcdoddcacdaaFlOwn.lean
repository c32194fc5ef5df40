/- Walks of flow's own and copied. Conditions: the frames' memory; lists not longer than a thousand. -/
import Derived.Test.YthbpcdoddcacdaaFlSpec
namespace Go.Proofs.Ythbpcdoddcacdaa
open Go.RowKit
set_option linter.unusedVariables false

theorem own_undr {w w' : World} {B : Nat} {e : TypeId} {size n : Nat} {v : Value} {xs : List Value} (h : w.ownsRow B e size v n xs) {g : Nat} (ho : Only g w w') (hg : g < B) : w'.ownsRow B e size v n xs := by
  refine World.ownsRow.kept h ho ?_
  cases hv : v.ownBlock with
  | none => exact .inl rfl
  | some k =>
    right
    have := (World.ownsRow.lt h k hv).1
    intro e; cases e; omega
/-- Where a frame's lists lie. -/
def FmN (N : Nat → Prop) (x : Fm) : Prop := (∀ ad, x.oa = some ad → N ad.block) ∧ ∀ ad, x.ha = some ad → N ad.block
theorem FmN.mono {N N' : Nat → Prop} {x : Fm} (h : FmN N x) (hN : ∀ b, N b → N' b) : FmN N' x := ⟨fun ad e => hN _ (h.1 ad e), fun ad e => hN _ (h.2 ad e)⟩
/-- The lists' sizes. -/
def Fr.small (c : Fr) : Prop := c.ops.length ≤ 1000 ∧ c.hs.length ≤ 1000
theorem own_of_cells {w : World} {B : Nat} {e : TypeId} {c n cap : Nat} {A : Option Addr} {α : Type} {L : List α} {enc : α → List Value} (hc : ∀ x, (enc x).length = c) (h : w.ownsRow B e c (.slice A n cap) n (L.flatMap enc)) (hn : n = L.length) : SlR w c (.slice A n cap) (L.map enc) := by
  refine SlR.of_own h (by simp [hn]) ?_
  rw [List.flatMap_def]
  exact flat_at (fun x hx => by obtain ⟨y, _, rfl⟩ := List.mem_map.1 hx; exact hc y)
theorem flown_results (W : World) (g : Nat) (x : Fm) (tmps : Array Value) (hH : Held W g x.cells) (h2 : tmps[2]?.getD undef = .pointer (some ⟨g, 0, none⟩)) :
    (results Try.f63 tmps).run Try.prog W = .ok x.val W := by
  have c0 := hH.cell (i := 0) rfl
  have c1 := hH.cell (i := 1) rfl
  have c2 := hH.cell (i := 2) rfl
  have c3 := hH.cell (i := 3) rfl
  have c4 := hH.cell (i := 4) rfl
  have c5 := hH.cell (i := 5) rfl
  have c6 := hH.cell (i := 6) rfl
  have c7 := hH.cell (i := 7) rfl
  have c8 := hH.cell (i := 8) rfl
  have c9 := hH.cell (i := 9) rfl
  have c10 := hH.cell (i := 10) rfl
  have c11 := hH.cell (i := 11) rfl
  have c12 := hH.cell (i := 12) rfl
  simp [results, Try.results63, go_sem, h2, c0, c1, c2, c3, c4, c5, c6, c7, c8, c9, c10, c11, c12, Fm.val, Fm.cells]
theorem wpList_store_hx {P : Program} {ops : Array Oper} {rest : List Oper} {op : Oper} {a : Act} {w : World} {Q : Exit → Act → World → Prop} (hgd : op.guard = none) (ty : TypeId) (x y : Operand) (ho : op.op = .store ty x y) (hdst : op.dst = none)
    (b o : Nat) (cells : List Value) (hx : a.eval x = .pointer (some ⟨b, o, none⟩)) (hy : a.eval y = .agg cells.toArray)
    (ht : w.there b o cells.length) (hi : (P.info? ty).map (·.size) = some cells.length) (h1 : ∀ u ∈ cells, u.oneCell' = true)
    (h : wpList P ops Q rest a (w.setCells b o cells)) : wpList P ops Q (op :: rest) a w := by
  refine wpList_store_mid hgd ty x y ho b o cells.toArray hx hy (by simpa using ht) (by simpa using hi) (all_oneCell_toArray h1) ?_
  rw [hdst]
  simpa [Act.put] using h
theorem only_all {g : Nat} : ∀ (cs : List Value) (w : World) (i : Nat), Only g w (w.setCells g i cs)
  | [], w, _ => Only.refl g w
  | v :: t, w, i => (Only.set g w i v).trans (only_all t _ (i + 1))
theorem held_all {g : Nat} : ∀ (cs' : List Value) (cs pre : List Value) (W : World), Held W g (pre ++ cs) → cs.length = cs'.length → Held (W.setCells g pre.length cs') g (pre ++ cs')
  | [], cs, pre, W, h, hl => by
    obtain rfl := List.eq_nil_of_length_eq_zero hl
    exact h
  | v :: t, cs, pre, W, h, hl => by
    rcases cs with _ | ⟨u, r⟩
    · cases hl
    · have h1 := h.set pre.length v
      rw [List.set_append_right _ _ (Nat.le_refl _), Nat.sub_self, List.set_cons_zero] at h1
      have h2 := held_all t r (pre ++ [v]) _ (by simpa using h1) (by simpa using hl)
      rw [List.length_append] at h2
      have h3 : Held ((W.setCell ⟨g, pre.length, none⟩ v).setCells g (pre.length + 1) t) g (pre ++ v :: t) := by simpa using h2
      exact h3
/-- A whole block is written over. -/
theorem Held.over {W : World} {g : Nat} {cs : List Value} (h : Held W g cs) (cs' : List Value) (hl : cs.length = cs'.length) : Held (W.setCells g 0 cs') g cs' := held_all cs' cs [] W h hl
theorem Held.there {W : World} {g : Nat} {cs : List Value} (h : Held W g cs) : W.there g 0 cs.length := fun j hj => by
  rw [Nat.zero_add]
  exact ⟨by rw [h.cell (List.getElem?_eq_getElem hj)]; rfl, h.free j⟩
theorem Held.range {W : World} {g : Nat} {cs : List Value} (h : Held W g cs) : W.rangeAt g 0 cs := fun j v hj => by rw [Nat.zero_add]; exact h.cell hj
theorem Held.offO {w w' : World} {g ga : Nat} {cs : List Value} (h : Held w g cs) (ho : Only ga w w') (hne : g ≠ ga) : Held w' g cs := by
  have := h.lt
  obtain ⟨t, h⟩ := h
  exact ⟨t, (ho.block g this (by simpa using hne)).trans h⟩
theorem Only.belw {g B : Nat} {w w' : World} (h : Only g w w') (hg : B ≤ g) (hB : B ≤ w.heap.size) : Below B w w' := h.below hg hB
abbrev fmz : Fm := ⟨⟨0, [], 0, 0, [], [], [], [], [], [], 0, 0, 0⟩, none, 0, none, 0⟩
set_option maxHeartbeats 2000000 in
set_option maxRecDepth 100000 in
theorem flOwn_any (x : Fm) (w : World) (h : FmR w x) (hs : x.c.small) :
    Calls Try.prog 63 #[x.val] w fun e w' => ∃ x', e = .returned x'.val ∧ x'.c = x.c ∧ FmR w' x' ∧ FmN (fun b => w.heap.size ≤ b ∧ b < w'.heap.size) x' ∧ Below w.heap.size w w' := by
  have HX := Stow.mk ((Held.made w x.cells 30).kept (Below.alloc' (Below.self _) (.cells (Fm.cells fmz).toArray 30)))
  have HR := Stow.mk (Held.made (w.alloc (.cells x.cells.toArray 30)) (Fm.cells fmz) 30)
  have HB := Stow.mk (Below.alloc' (Below.alloc' (Below.self w) (.cells x.cells.toArray 30)) (.cells (Fm.cells fmz).toArray 30))
  obtain ⟨W0, hW0⟩ : ∃ W, (w.alloc (.cells x.cells.toArray 30)).alloc (.cells (Fm.cells fmz).toArray 30) = W := ⟨_, rfl⟩
  have hsz : W0.heap.size = w.heap.size + 1 + 1 := by rw [← hW0]; simp
  rw [hW0] at HB HX HR
  simp only [World.size_alloc] at HR
  have HO := Stow.mk (fun W (hb : Below w.heap.size w W) => cloneO_any _ _ _ W (h.ops.keep hb) hs.1)
  have HH := Stow.mk (fun W (hb : Below w.heap.size w W) => cloneH_any _ _ _ W (h.heads.keep hb) hs.2)
  have HW0 := Stow.mk hW0
  obtain ⟨⟨node, ops, at_, st, body, m, h', p, hs', b, kids, home, hop⟩, oa, oc, ha, hc⟩ := x
  unfold Fm.val
  unfold Fm.cells at HX HW0 ⊢
  simp only at HO HH HX HW0 ⊢
  clear h hs hW0
  go_enter Try.func63, Try.ntmps63
  go_upto_region 1 with fail
  generalize hW : World.alloc (World.alloc w _) _ = W
  obtain rfl : W = W0 := hW.symm.trans HW0.out
  clear hW HW0
  have q1 := HX.out.cell (i := 1) rfl
  have q8 := HX.out.cell (i := 8) rfl
  go_wp2_with fail
  refine (HO.out _ HB.out).mono ?_
  rintro e w1 ⟨A1, c1, rfl, hO1, hb1⟩
  have HX := Stow.mk (HX.out.kept hb1)
  have HR := Stow.mk (HR.out.kept hb1)
  have HB := Stow.mk (HB.out.trans (hb1.mono HB.out.size))
  have s1 := hb1.size
  have f1 := HX.out.free 1
  clear q1 q8 hb1 HO
  have q1 := HX.out.cell (i := 1) rfl
  have hOn : Only w.heap.size w1 (w1.setCell ⟨w.heap.size, 1, none⟩ (.slice A1 ops.length c1)) := Only.set _ _ 1 _
  have HX := Stow.mk (HX.out.set 1 (.slice A1 ops.length c1))
  have HR := Stow.mk (HR.out.offO hOn (by omega))
  have HO1 := Stow.mk (own_undr hO1 hOn (by omega))
  have HB := Stow.mk (HB.out.trans (hOn.below (Nat.le_refl _) HB.out.size))
  have s2 := hOn.size
  go_upto_region 2 with fail
  obtain ⟨W1, hW1⟩ : ∃ W, w1.setCell ⟨w.heap.size, 1, none⟩ (.slice A1 ops.length c1) = W := ⟨_, rfl⟩
  rw [hW1] at HX HR HB HO1 s2
  rw [hW1]
  clear hW1 hOn hO1 q1 f1
  have q8 := HX.out.cell (i := 8) rfl
  go_wp2_with fail
  refine (HH.out _ HB.out).mono ?_
  rintro e w2 ⟨A2, c2, rfl, hO2, hb2⟩
  have HX := Stow.mk (HX.out.kept hb2)
  have HR := Stow.mk (HR.out.kept hb2)
  have HB := Stow.mk (HB.out.trans (hb2.mono HB.out.size))
  have s3 := hb2.size
  have f8 := HX.out.free 8
  have HO1 := Stow.mk (own_kept HO1.out hb2)
  clear q8 hb2 HH
  have q8 := HX.out.cell (i := 8) rfl
  have hOn : Only w.heap.size w2 (w2.setCell ⟨w.heap.size, 8, none⟩ (.slice A2 hs'.length c2)) := Only.set _ _ 8 _
  have HX := Stow.mk (HX.out.set 8 (.slice A2 hs'.length c2))
  have HR := Stow.mk (HR.out.offO hOn (by omega))
  have HO1 := Stow.mk (own_undr HO1.out hOn (by omega))
  have HO2 := Stow.mk (own_undr hO2 hOn (by omega))
  have HB := Stow.mk (HB.out.trans (hOn.below (Nat.le_refl _) HB.out.size))
  have s4 := hOn.size
  go_upto_region 3 with fail
  obtain ⟨W2, hW2⟩ : ∃ W, w2.setCell ⟨w.heap.size, 8, none⟩ (.slice A2 hs'.length c2) = W := ⟨_, rfl⟩
  rw [hW2] at HX HR HB HO1 HO2 s4
  rw [hW2]
  clear hW2 hOn hO2 q8 f8
  obtain ⟨x', hx'⟩ : ∃ x : Fm, x = ⟨⟨node, ops, at_, st, body, m, h', p, hs', b, kids, home, hop⟩, A1, c1, A2, c2⟩ := ⟨_, rfl⟩
  have HX' : Stow (Held W2 w.heap.size x'.cells) := ⟨by rw [hx']; exact HX.out⟩
  have HRA := Stow.mk HX'.out.range
  have HRT := Stow.mk (show W2.there (w.heap.size + 1) 0 x'.cells.length from HR.out.there)
  have hOn : Only (w.heap.size + 1) W2 (W2.setCells (w.heap.size + 1) 0 x'.cells) := only_all _ _ _
  have HR := Stow.mk (HR.out.over x'.cells rfl)
  have HO1 := Stow.mk (own_undr HO1.out hOn (by omega))
  have HO2 := Stow.mk (own_undr HO2.out hOn (by omega))
  have HB := Stow.mk (HB.out.trans (hOn.below (Nat.le_succ _) HB.out.size))
  have s5 := hOn.size
  clear hOn HX
  have HX2 := Stow.mk hx'
  clear hx'
  go_wp2_with (first
    | (refine wpList_load_mid rfl 30 (.tmp 1) rfl w.heap.size 0 rfl x'.cells _ HRA.out Try.underlying30 rfl (by rw [Fm.cells_len]; kernel_rfl) ?_)
    | (refine wpList_store_hx rfl 30 (.tmp 2) (.tmp 13) rfl rfl (w.heap.size + 1) 0 x'.cells rfl rfl HRT.out (by rw [Fm.cells_len]; kernel_rfl) (Fm.one x') ?_))
  obtain ⟨W3, hW3⟩ : ∃ W, W2.setCells (w.heap.size + 1) 0 x'.cells = W := ⟨_, rfl⟩
  rw [hW3] at HR HO1 HO2 HB s5
  rw [hW3]
  clear hW3
  refine bodyPost_ret (flown_results W3 (w.heap.size + 1) x' _ HR.out rfl) rfl ?_
  have hx' := HX2.out
  refine ⟨x', rfl, by rw [hx'], ⟨?_, ?_⟩, ⟨fun ad e => ?_, fun ad e => ?_⟩, HB.out⟩
  · rw [hx']; exact own_of_cells (fun _ => rfl) HO1.out rfl
  · rw [hx']; exact own_of_cells (fun _ => rfl) HO2.out rfl
  · rw [hx'] at e
    have e : A1 = some ad := e
    subst e
    have := World.ownsRow.lt HO1.out ad.block rfl
    exact ⟨by omega, this.2⟩
  · rw [hx'] at e
    have e : A2 = some ad := e
    subst e
    have := World.ownsRow.lt HO2.out ad.block rfl
    exact ⟨by omega, this.2⟩
end Go.Proofs.Ythbpcdoddcacdaa
