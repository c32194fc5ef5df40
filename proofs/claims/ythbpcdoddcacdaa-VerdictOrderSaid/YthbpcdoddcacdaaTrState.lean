/- What tree.walk holds between two steps: rows of its own, each in its own block. No condition. -/
import Derived.Test.YthbpcdoddcacdaaTrRev
import Derived.Deep.AppendLies
namespace Go.Proofs.Ythbpcdoddcacdaa
open Go.RowKit
set_option linter.unusedVariables false

def stc (p : Nat × Nat) : List Value := [.int .i64 (p.1 : Nat), .int .i64 (p.2 : Nat)]
theorem stc_len (L : List (Nat × Nat)) : (L.flatMap stc).length = L.length * 2 := by
  induction L with
  | nil => rfl
  | cons p t ih => simp only [List.flatMap_cons, List.length_append, ih, List.length_cons, stc, List.length_nil]; omega
theorem info_step : (Try.prog.info? 122).map (fun i => (i.zero, i.size, i.bytes)) = some (some (.agg #[.int .i64 0, .int .i64 0]), 2, 16) := by kernel_rfl
theorem info_bool : (Try.prog.info? 4).map (fun i => (i.zero, i.size, i.bytes)) = some (some (.bool false), 1, 1) := by kernel_rfl
/-- Steps of the call's own. -/
abbrev SRow (w : World) (B : Nat) (v : Value) (L : List (Nat × Nat)) : Prop := w.ownsRow B 122 2 v L.length (L.flatMap stc)
/-- Which places stand already. -/
abbrev MRow (w : World) (B g N : Nat) (out : List (Nat × Nat)) : Prop := w.ownsRow B 4 1 (.slice (some ⟨g, 0, none⟩) N N) N ((List.range N).map fun i => .bool (decide (i ∈ out.map Prod.fst)))
theorem apart_kept {w w' : World} {B : Nat} {e : TypeId} {size n : Nat} {v : Value} {xs : List Value} {row : Option Nat} (h : w.ownsRow B e size v n xs) (hg : w.grownBy w' row) (hne : ∀ k, v.ownBlock = some k → row ≠ some k) : w'.ownsRow B e size v n xs := by
  refine h.kept hg ?_
  cases hv : v.ownBlock with
  | none => exact .inl rfl
  | some k => exact .inr fun e => hne k hv e.symm

structure WS (N B : Nat) (w : World) (v5 v7 : Value) (g6 : Nat) (out td : List (Nat × Nat)) : Prop where
  o : SRow w B v5 out
  t : SRow w B v7 td
  m : MRow w B g6 N out
  ot : ∀ k, v5.ownBlock = some k → v7.ownBlock ≠ some k
  om : v5.ownBlock ≠ some g6
  tm : v7.ownBlock ≠ some g6
section
variable {N B g6 : Nat} {w w' : World} {v5 v7 : Value} {out td : List (Nat × Nat)}
theorem WS.keep (h : WS N B w v5 v7 g6 out td) (hb : Below w.heap.size w w') : WS N B w' v5 v7 g6 out td := ⟨own_kept h.o hb, own_kept h.t hb, own_kept h.m hb, h.ot, h.om, h.tm⟩
theorem row_cut {A : Option Addr} {n cap k : Nat} {L : List (Nat × Nat)} (h : SRow w B (.slice A n cap) L) (hk : k ≤ L.length) (h0 : 0 < L.length) : SRow w B (.slice A k cap) (L.take k) ∧ ∃ g, A = some ⟨g, 0, none⟩ ∧ n = L.length := by
  obtain ⟨h1, h2⟩ := h
  rcases h2 with ⟨_, h3⟩ | ⟨g, cap', cur, hv, hg, hh, hn, hc, hs, ht⟩
  · omega
  · simp only [Value.slice.injEq] at hv
    obtain ⟨rfl, rfl, rfl⟩ := hv
    have e1 : (L.take k).length = k := by rw [List.length_take]; omega
    refine ⟨⟨by rw [stc_len], .inr ⟨g, cap, cur, by rw [e1], hg, hh, by rw [e1]; omega, hc, hs, ?_⟩⟩, g, rfl, rfl⟩
    rw [e1]
    have e2 : (L.take k).flatMap stc = (L.flatMap stc).take (k * 2) := by
      have e3 : L.flatMap stc = (L.take k).flatMap stc ++ (L.drop k).flatMap stc := by rw [← List.flatMap_append, List.take_append_drop]
      have e4 : ((L.take k).flatMap stc).length = k * 2 := by rw [stc_len, e1]
      rw [e3, ← e4, List.take_left]
    rw [e2, ← ht, List.take_take]
    congr 1
    omega
/-- The last one is taken off. -/
theorem WS.pop {A : Option Addr} {n cap : Nat} {x : Nat × Nat} (h : WS N B w v5 (.slice A n cap) g6 out (td ++ [x])) : WS N B w v5 (.slice A td.length cap) g6 out td ∧ ∃ g, A = some ⟨g, 0, none⟩ ∧ n = td.length + 1 ∧ g < w.heap.size ∧ w.cell? ⟨g, td.length * 2, none⟩ = some (.int .i64 (x.1 : Nat)) ∧ w.cell? ⟨g, td.length * 2 + 1, none⟩ = some (.int .i64 (x.2 : Nat)) := by
  obtain ⟨h1, g, rfl, hn⟩ := row_cut h.t (k := td.length) (by simp) (by simp)
  rw [List.take_left] at h1
  have hf : (td ++ [x]).flatMap stc = td.flatMap stc ++ stc x := by rw [List.flatMap_append]; simp
  have c1 := World.ownsRow.cells h.t rfl (td.length * 2) (.int .i64 (x.1 : Nat)) (by rw [hf, List.getElem?_append_right (by rw [stc_len]; exact Nat.le_refl _), stc_len, Nat.sub_self]; rfl)
  have c2 := World.ownsRow.cells h.t rfl (td.length * 2 + 1) (.int .i64 (x.2 : Nat)) (by rw [hf, List.getElem?_append_right (by rw [stc_len]; omega), stc_len, show td.length * 2 + 1 - td.length * 2 = 1 by omega]; rfl)
  rw [Addr.add_lit, Nat.zero_add] at c1 c2
  refine ⟨⟨h.o, h1, h.m, fun k hk => h.ot k hk, h.om, h.tm⟩, g, rfl, by rw [hn]; simp, (World.ownsRow.lt h.t g rfl).2, c1, c2⟩
/-- Whether a place stands already. -/
theorem WS.met (h : WS N B w v5 v7 g6 out td) {x : Nat} (hx : x < N) : w.cell? ⟨g6, x, none⟩ = some (.bool (decide (x ∈ out.map Prod.fst))) ∧ w.frozen? ⟨g6, x, none⟩ = false ∧ g6 < w.heap.size := by
  have c := World.ownsRow.cells h.m rfl x (.bool (decide (x ∈ out.map Prod.fst))) (by rw [List.getElem?_map, List.getElem?_range hx]; rfl)
  rw [Addr.add_lit, Nat.zero_add] at c
  exact ⟨c, World.ownsRow.frozenAt h.m x, (World.ownsRow.lt h.m g6 rfl).2⟩
/-- A step more stands there: the mark, then the row. -/
theorem WS.mark (h : WS N B w v5 v7 g6 out td) {x d : Nat} (hx : x < N) : SRow (w.setCell ⟨g6, x, none⟩ (.bool true)) B v5 out ∧ SRow (w.setCell ⟨g6, x, none⟩ (.bool true)) B v7 td ∧ MRow (w.setCell ⟨g6, x, none⟩ (.bool true)) B g6 N (out ++ [(x, d)]) := by
  refine ⟨apart_kept h.o (Only.set g6 w x _) (fun k hk e => h.om (by rw [hk]; exact e.symm)), apart_kept h.t (Only.set g6 w x _) (fun k hk e => h.tm (by rw [hk]; exact e.symm)), ?_⟩
  have := (World.ownsRow.stored h.m x (.bool true)).1
  have e : ((List.range N).map fun i => Value.bool (decide (i ∈ out.map Prod.fst))).set x (.bool true) = (List.range N).map fun i => Value.bool (decide (i ∈ (out ++ [(x, d)]).map Prod.fst)) := by
    apply List.ext_getElem?
    intro i
    rw [List.getElem?_set, List.getElem?_map, List.getElem?_map]
    by_cases hi : x = i
    · subst hi
      simp [hx]
    · rw [if_neg hi]
      rcases Nat.lt_or_ge i N with h1 | h1
      · simp [List.getElem?_range h1]
        intro e
        exact absurd e.symm hi
      · rw [List.getElem?_eq_none (by simpa using h1)]; rfl
  unfold MRow
  rw [← e]
  exact this
/-- The row has one more. -/
theorem WS.put {v5' : Value} {out' : List (Nat × Nat)} {g' : Nat} (ht : SRow w B v7 td) (hm : MRow w B g6 N out') (hot : ∀ k, v5.ownBlock = some k → v7.ownBlock ≠ some k) (hom : v5.ownBlock ≠ some g6) (htm : v7.ownBlock ≠ some g6)
    (hg : w.grownBy w' v5.ownBlock) (hr : SRow w' B v5' out') (hv : v5'.ownBlock = some g') (hl : v5.ownBlock = some g' ∨ g' = w.heap.size) : WS N B w' v5' v7 g6 out' td := by
  have h6 := (World.ownsRow.lt hm g6 rfl).2
  refine ⟨hr, apart_kept ht hg (fun k hk e => hot k e hk), apart_kept hm hg (fun k hk e => by simp [Value.ownBlock] at hk; subst hk; exact hom e), fun k hk e => ?_, fun e => ?_, htm⟩
  · rw [hv] at hk
    obtain rfl := Option.some.inj hk
    rcases hl with hl | hl
    · exact hot _ hl e
    · have := (World.ownsRow.lt ht _ e).2; omega
  · rw [hv] at e
    obtain rfl := Option.some.inj e
    rcases hl with hl | hl
    · exact hom hl
    · omega
theorem WS.push {v7' : Value} {td' : List (Nat × Nat)} {g' : Nat} (h : WS N B w v5 v7 g6 out td) (hg : w.grownBy w' v7.ownBlock) (hr : SRow w' B v7' td') (hv : v7'.ownBlock = some g') (hl : v7.ownBlock = some g' ∨ g' = w.heap.size) : WS N B w' v5 v7' g6 out td' := by
  have h6 := (World.ownsRow.lt h.m g6 rfl).2
  refine ⟨apart_kept h.o hg (fun k hk e => h.ot k hk e), hr, apart_kept h.m hg (fun k hk e => by simp [Value.ownBlock] at hk; subst hk; exact h.tm e), fun k hk e => ?_, h.om, fun e => ?_⟩
  · rw [hv] at e
    obtain rfl := Option.some.inj e
    rcases hl with hl | hl
    · exact h.ot _ hk hl
    · have := (World.ownsRow.lt h.o _ hk).2; omega
  · rw [hv] at e
    obtain rfl := Option.some.inj e
    rcases hl with hl | hl
    · exact h.tm hl
    · omega
end
end Go.Proofs.Ythbpcdoddcacdaa
