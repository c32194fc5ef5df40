/- What the form, with its reach, grants of operations; the laws' walks at it. Condition: what the library's variables hold. -/
import Derived.Test.YtbnaicgomabigaaDoorReach
import Derived.Test.YtbnaicgomabigaaDoorPgBack
namespace Go.Proofs.YtbnaicgomabigaaDoor
open Go.RowKit Cells
set_option linter.unusedVariables false

def opCells : List (Value → Prop) := [pInt .i64, pStrR, pStrR, pInt .i64]
theorem flat_op (w : World) : FlatR Tryd.prog w 23 opCells :=
  flatR_struct Tryd.underlying23 (by kernel_rfl) (.cons 1 rfl (by kernel_rfl) (flat_int Tryd.underlying3).reach (.cons 1 rfl (by kernel_rfl) (flatR_string Tryd.underlying9) (.cons 1 rfl (by kernel_rfl) (flatR_string Tryd.underlying9) (.cons 1 rfl (by kernel_rfl) (flat_int Tryd.underlying3).reach (.nil _) rfl rfl) rfl rfl) rfl rfl) rfl rfl)
theorem flat_ops (w : World) : FlatR Tryd.prog w 24 [pSlice w 4 opCells] := flatR_slice Tryd.underlying24 (by kernel_rfl) (flat_op w)
theorem op_cells {cs : List Value} (h : Rel opCells cs) : ∃ p : Ob, cs = p.cells ∧ p.fits := by
  obtain ⟨v0, _, rfl, ⟨k, rfl, hk⟩, h1⟩ := h.cons_inv
  obtain ⟨v1, _, rfl, ⟨a, rfl, ha⟩, h2⟩ := h1.cons_inv
  obtain ⟨v2, _, rfl, ⟨b, rfl, hb⟩, h3⟩ := h2.cons_inv
  obtain ⟨v3, _, rfl, ⟨n, rfl, hn⟩, h4⟩ := h3.cons_inv
  obtain rfl := h4.nil_inv
  exact ⟨⟨k, a, b, n⟩, rfl, ha, hb, (bounds_i64 hn).1, (bounds_i64 hn).2⟩
theorem op_of_cells {cs : List Value} (h : Rel opCells cs) : ∃ p : Ob, .agg cs.toArray = p.val ∧ p.fits := by
  obtain ⟨p, rfl, hp⟩ := op_cells h
  exact ⟨p, rfl, hp⟩
theorem ops_of {w : World} {v : Value} (h : pSlice w 4 opCells v) : ∃ (L : List Ob) (B : Option Addr) (cap : Nat), v = .slice B L.length cap ∧ SlR w 4 (.slice B L.length cap) (L.map Ob.cells) ∧ ∀ m ∈ L, m.a.length ≤ 140737488355328 ∧ m.b.length ≤ 140737488355328 := by
  obtain ⟨L, hL, hf⟩ := slr_of Ob.cells Ob.fits (fun cs hc => op_cells hc) (fun _ => rfl) (by omega) h
  obtain ⟨A, cap, rfl, _⟩ := hL.form
  simp only [List.length_map] at hL ⊢
  exact ⟨L, A, cap, rfl, hL, fun m hm => ⟨(hf m hm).a, (hf m hm).b⟩⟩
theorem says34_at (o : Ob) (v : Value) (l : List UInt8) (w : World) (ho : o.fits) (hv : pSlice w 4 opCells v) (hl : l.length ≤ 140737488355328) (hm : PgEnv w) :
    Calls Tryd.prog 3 #[o.val, v, .string (bs l)] w fun e w' => e = .returned (.bool true) ∧ Below w.heap.size w w' := by
  obtain ⟨L, B, cap, rfl, hS, hf⟩ := ops_of hv
  exact says34 o B cap L l w hS hf ho hl hm
end Go.Proofs.YtbnaicgomabigaaDoor
