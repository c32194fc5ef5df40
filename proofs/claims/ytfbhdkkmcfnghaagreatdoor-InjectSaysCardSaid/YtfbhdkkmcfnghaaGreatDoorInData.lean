/- What the form, with its reach, grants of headers and of a parent; the laws' walks at it. Condition: a variable of the library's holds an int. -/
import Derived.Test.YtfbhdkkmcfnghaaGreatDoorReach
import Derived.Test.YtfbhdkkmcfnghaaGreatDoorInLaws
namespace Go.Proofs.YtfbhdkkmcfnghaaGreatDoor
open Go.RowKit Cells
set_option linter.unusedVariables false

def headCells : List (Value → Prop) := [pStrR, pStrR]
theorem flat_head (w : World) : FlatR Tryz.prog w 64 headCells :=
  flatR_struct Tryz.underlying64 (by kernel_rfl) (.cons 1 rfl (by kernel_rfl) (flatR_string Tryz.underlying9) (.cons 1 rfl (by kernel_rfl) (flatR_string Tryz.underlying9) (.nil _) rfl rfl) rfl rfl)
theorem flat_heads (w : World) : FlatR Tryz.prog w 22 [pSlice w 2 headCells] := flatR_slice Tryz.underlying22 (by kernel_rfl) (flat_head w)
theorem head_of_cells {cs : List Value} (h : Rel headCells cs) : ∃ p : Hd, cs = p.cells ∧ (p.1.length ≤ 140737488355328 ∧ p.2.length ≤ 140737488355328) := by
  obtain ⟨v0, _, rfl, ⟨n, rfl, hn⟩, h1⟩ := h.cons_inv
  obtain ⟨v1, _, rfl, ⟨l, rfl, hl⟩, h2⟩ := h1.cons_inv
  obtain rfl := h2.nil_inv
  exact ⟨(n, l), rfl, hn, hl⟩
theorem heads_of {w : World} {v : Value} (h : pSlice w 2 headCells v) : ∃ (L : List Hd) (B : Option Addr) (cap : Nat), v = .slice B L.length cap ∧ HdR w B cap L := by
  obtain ⟨L, hL, hf⟩ := slr_of Hd.cells _ (fun cs hc => head_of_cells hc) (fun _ => rfl) (by omega) h
  obtain ⟨A, cap, rfl, _⟩ := hL.form
  simp only [List.length_map] at hL ⊢
  exact ⟨L, A, cap, rfl, hL, hf⟩
theorem pInt_u64 {v : Value} (h : pInt .u64 v) : ∃ n : Nat, v = .int .u64 (n : Int) ∧ n < 18446744073709551616 := by
  obtain ⟨n, rfl, hw⟩ := h
  have h1 : 0 ≤ n ∧ n < 18446744073709551616 := by have := bounds_u64 hw; omega
  exact ⟨n.toNat, by rw [Int.toNat_of_nonneg h1.1], by omega⟩

theorem flat_trace (w : World) : Flat Tryz.prog w 25 [pInt .u64, pInt .u64] :=
  flat_struct Tryz.underlying25 (by kernel_rfl) (.cons 1 rfl (by kernel_rfl) (flat_int Tryz.underlying23) (.cons 1 rfl (by kernel_rfl) (flat_int Tryz.underlying23) (.nil _) rfl rfl) rfl rfl)
def parentCells : List (Value → Prop) := [pInt .u64, pInt .u64, pInt .u64, pInt .i64]
theorem flat_parent (w : World) : FlatR Tryz.prog w 27 parentCells :=
  Flat.reach (flat_struct Tryz.underlying27 (by kernel_rfl) (.cons 2 rfl (by kernel_rfl) (flat_trace w) (.cons 1 rfl (by kernel_rfl) (flat_int Tryz.underlying23) (.cons 1 rfl (by kernel_rfl) (flat_int Tryz.underlying3) (.nil _) rfl rfl) rfl rfl) rfl rfl))
theorem parent_of_cells {cs : List Value} (h : Rel parentCells cs) : ∃ p : Pr, (.agg cs.toArray : Value) = p.val ∧ In.Pr.fits p := by
  obtain ⟨v0, _, rfl, h0, h⟩ := h.cons_inv
  obtain ⟨v1, _, rfl, h1, h⟩ := h.cons_inv
  obtain ⟨v2, _, rfl, h2, h⟩ := h.cons_inv
  obtain ⟨v3, _, rfl, h3, h⟩ := h.cons_inv
  obtain rfl := h.nil_inv
  obtain ⟨a, rfl, ha⟩ := pInt_u64 h0
  obtain ⟨b, rfl, hb⟩ := pInt_u64 h1
  obtain ⟨c, rfl, hc⟩ := pInt_u64 h2
  obtain ⟨d, rfl, hd⟩ := h3
  exact ⟨⟨a, b, c, d⟩, rfl, ⟨ha, hb, hc⟩⟩
end Go.Proofs.YtfbhdkkmcfnghaaGreatDoor
