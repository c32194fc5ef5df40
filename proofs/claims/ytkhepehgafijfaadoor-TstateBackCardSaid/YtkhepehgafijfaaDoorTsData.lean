/- What the form, with its reach, grants of members; the laws' walks at it. Condition: a variable of the library's holds an int. -/
import Derived.Test.YtkhepehgafijfaaDoorReach
import Derived.Test.YtkhepehgafijfaaDoorTsBack
namespace Go.Proofs.YtkhepehgafijfaaDoor
open Go.RowKit Cells
set_option linter.unusedVariables false

def memberCells : List (Value → Prop) := [pStrR, pStrR]
theorem flat_member (w : World) : FlatR Tryd.prog w 54 memberCells :=
  flatR_struct Tryd.underlying54 (by kernel_rfl) (.cons 1 rfl (by kernel_rfl) (flatR_string Tryd.underlying9) (.cons 1 rfl (by kernel_rfl) (flatR_string Tryd.underlying9) (.nil _) rfl rfl) rfl rfl)
theorem flat_members (w : World) : FlatR Tryd.prog w 40 [pSlice w 2 memberCells] := flatR_slice Tryd.underlying40 (by kernel_rfl) (flat_member w)
theorem member_of_cells {cs : List Value} (h : Rel memberCells cs) : ∃ p : Hd, cs = p.cells ∧ (p.1.length ≤ 140737488355328 ∧ p.2.length ≤ 140737488355328) := by
  obtain ⟨v0, _, rfl, ⟨n, rfl, hn⟩, h1⟩ := h.cons_inv
  obtain ⟨v1, _, rfl, ⟨l, rfl, hl⟩, h2⟩ := h1.cons_inv
  obtain rfl := h2.nil_inv
  exact ⟨(n, l), rfl, hn, hl⟩
theorem members_of {w : World} {v : Value} (h : pSlice w 2 memberCells v) : ∃ (L : List Hd) (B : Option Addr) (cap : Nat), v = .slice B L.length cap ∧ SlR w 2 (.slice B L.length cap) (L.map Hd.cells) ∧ ∀ m ∈ L, m.1.length ≤ 140737488355328 ∧ m.2.length ≤ 140737488355328 := by
  obtain ⟨L, hL, hf⟩ := slr_of Hd.cells _ (fun cs hc => member_of_cells hc) (fun _ => rfl) (by omega) h
  obtain ⟨A, cap, rfl, _⟩ := hL.form
  simp only [List.length_map] at hL ⊢
  exact ⟨L, A, cap, rfl, hL, hf⟩
theorem lists08_at (v : Value) (k t : List UInt8) (w : World) (hv : pSlice w 2 memberCells v) (hk : k.length ≤ 140737488355328) (ht : t.length ≤ 140737488355328) (hm : MaxIs w) :
    Calls Tryd.prog 8 #[v, .string (bs k), .string (bs t)] w fun e w' => e = .returned (.bool true) ∧ Below w.heap.size w w' := by
  obtain ⟨L, B, cap, rfl, hS, hf⟩ := members_of hv
  exact lists08 L B cap k t w hS hf hk ht hm
theorem back08_at (v : Value) (k t : List UInt8) (w : World) (hv : pSlice w 2 memberCells v) (hk : k.length ≤ 140737488355328) (ht : t.length ≤ 140737488355328) (hm : MaxIs w) :
    Calls Tryd.prog 9 #[v, .string (bs k), .string (bs t)] w fun e w' => e = .returned (.bool true) ∧ Below w.heap.size w w' := by
  obtain ⟨L, B, cap, rfl, hS, hf⟩ := members_of hv
  exact back08 L B cap k t w hS hf hk ht hm
end Go.Proofs.YtkhepehgafijfaaDoor
