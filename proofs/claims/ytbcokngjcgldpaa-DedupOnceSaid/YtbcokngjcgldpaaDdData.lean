/- Pairs of numbers as the form grants them. No condition. -/
import Derived.Test.YtbcokngjcgldpaaData
import Derived.Test.YtbcokngjcgldpaaSlice
import Derived.Test.YtbcokngjcgldpaaDdMem
namespace Go.Proofs.Ytbcokngjcgldpaa
open Go.RowKit Cells Go.WideShapes
set_option linter.unusedVariables false

abbrev Mv := Int × Int
def Mv.cells (m : Mv) : List Value := [.int .i64 m.1, .int .i64 m.2]
set_option maxRecDepth 100000 in
theorem flat_pair (w : World) : Flat Try.prog w 46 [pInt .i64, pInt .i64] := by
  intro H enc fuel cs x h
  obtain ⟨xs, m, _, _, hl, hxl, hg⟩ := DataW.trod_array Try.underlying46 h
  have hc : (Try.prog).cellsOf 3 = 1 := by kernel_rfl
  have hct : (Try.prog).cellsOf 46 = 2 := by kernel_rfl
  rw [hct] at hl
  have g0 := hg 0 (by omega)
  have g1 := hg 1 (by omega)
  rw [hc] at g0 g1
  rw [List.getElem?_eq_getElem (by omega)] at g0 g1
  match cs, hl with
  | [a, b], _ =>
    have i0 := flat_int (w := w) Try.underlying3 _ _ _ _ _ g0
    have i1 := flat_int (w := w) Try.underlying3 _ _ _ _ _ g1
    simp [Rel] at i0 i1 ⊢
    exact ⟨i0, i1⟩
set_option maxRecDepth 100000 in
theorem flat_pairs (w : World) : Flat Try.prog w 42 [pSlice w 2 [pInt .i64, pInt .i64]] := flat_slice Try.underlying42 (by kernel_rfl) (flat_pair w)
theorem pair_of_cells {cs : List Value} (h : Rel [pInt .i64, pInt .i64] cs) : ∃ m : Mv, cs = m.cells ∧ ((-9223372036854775808 ≤ m.1 ∧ m.1 ≤ 9223372036854775807) ∧ (-9223372036854775808 ≤ m.2 ∧ m.2 ≤ 9223372036854775807)) := by
  obtain ⟨v0, _, rfl, ⟨n, rfl, hn⟩, h1⟩ := h.cons_inv
  obtain ⟨v1, _, rfl, ⟨l, rfl, hl⟩, h2⟩ := h1.cons_inv
  obtain rfl := h2.nil_inv
  exact ⟨(n, l), rfl, Go.bounds_i64 hn, Go.bounds_i64 hl⟩
theorem pairs_of {w : World} {v : Value} (h : pSlice w 2 [pInt .i64, pInt .i64] v) : ∃ (M : List Mv) (A : Option Addr) (cap : Nat), v = .slice A M.length cap ∧ SlR w 2 (.slice A M.length cap) (M.map Mv.cells) := by
  obtain ⟨M, hM, _⟩ := slr_of Mv.cells _ (fun cs hc => pair_of_cells hc) (fun _ => rfl) (by omega) h
  obtain ⟨A, cap, rfl, _⟩ := hM.form
  simp only [List.length_map] at hM ⊢
  exact ⟨M, A, cap, rfl, hM⟩
theorem pair_at {w : World} {b off n cap : Nat} {M : List Mv} (h : SlR w 2 (.slice (some ⟨b, off, none⟩) n cap) (M.map Mv.cells)) {j : Nat} (hj : j < M.length) : b < w.heap.size ∧ w.cell? ⟨b, off + j * 2, none⟩ = some (.int .i64 M[j].1) ∧ w.cell? ⟨b, off + j * 2 + 1, none⟩ = some (.int .i64 M[j].2) := by
  have hi : (M.map Mv.cells)[j]? = some (M[j].cells) := by rw [List.getElem?_map, List.getElem?_eq_getElem hj]; rfl
  obtain ⟨hb, hc⟩ := h.cells hi
  exact ⟨hb, hc 0 _ rfl, hc 1 _ rfl⟩
end Go.Proofs.Ytbcokngjcgldpaa
