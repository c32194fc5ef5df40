/- What the form grants of a span that comes in. No condition. -/
import Derived.Test.YthbpcdoddcacdaaProg
import Derived.Test.YthbpcdoddcacdaaData
import Derived.Test.YthbpcdoddcacdaaSp
namespace Go.Proofs.Ythbpcdoddcacdaa
open Cells

set_option maxRecDepth 100000 in
theorem flat_trace (w : World) : Flat Try.prog w 56 [pInt .u64, pInt .u64] :=
  flat_struct Try.underlying56 (by kernel_rfl) (.cons 1 rfl (by kernel_rfl) (flat_int Try.underlying54) (.cons 1 rfl (by kernel_rfl) (flat_int Try.underlying54) (.nil _) rfl rfl) rfl rfl)

/-- The claims on a span's cells. -/
def spanCells : List (Value → Prop) := [pInt .u64, pInt .u64, pInt .u64, pInt .u64, pStr, pInt .i64, pInt .i64, pInt .i64, pBool, pInt .i64, pInt .i64]

set_option maxRecDepth 100000 in
theorem flat_span (w : World) : Flat Try.prog w 66 spanCells :=
  flat_struct Try.underlying66 (by kernel_rfl) (.cons 2 rfl (by kernel_rfl) (flat_trace w) (.cons 1 rfl (by kernel_rfl) (flat_int Try.underlying54) (.cons 1 rfl (by kernel_rfl) (flat_int Try.underlying54) (.cons 1 rfl (by kernel_rfl) (flat_string Try.underlying9) (.cons 1 rfl (by kernel_rfl) (flat_int Try.underlying3) (.cons 1 rfl (by kernel_rfl) (flat_int Try.underlying3) (.cons 1 rfl (by kernel_rfl) (flat_int Try.underlying3) (.cons 1 rfl (by kernel_rfl) (flat_bool Try.underlying4) (.cons 1 rfl (by kernel_rfl) (flat_int Try.underlying3) (.cons 1 rfl (by kernel_rfl) (flat_int Try.underlying3) (.nil _) rfl rfl) rfl rfl) rfl rfl) rfl rfl) rfl rfl) rfl rfl) rfl rfl) rfl rfl) rfl rfl) rfl rfl)

theorem pInt_u64 {v : Value} (h : pInt .u64 v) : ∃ n : Nat, v = .int .u64 (n : Int) ∧ n < 18446744073709551616 := by
  obtain ⟨n, rfl, hw⟩ := h
  have h1 : 0 ≤ n ∧ n < 18446744073709551616 := by have := bounds_u64 hw; omega
  exact ⟨n.toNat, by rw [Int.toNat_of_nonneg h1.1], by omega⟩

theorem span_of_cells {cs : List Value} (h : Rel spanCells cs) : ∃ s : Sp, (.agg cs.toArray : Value) = s.val ∧ s.fits := by
  obtain ⟨v0, _, rfl, h0, h⟩ := h.cons_inv
  obtain ⟨v1, _, rfl, h1, h⟩ := h.cons_inv
  obtain ⟨v2, _, rfl, h2, h⟩ := h.cons_inv
  obtain ⟨v3, _, rfl, h3, h⟩ := h.cons_inv
  obtain ⟨v4, _, rfl, h4, h⟩ := h.cons_inv
  obtain ⟨v5, _, rfl, h5, h⟩ := h.cons_inv
  obtain ⟨v6, _, rfl, h6, h⟩ := h.cons_inv
  obtain ⟨v7, _, rfl, h7, h⟩ := h.cons_inv
  obtain ⟨v8, _, rfl, h8, h⟩ := h.cons_inv
  obtain ⟨v9, _, rfl, h9, h⟩ := h.cons_inv
  obtain ⟨v10, _, rfl, h10, h⟩ := h.cons_inv
  obtain rfl := h.nil_inv
  obtain ⟨hi, rfl, kh0⟩ := pInt_u64 h0
  obtain ⟨lo, rfl, kh1⟩ := pInt_u64 h1
  obtain ⟨id, rfl, kh2⟩ := pInt_u64 h2
  obtain ⟨up, rfl, kh3⟩ := pInt_u64 h3
  obtain ⟨name, rfl, kh4⟩ := h4
  obtain ⟨st, rfl, h5⟩ := h5
  obtain ⟨sq, rfl, h6⟩ := h6
  obtain ⟨kd, rfl, h7⟩ := h7
  obtain ⟨sh, rfl⟩ := h8
  obtain ⟨t0, rfl, h9⟩ := h9
  obtain ⟨t1, rfl, h10⟩ := h10
  exact ⟨⟨hi, lo, id, up, name, st, sq, kd, sh, t0, t1⟩, rfl, ⟨kh0, kh1, kh2, kh3, by have := kh4; simp [maxLen] at this; simp; omega⟩⟩

end Go.Proofs.Ythbpcdoddcacdaa
