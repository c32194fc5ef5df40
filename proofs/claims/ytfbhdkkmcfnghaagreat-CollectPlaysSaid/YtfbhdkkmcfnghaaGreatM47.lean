/- Lists of texts as they come in. Conditions: those of the form.; The statement on a collector against the document's, of arguments as they come in. Conditions: those of the form. -/
import Derived.Test.YtfbhdkkmcfnghaaGreatM45
import Derived.Test.YtfbhdkkmcfnghaaGreatM02
import Derived.Test.YtfbhdkkmcfnghaaGreatM46

section
namespace Go.Proofs.YtfbhdkkmcfnghaaGreat
open Go.RowKit Cells
set_option linter.unusedVariables false

theorem flatR_strs (w : World) : FlatR Tryz.prog w 22 [pSlice w 1 [pStrR]] := flatR_slice Tryz.underlying22 (by kernel_rfl) (flatR_string Tryz.underlying9)
theorem strs_of {w : World} {v : Value} (h : pSlice w 1 [pStrR] v) : ∃ A cap, ∃ l : List (List UInt8), v = .slice A l.length cap ∧ TxR w A cap l ∧ ∀ t ∈ l, t.length ≤ 140737488355328 := by
  obtain ⟨l, h1, h2⟩ := slr_of (α := List UInt8) (fun t => [.string (bs t)]) (fun t => t.length ≤ 140737488355328) (fun cs hc => by
    obtain ⟨v, rfl, l, rfl, hl⟩ := Rel.one hc
    exact ⟨l, rfl, hl⟩) (fun _ => rfl) (by decide) h
  obtain ⟨A, cap, rfl, _⟩ := h1.form
  rw [List.length_map] at h1 ⊢
  exact ⟨A, cap, l, rfl, h1, h2⟩
end Go.Proofs.YtfbhdkkmcfnghaaGreat
end

section
namespace Go.Proofs.YtfbhdkkmcfnghaaGreat
open Go.RowKit Cells
set_option linter.unusedVariables false

theorem flatR_trace33 (w : World) : FlatR Tryz.prog w 25 [pInt .u64, pInt .u64] :=
  Flat.reach (flat_struct Tryz.underlying25 (by kernel_rfl) (.cons 1 rfl (by kernel_rfl) (flat_int Tryz.underlying23) (.cons 1 rfl (by kernel_rfl) (flat_int Tryz.underlying23) (.nil _) rfl rfl) rfl rfl))
theorem pInt_nat33 {v : Value} (h : pInt .u64 v) : ∃ n : Nat, v = .int .u64 (n : Int) := by
  obtain ⟨n, rfl, hw⟩ := h
  have h1 : 0 ≤ n := by have := bounds_u64 hw; omega
  exact ⟨n.toNat, by rw [Int.toNat_of_nonneg h1]⟩
theorem trace_of_cells33 {cs : List Value} (h : Rel [pInt .u64, pInt .u64] cs) : ∃ x : Nat × Nat, (.agg cs.toArray : Value) = .agg #[.int .u64 (x.1 : Int), .int .u64 (x.2 : Int)] ∧ True := by
  obtain ⟨v0, _, rfl, h0, h⟩ := h.cons_inv
  obtain ⟨v1, _, rfl, h1, h⟩ := h.cons_inv
  obtain rfl := h.nil_inv
  obtain ⟨a, rfl⟩ := pInt_nat33 h0
  obtain ⟨b, rfl⟩ := pInt_nat33 h1
  exact ⟨(a, b), rfl, trivial⟩
theorem plays33_at (r : Int) (v : Value) (x : Nat × Nat) (w : World) (hr : -9223372036854775808 ≤ r ∧ r ≤ 9223372036854775807) (h : pSlice w 1 [pStrR] v) :
    Calls Tryz.prog 3 #[.int .i64 r, v, .agg #[.int .u64 (x.1 : Int), .int .u64 (x.2 : Int)]] w fun e w' => e = .returned (.bool true) ∧ Below w.heap.size w w' := by
  obtain ⟨A, cap, l, rfl, h1, h2⟩ := strs_of h
  exact plays33 r A cap l x.1 x.2 w hr h1 h2
end Go.Proofs.YtfbhdkkmcfnghaaGreat
end
