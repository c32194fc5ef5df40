/- What the form, with its reach, grants of configs. No condition. -/
import Derived.Test.YtfbhdkkmcfnghaaGreatDoorReach
import Derived.Test.YtfbhdkkmcfnghaaGreatDoorCfMem
namespace Go.Proofs.YtfbhdkkmcfnghaaGreatDoor
open Go.RowKit Cells
set_option linter.unusedVariables false

def predCells : List (Value → Prop) := [pInt .i64, pStrR, pStrR]
theorem flat_pred (w : World) : FlatR Tryz.prog w 98 predCells :=
  flatR_struct Tryz.underlying98 (by kernel_rfl) (.cons 1 rfl (by kernel_rfl) (flat_int Tryz.underlying3).reach (.cons 1 rfl (by kernel_rfl) (flatR_string Tryz.underlying9) (.cons 1 rfl (by kernel_rfl) (flatR_string Tryz.underlying9) (.nil _) rfl rfl) rfl rfl) rfl rfl)
theorem flat_preds (w : World) : FlatR Tryz.prog w 93 [pSlice w 3 predCells] := flatR_slice Tryz.underlying93 (by kernel_rfl) (flat_pred w)
def ruleCells (w : World) : List (Value → Prop) := [pInt .i64, pSlice w 3 predCells, pStrR, pInt .i64, pInt .i64, pInt .i64, pInt .i64, pInt .i64, pStrR, pInt .i64]
theorem flat_rule (w : World) : FlatR Tryz.prog w 95 (ruleCells w) :=
  flatR_struct Tryz.underlying95 (by kernel_rfl) (.cons 1 rfl (by kernel_rfl) (flat_int Tryz.underlying3).reach (.cons 1 rfl (by kernel_rfl) (flat_preds w) (.cons 1 rfl (by kernel_rfl) (flatR_string Tryz.underlying9)
    (.cons 1 rfl (by kernel_rfl) (flat_int Tryz.underlying3).reach (.cons 1 rfl (by kernel_rfl) (flat_int Tryz.underlying3).reach (.cons 1 rfl (by kernel_rfl) (flat_int Tryz.underlying3).reach (.cons 1 rfl (by kernel_rfl) (flat_int Tryz.underlying3).reach (.cons 1 rfl (by kernel_rfl) (flat_int Tryz.underlying3).reach
    (.cons 1 rfl (by kernel_rfl) (flatR_string Tryz.underlying9) (.cons 1 rfl (by kernel_rfl) (flat_int Tryz.underlying3).reach (.nil _) rfl rfl) rfl rfl) rfl rfl) rfl rfl) rfl rfl) rfl rfl) rfl rfl) rfl rfl) rfl rfl) rfl rfl)
theorem flat_rules (w : World) : FlatR Tryz.prog w 44 [pSlice w 10 (ruleCells w)] := flatR_slice Tryz.underlying44 (by kernel_rfl) (flat_rule w)
def configCells (w : World) : List (Value → Prop) := [pSlice w 10 (ruleCells w), pStrR]
theorem flat_config (w : World) : FlatR Tryz.prog w 54 (configCells w) :=
  flatR_struct Tryz.underlying54 (by kernel_rfl) (.cons 1 rfl (by kernel_rfl) (flat_rules w) (.cons 1 rfl (by kernel_rfl) (flatR_string Tryz.underlying9) (.nil _) rfl rfl) rfl rfl)
theorem pred_of_cells {cs : List Value} (h : Rel predCells cs) : ∃ p : Pd, cs = p.cells ∧ p.fits := by
  obtain ⟨v0, _, rfl, ⟨k, rfl, _⟩, h1⟩ := h.cons_inv
  obtain ⟨v1, _, rfl, ⟨n, rfl, hn⟩, h2⟩ := h1.cons_inv
  obtain ⟨v2, _, rfl, ⟨l, rfl, hl⟩, h3⟩ := h2.cons_inv
  obtain rfl := h3.nil_inv
  exact ⟨⟨k, n, l⟩, rfl, hn, hl⟩
theorem preds_of {w : World} {v : Value} (h : pSlice w 3 predCells v) : ∃ (L : List Pd) (B : Option Addr) (cap : Nat), v = .slice B L.length cap ∧ SlR w 3 (.slice B L.length cap) (L.map Pd.cells) ∧ ∀ p ∈ L, p.fits := by
  obtain ⟨L, hL, hf⟩ := slr_of Pd.cells _ (fun cs hc => pred_of_cells hc) (fun _ => rfl) (by omega) h
  obtain ⟨A, cap, rfl, _⟩ := hL.form
  simp only [List.length_map] at hL ⊢
  exact ⟨L, A, cap, rfl, hL, hf⟩
theorem rule_of_cells {w : World} {cs : List Value} (h : Rel (ruleCells w) cs) : ∃ m : Rm, cs = m.cells ∧ RmR w m := by
  unfold ruleCells at h
  obtain ⟨_, _, rfl, ⟨rank, rfl, _⟩, a1⟩ := h.cons_inv
  obtain ⟨v1, _, rfl, h1, a2⟩ := a1.cons_inv
  obtain ⟨_, _, rfl, ⟨tg, rfl, htg⟩, a3⟩ := a2.cons_inv
  obtain ⟨_, _, rfl, ⟨ap, rfl, _⟩, a4⟩ := a3.cons_inv
  obtain ⟨_, _, rfl, ⟨st, rfl, _⟩, a5⟩ := a4.cons_inv
  obtain ⟨_, _, rfl, ⟨dp, rfl, _⟩, a6⟩ := a5.cons_inv
  obtain ⟨_, _, rfl, ⟨dt, rfl, _⟩, a7⟩ := a6.cons_inv
  obtain ⟨_, _, rfl, ⟨mp, rfl, _⟩, a8⟩ := a7.cons_inv
  obtain ⟨_, _, rfl, ⟨mi, rfl, hmi⟩, a9⟩ := a8.cons_inv
  obtain ⟨_, _, rfl, ⟨sm, rfl, _⟩, b0⟩ := a9.cons_inv
  obtain rfl := b0.nil_inv
  obtain ⟨L, B, cap, rfl, hL, hf⟩ := preds_of h1
  exact ⟨⟨⟨rank, L, tg, ap, st, dp, dt, mp, mi, sm⟩, B, cap⟩, rfl, hL, hf, htg, hmi⟩
theorem rules_of {w : World} {v : Value} (h : pSlice w 10 (ruleCells w) v) : ∃ (R : List Rm) (B : Option Addr) (cap : Nat), v = .slice B R.length cap ∧ RsR w B cap R := by
  obtain ⟨L, hL, hf⟩ := slr_of Rm.cells _ (fun cs hc => rule_of_cells hc) (fun _ => rfl) (by omega) h
  obtain ⟨A, cap, rfl, _⟩ := hL.form
  simp only [List.length_map] at hL ⊢
  exact ⟨L, A, cap, rfl, hL, hf⟩
/-- A config that came in. -/
structure CfArg where
  f : List UInt8
  A : Option Addr
  cap : Nat
  R : List Rm
def CfArg.c (x : CfArg) : Cf := ⟨x.R.map Rm.r, x.f⟩
def CfArg.val (x : CfArg) : Value := .agg #[.slice x.A x.R.length x.cap, .string (bs x.f)]
structure CfArg.ok (w : World) (x : CfArg) : Prop where
  rs : RsR w x.A x.cap x.R
  f : x.f.length ≤ 140737488355328
theorem config_of_cells {w : World} {cs : List Value} (h : Rel (configCells w) cs) : ∃ x : CfArg, (.agg cs.toArray : Value) = x.val ∧ x.ok w := by
  unfold configCells at h
  obtain ⟨v0, _, rfl, h0, a1⟩ := h.cons_inv
  obtain ⟨_, _, rfl, ⟨f, rfl, hf⟩, a2⟩ := a1.cons_inv
  obtain rfl := a2.nil_inv
  obtain ⟨R, A, cap, rfl, hR⟩ := rules_of h0
  exact ⟨⟨f, A, cap, R⟩, rfl, hR, hf⟩
end Go.Proofs.YtfbhdkkmcfnghaaGreatDoor
