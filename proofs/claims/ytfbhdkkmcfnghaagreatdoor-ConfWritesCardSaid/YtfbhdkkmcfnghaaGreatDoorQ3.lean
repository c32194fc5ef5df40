/- What the form, with its reach, grants of configs. No condition.; What the condition of the rows on configs gives: what the library's variables hold; a world that meets it. -/
import Derived.Test.YtfbhdkkmcfnghaaGreatDoorReach
import Derived.Test.YtfbhdkkmcfnghaaGreatDoorCfMem
import Derived.Test.YtfbhdkkmcfnghaaGreatDoorRows
import Derived.Test.YtfbhdkkmcfnghaaGreatDoorQ2
import Derived.ProofKit
import Derived.LaidMore
import Derived.Lay
import Derived.OpenShut
import Derived.Stop.Joined
import Derived.Stop.LaidErr
import Derived.SizedLaws
import Derived.Shelf.Vars
import Derived.Lib.LaidTab

section
namespace Go.Proofs.YtfbhdkkmcfnghaaGreatDoor
open Go.RowKit Cells
set_option linter.unusedVariables false

def predCells : List (Value → Prop) := [pInt .i64, pStrR, pStrR]
theorem flat_pred (w : World) : FlatR Tryz.prog w 98 predCells :=
  flatR_struct Tryz.underlying98 (by kernel_rfl) (.cons 1 rfl (by kernel_rfl) (flat_int Tryz.underlying3).reach (.cons 1 rfl (by kernel_rfl) (flatR_string Tryz.underlying9) (.cons 1 rfl (by kernel_rfl) (flatR_string Tryz.underlying9) (.nil _) rfl rfl) rfl rfl) rfl rfl)
theorem flat_preds (w : World) : FlatR Tryz.prog w 93 [pSlice w 3 predCells] := flatR_slice Tryz.underlying93 (by kernel_rfl) (flat_pred w)
def ruleCells (w : World) : List (Value → Prop) := [pInt .i64, pSlice w 3 predCells, pStrR, pInt .i64, pInt .i64, pInt .i64, pInt .i64, pInt .i64, pStrR, pInt .i64]
theorem flat_rule (w : World) : FlatR Tryz.prog w 95 (ruleCells w) :=
  flatR_struct Tryz.underlying95 (by kernel_rfl) (.cons 1 rfl (by kernel_rfl) (flat_int Tryz.underlying3).reach (.cons 1 rfl (by kernel_rfl) (flat_preds w) (.cons 1 rfl (by kernel_rfl) (flatR_string Tryz.underlying9)
    (.cons 1 rfl (by kernel_rfl) (flat_int Tryz.underlying3).reach (.cons 1 rfl (by kernel_rfl) (flat_int Tryz.underlying3).reach (.cons 1 rfl (by kernel_rfl) (flat_int Tryz.underlying3).reach (.cons 1 rfl (by kernel_rfl) (flat_int Tryz.underlying3).reach (.cons 1 rfl (by kernel_rfl) (flat_int Tryz.underlying3).reach
    (.cons 1 rfl (by kernel_rfl) (flatR_string Tryz.underlying9) (.cons 1 rfl (by kernel_rfl) (flat_int Tryz.underlying3).reach (.nil _) rfl rfl) rfl rfl) rfl rfl) rfl rfl) rfl rfl) rfl rfl) rfl rfl) rfl rfl) rfl rfl) rfl rfl)
theorem flat_rules (w : World) : FlatR Tryz.prog w 44 [pSlice w 10 (ruleCells w)] := flatR_slice Tryz.underlying44 (by kernel_rfl) (flat_rule w)
def configCells (w : World) : List (Value → Prop) := [pSlice w 10 (ruleCells w), pStrR]
theorem flat_config (w : World) : FlatR Tryz.prog w 54 (configCells w) :=
  flatR_struct Tryz.underlying54 (by kernel_rfl) (.cons 1 rfl (by kernel_rfl) (flat_rules w) (.cons 1 rfl (by kernel_rfl) (flatR_string Tryz.underlying9) (.nil _) rfl rfl) rfl rfl)
theorem pred_of_cells {cs : List Value} (h : Rel predCells cs) : ∃ p : Pd, cs = p.cells ∧ p.fits := by
  obtain ⟨v0, _, rfl, ⟨k, rfl, _⟩, h1⟩ := h.cons_inv
  obtain ⟨v1, _, rfl, ⟨n, rfl, hn⟩, h2⟩ := h1.cons_inv
  obtain ⟨v2, _, rfl, ⟨l, rfl, hl⟩, h3⟩ := h2.cons_inv
  obtain rfl := h3.nil_inv
  exact ⟨⟨k, n, l⟩, rfl, hn, hl⟩
theorem preds_of {w : World} {v : Value} (h : pSlice w 3 predCells v) : ∃ (L : List Pd) (B : Option Addr) (cap : Nat), v = .slice B L.length cap ∧ SlR w 3 (.slice B L.length cap) (L.map Pd.cells) ∧ ∀ p ∈ L, p.fits := by
  obtain ⟨L, hL, hf⟩ := slr_of Pd.cells _ (fun cs hc => pred_of_cells hc) (fun _ => rfl) (by omega) h
  obtain ⟨A, cap, rfl, _⟩ := hL.form
  simp only [List.length_map] at hL ⊢
  exact ⟨L, A, cap, rfl, hL, hf⟩
theorem rule_of_cells {w : World} {cs : List Value} (h : Rel (ruleCells w) cs) : ∃ m : Rm, cs = m.cells ∧ RmR w m := by
  unfold ruleCells at h
  obtain ⟨_, _, rfl, ⟨rank, rfl, _⟩, a1⟩ := h.cons_inv
  obtain ⟨v1, _, rfl, h1, a2⟩ := a1.cons_inv
  obtain ⟨_, _, rfl, ⟨tg, rfl, htg⟩, a3⟩ := a2.cons_inv
  obtain ⟨_, _, rfl, ⟨ap, rfl, _⟩, a4⟩ := a3.cons_inv
  obtain ⟨_, _, rfl, ⟨st, rfl, _⟩, a5⟩ := a4.cons_inv
  obtain ⟨_, _, rfl, ⟨dp, rfl, _⟩, a6⟩ := a5.cons_inv
  obtain ⟨_, _, rfl, ⟨dt, rfl, _⟩, a7⟩ := a6.cons_inv
  obtain ⟨_, _, rfl, ⟨mp, rfl, _⟩, a8⟩ := a7.cons_inv
  obtain ⟨_, _, rfl, ⟨mi, rfl, hmi⟩, a9⟩ := a8.cons_inv
  obtain ⟨_, _, rfl, ⟨sm, rfl, _⟩, b0⟩ := a9.cons_inv
  obtain rfl := b0.nil_inv
  obtain ⟨L, B, cap, rfl, hL, hf⟩ := preds_of h1
  exact ⟨⟨⟨rank, L, tg, ap, st, dp, dt, mp, mi, sm⟩, B, cap⟩, rfl, hL, hf, htg, hmi⟩
theorem rules_of {w : World} {v : Value} (h : pSlice w 10 (ruleCells w) v) : ∃ (R : List Rm) (B : Option Addr) (cap : Nat), v = .slice B R.length cap ∧ RsR w B cap R := by
  obtain ⟨L, hL, hf⟩ := slr_of Rm.cells _ (fun cs hc => rule_of_cells hc) (fun _ => rfl) (by omega) h
  obtain ⟨A, cap, rfl, _⟩ := hL.form
  simp only [List.length_map] at hL ⊢
  exact ⟨L, A, cap, rfl, hL, hf⟩
/-- A config that came in. -/
structure CfArg where
  f : List UInt8
  A : Option Addr
  cap : Nat
  R : List Rm
def CfArg.c (x : CfArg) : Cf := ⟨x.R.map Rm.r, x.f⟩
def CfArg.val (x : CfArg) : Value := .agg #[.slice x.A x.R.length x.cap, .string (bs x.f)]
structure CfArg.ok (w : World) (x : CfArg) : Prop where
  rs : RsR w x.A x.cap x.R
  f : x.f.length ≤ 140737488355328
theorem config_of_cells {w : World} {cs : List Value} (h : Rel (configCells w) cs) : ∃ x : CfArg, (.agg cs.toArray : Value) = x.val ∧ x.ok w := by
  unfold configCells at h
  obtain ⟨v0, _, rfl, h0, a1⟩ := h.cons_inv
  obtain ⟨_, _, rfl, ⟨f, rfl, hf⟩, a2⟩ := a1.cons_inv
  obtain rfl := a2.nil_inv
  obtain ⟨R, A, cap, rfl, hR⟩ := rules_of h0
  exact ⟨⟨f, A, cap, R⟩, rfl, hR, hf⟩
end Go.Proofs.YtfbhdkkmcfnghaaGreatDoor
end

section
namespace Go.Proofs.YtfbhdkkmcfnghaaGreatDoor
open Go.ChangeShapes Go.WideShapes Go.ChangeAt Go.RowKit

section
variable {H : Type} {enc : TypeId × Value → H}
/-- The kit's wrap for rows that list variables, with the world's shape and the condition handed to the contract. -/
theorem returns_and_both {a : Assume} {C : Checked} {os : Os} {f : FuncId} {fn : Func} {s : ChangeSpec} {conds : List PathCond} {apart fresh handsOn again : Bool} {X : World → Array Value → Prop} (hX : ∀ (w w' : World) (args : Array Value), w'.heap = w.heap → X w args → X w' args)
    (own : ownKnob C.prog.godebug = none) (started : os.Started) (noInit : C.prog.inits.idxOf? f = none) (hfn : C.prog.funcs[f]? = some fn)
    (witness : ∃ (w : World) (tape : Tape) (i : Input), w.os = os ∧ (w.forCall tape i).Shaped C.prog ∧ i.vars = [] ∧ Input.okWide C.prog (w.forCall tape i) .any w.heap.size f i ∧
      ((s.pre enc C.prog fn conds apart (w.forCall tape i).memory i.args ∧ X (w.forCall tape i).memory i.args) ∧ sizedMet enc C.prog fn (OpenSpec.ofChange s) apart (w.forCall tape i).memory i.args) ∧ a.holds C.prog (lone (Frame.enter C.prog f i.args .normal) [] (w.forCall tape i)))
    (contract : ∀ (W : World) (base : Nat) (args : Array Value) (ds gs : List (DataW H)) (before : List MemPlace),
      (∀ (j : Nat) t v, fn.params[j]? = some t → args[j]? = some v → Value.okWide C.prog W .any base t v) →
      DataW.Whole enc C.prog fn.params.toList s.vars apart W args.toList ds gs before →
      conds.all (PathCond.test C.prog ⟨fn.params.toList, ds, s.plain.varTypes C.prog, gs⟩) = true →
      (DataW.weightsEach C.prog (fn.params.toList ++ s.plain.varTypes C.prog) (ds ++ gs)).all (· ≤ reachBytes) = true → W.ShapedOpen C.prog → X W args →
      a.holds C.prog (lone (Frame.enter C.prog f args .normal) [] W) →
      Calls C.prog f args W fun e W' => ∃ v, e = .returned v ∧ s.post enc C.prog fn apart fresh handsOn again W args v W') :
    ReturnsInHanded a C os f .any (fun w args => (s.pre enc C.prog fn conds apart w args ∧ X w args) ∧ sizedMet enc C.prog fn (OpenSpec.ofChange s) apart w args) (s.post enc C.prog fn apart fresh handsOn again) := by
  refine returnsInHanded_of_calls own started noInit witness ?_
  intro w tape i _ hsh _ hok hpre hholds
  obtain ⟨_, _, _, fn', hfn', _, _, _, _, hval⟩ := hok
  have e : fn' = fn := Option.some.inj (hfn'.symm.trans hfn)
  subst e
  obtain ⟨⟨⟨ds, gs, before, hw, hc⟩, hx⟩, hz⟩ := hpre
  have hw' := DataW.Whole.of_heap (w' := w.forCall tape i) (by rfl) hw
  refine (contract (w.forCall tape i) w.heap.size i.args ds gs before hval hw' hc (hz.weights hw) hsh (hX _ _ _ (by rfl) hx) hholds).mono fun e W' ⟨v, he, hp⟩ => ?_
  subst he
  exact ChangeSpec.post_blind hp
end

theorem max_of_shaped' {W : World} (h : W.ShapedOpen Tryz.prog) : MaxIs W :=
  cell_of_shapedOpen_int (g := 0) (t := 3) (zero := #[.int .i64 0]) h (of_decide_eq_true (by kernel_rfl)) (by kernel_rfl) rfl (by kernel_rfl) (by kernel_rfl) Tryz.underlying3
def laidCf : List (String × DataW Unit) := [("math/bits.deBruijn32tab", Rows.laid_math_bits_deBruijn32tab), ("math/bits.deBruijn64tab", Rows.laid_math_bits_deBruijn64tab), ("internal/strconv.uint64pow10", Rows.laid_internal_strconv_uint64pow10), ("unicode/utf8.acceptRanges", Rows.laid_unicode_utf8_acceptRanges), ("unicode/utf8.first", Rows.laid_unicode_utf8_first)]
theorem doorCf_met (os : Os) (args : Array Value) : laidMetH Tryz.prog laidCf ((World.laidAll Tryz.prog os laidCf).forCall (fun _ _ => 0) ⟨#[], args, []⟩).memory := by
  rw [MakeChecks.laidMetH_plain _ _ _ (by kernel_rfl)]
  exact laidMet_laidAll _ (by kernel_rfl) (by kernel_rfl)
theorem gPowG : ∃ g, Tryz.prog.globalNamed "internal/strconv.uint64pow10" = some g ∧ (Tryz.prog.globals[g]?).map (·.type) = some 248 := ⟨1, by kernel_rfl, by kernel_rfl⟩
theorem pow_data' : (Rows.laid_internal_strconv_uint64pow10 : DataW Unit) = Lib.tabData .u64 Lib.pow10Tab := by kernel_rfl
theorem pow10_head {r : List (String × DataW Unit)} {W : World} (h : laidMet Tryz.prog (("internal/strconv.uint64pow10", Rows.laid_internal_strconv_uint64pow10) :: r) W) : Pow10 W := by
  obtain ⟨ps, ⟨g2, t2, cs2, f2, p2, q2, hg2, ht2, hv2, hd2, _, _⟩, _⟩ := h
  obtain ⟨g, hg, hgt⟩ := gPowG
  obtain rfl := Option.some.inj (hg.symm.trans hg2)
  obtain rfl := Option.some.inj (hgt.symm.trans ht2)
  rw [pow_data'] at hd2
  unfold Pow10 Lib.TabIs
  rw [hv2, ← Lib.cells_of_tab Tryz.underlying248 Tryz.underlying23 (by kernel_rfl) (by kernel_rfl) hd2]
/-- What the library's variables hold. -/
structure CfEnv (W : World) : Prop where
  max : MaxIs W
  pow : Pow10 W
theorem cfEnv_of {W : World} (hS : W.ShapedOpen Tryz.prog) (h : laidMetH Tryz.prog laidCf W) : CfEnv W := by
  rw [MakeChecks.laidMetH_plain _ _ _ (by kernel_rfl)] at h
  exact ⟨max_of_shaped' hS, pow10_head h.tail.tail⟩
end Go.Proofs.YtfbhdkkmcfnghaaGreatDoor
end
