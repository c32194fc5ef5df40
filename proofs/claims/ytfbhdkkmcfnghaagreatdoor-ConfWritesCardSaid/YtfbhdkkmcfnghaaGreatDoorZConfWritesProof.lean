/- 'ConfWrites' holds: for every input the call returns true, and the input reads as it did. Conditions: those of the given statement, none besides. -/
import Derived.Test.YtfbhdkkmcfnghaaGreatDoorRows
import Derived.Test.YtfbhdkkmcfnghaaGreatDoorTie
import Derived.Test.YtfbhdkkmcfnghaaGreatDoorCards
import Derived.Test.YtfbhdkkmcfnghaaGreatDoorQ2
import Derived.Test.YtfbhdkkmcfnghaaGreatDoorQ3
import Derived.ProofKit
import Derived.OpenShut
import Derived.ShutString
import Derived.ChangeOld
import Derived.Below
namespace Go.Proofs.YtfbhdkkmcfnghaaGreatDoor.ConfWritesProof
open Go.ChangeShapes Go.WideShapes Go.ChangeAt Go.RowKit
open Go.ChangeMaps (open_string shut_string)
open Go.Proofs.YtfbhdkkmcfnghaaGreatDoor.Cells
set_option linter.unusedVariables false

theorem own : ownKnob Tryz.prog.godebug = none := by kernel_rfl
theorem laidOut : laidOutB Tryz.prog = true := by kernel_rfl

set_option maxRecDepth 100000 in
theorem lifted (os : Os) (started : os.Started) (H : Type) (enc : TypeId × Value → H) :
    ReturnsInHanded {} Tryz.checked os 6 .any (fun w args => (Rows.confWritesSpec.pre enc Tryz.prog Tryz.f6 [] false w args ∧ laidMetH Tryz.prog Rows.confWritesRow.laid w) ∧ sizedMet enc Tryz.prog Tryz.f6 (OpenSpec.ofChange Rows.confWritesSpec) false w args) (Rows.confWritesSpec.post enc Tryz.prog Tryz.f6 false true false false) := by
  refine returns_and_both (C := Tryz.checked) (X := fun w _ => laidMetH Tryz.prog Rows.confWritesRow.laid w) (fun _ _ _ hh h => h.of_heap hh.symm) own started (by kernel_rfl) Tryz.func6
    (ChangeSpec.witness_shaped (enc := enc) (C := Tryz.checked) (os := os) (X := fun w _ => laidMetH Tryz.prog Rows.confWritesRow.laid w) false (World.laidAll Tryz.prog os laidCf) #[.agg #[.slice none 0 0, .string ByteArray.empty]] 8 rfl (World.shaped_of_RefB (by kernel_rfl) (by kernel_rfl)) (by kernel_rfl) (by kernel_rfl) (by kernel_rfl) (doorCf_met os _)) ?_
  intro W base args ds gs before hval0 hW _ hz hSh hL _
  have hP := cfEnv_of hSh hL
  have hval : ∀ (j : Nat) t v, Tryz.f6.params[j]? = some t → args[j]? = some v → Value.okWide Tryz.prog W .any base t v := hval0
  have hW' := hW
  obtain ⟨p, q, hA0, hV, rfl, hfz, hnd⟩ := hW
  have hA : DataW.TrodAll enc Tryz.prog W 0 (fun _ => true) true Tryz.f6.params.toList args.toList ds p := hA0
  rw [Tryz.params6] at hA hval hz
  obtain ⟨v0, vs0, d0, ds0, p0, q0, hargs, rfl, rfl, h0, r0⟩ := trodAll_cons hA
  obtain ⟨rfl, rfl, rfl⟩ := trodAll_nil r0
  obtain rfl : args = #[v0] := by cases args; simp_all
  obtain ⟨rfl, rfl⟩ := trodVars_none hV
  have z0 := reach_at hz (j := 0) rfl rfl
  clear hA0 hval0
  have k0 := h0
  have lt0 : ∀ x ∈ p0, x.block < W.heap.size := by obtain ⟨m, hm⟩ := k0; exact DataW.trod_lt m _ _ _ hm
  obtain ⟨cs0, rfl, w0⟩ := openR_struct Tryz.underlying54 (flat_config W) (hval 0 54 v0 rfl rfl) h0 z0
  obtain ⟨s0, e0, c0⟩ := config_of_cells w0
  have hwalk : Calls Tryz.prog 6 #[.agg cs0.toArray] W fun e w' => e = .returned (.bool true) ∧ Below W.heap.size W w' := by
    rw [e0]
    exact writes13 s0.c s0.A s0.cap s0.R W c0.rs rfl c0.f hP.max hP.pow
  refine hwalk.mono fun e W' ⟨he, bel⟩ => ?_
  subst he
  exact ⟨_, rfl, _, _, _, [], _, [], hW', trodAll_mk1 (shut_bool Tryz.underlying4 _), (trodAll_cons_mk (Below.trod laidOut (by kernel_rfl) (of_decide_eq_true (by kernel_rfl)) k0 bel lt0) trodAll_mk0), rfl, bel.frame _, fun h => by cases h⟩

theorem over : Rows.confWritesRow.holds Tryz.pinned (OpenSpec.ofChange Rows.confWritesSpec) :=
  OpenClaim.holds_of_wide 6 Tryz.f6 rfl rfl rfl rfl rfl rfl rfl ⟨rfl, rfl, rfl, rfl, rfl⟩ rfl rfl rfl rfl rfl (by kernel_rfl) Tryz.func6 (by kernel_rfl)
    (of_decide_eq_true (by kernel_rfl)) (by unfold Func.isWrapper; first | (rw [if_pos (by decide +kernel)]; kernel_rfl) | (rw [if_neg (by decide +kernel)]; exact ⟨rfl, rfl⟩))
    (fun os started H enc _ => lifted os started H enc)

end Go.Proofs.YtfbhdkkmcfnghaaGreatDoor.ConfWritesProof
namespace Go.Proofs.YtfbhdkkmcfnghaaGreatDoor
theorem confWrites_row_holds : Rows.ConfWritesSaid := ConfWritesProof.over
theorem confWrites_holds : Rows.ConfWritesCardSaid :=
  Claim7.holds_tied_plain_at .later [] [.data, .data, .data, .data, .pinned] true (true, "d7342cf4529db8be6f240626aed81efcb17a9cbd4dd9c42860acc4bd960472aa") false
    confWrites_row_holds (fun _ h => by cases h) (by kernel_rfl) (fun _ h => by cases h) confWrites_row_tie rfl ⟨rfl, rfl⟩ (by kernel_rfl) rfl
    (fun f fn hf hfn => by
      obtain rfl : f = 6 := Option.some.inj ((show Tryz.prog.funcNamed "periscope/periscopelaw13.ConfWrites" = some 6 by kernel_rfl).symm.trans hf) |>.symm
      obtain rfl : fn = Tryz.f6 := (Option.some.inj (Tryz.func6.symm.trans hfn)).symm
      exact ⟨by kernel_rfl, fun j t ht => by
        rw [Tryz.params6] at ht
        have hm : t ∈ [54] := by simpa using Array.mem_of_getElem? ht
        have hall : ([54].all fun u => !Tryz.prog.wantsStandIn u) = true := by kernel_rfl
        exact (show Tryz.prog.wantsStandIn t = false by simpa using List.all_eq_true.1 hall t hm)⟩)
    (by kernel_rfl)
#print axioms confWrites_holds
end Go.Proofs.YtfbhdkkmcfnghaaGreatDoor
