/- 'InjectTwice' holds: for every input the call returns true, and the input reads as it did. Conditions: those of the given statement, none besides. -/
import Derived.Test.YtbnaicgomabigaaDoorRows
import Derived.Test.YtbnaicgomabigaaDoorTie
import Derived.Test.YtbnaicgomabigaaDoorCards
import Derived.Test.YtbnaicgomabigaaDoorInData
import Derived.Test.YtbnaicgomabigaaDoorInDoor
import Derived.ProofKit
import Derived.OpenShut
import Derived.ShutString
import Derived.ChangeOld
import Derived.Below
namespace Go.Proofs.YtbnaicgomabigaaDoor.InjectTwiceProof
open Go.ChangeShapes Go.WideShapes Go.ChangeAt Go.RowKit
open Go.ChangeMaps (open_string shut_string)
open Go.Proofs.YtbnaicgomabigaaDoor.Cells
set_option linter.unusedVariables false

theorem own : ownKnob Tryd.prog.godebug = none := by kernel_rfl
theorem laidOut : laidOutB Tryd.prog = true := by kernel_rfl

set_option maxRecDepth 100000 in
theorem lifted (os : Os) (started : os.Started) (H : Type) (enc : TypeId × Value → H) :
    ReturnsInHanded {} Tryd.checked os 7 .any (fun w args => (Rows.injectTwiceSpec.pre enc Tryd.prog Tryd.f7 [] false w args ∧ laidMetH Tryd.prog Rows.injectTwiceRow.laid w) ∧ sizedMet enc Tryd.prog Tryd.f7 (OpenSpec.ofChange Rows.injectTwiceSpec) false w args) (Rows.injectTwiceSpec.post enc Tryd.prog Tryd.f7 false true false false) := by
  refine returns_and_both (C := Tryd.checked) (X := fun w _ => laidMetH Tryd.prog Rows.injectTwiceRow.laid w) (fun _ _ _ hh h => h.of_heap hh.symm) own started (by kernel_rfl) Tryd.func7
    (ChangeSpec.witness_shaped (enc := enc) (C := Tryd.checked) (os := os) (X := fun w _ => laidMetH Tryd.prog Rows.injectTwiceRow.laid w) false (World.laidAll Tryd.prog os laidIn) #[.slice none 0 0, .agg #[.int .u64 0, .int .u64 0, .int .u64 0, .int .i64 0], .agg #[.int .u64 0, .int .u64 0, .int .u64 0, .int .i64 0]] 8 rfl (World.shaped_of_RefB (by kernel_rfl) (by kernel_rfl)) (by kernel_rfl) (by kernel_rfl) (by kernel_rfl) (doorIn_met os _)) ?_
  intro W base args ds gs before hval0 hW _ hz hSh hL _
  have hP := inEnv_of hSh hL
  have hval : ∀ (j : Nat) t v, Tryd.f7.params[j]? = some t → args[j]? = some v → Value.okWide Tryd.prog W .any base t v := hval0
  have hW' := hW
  obtain ⟨p, q, hA0, hV, rfl, hfz, hnd⟩ := hW
  have hA : DataW.TrodAll enc Tryd.prog W 0 (fun _ => true) true Tryd.f7.params.toList args.toList ds p := hA0
  rw [Tryd.params7] at hA hval hz
  obtain ⟨v0, vs0, d0, ds0, p0, q0, hargs, rfl, rfl, h0, r0⟩ := trodAll_cons hA
  obtain ⟨v1, vs1, d1, ds1, p1, q1, rfl, rfl, rfl, h1, r1⟩ := trodAll_cons r0
  obtain ⟨v2, vs2, d2, ds2, p2, q2, rfl, rfl, rfl, h2, r2⟩ := trodAll_cons r1
  obtain ⟨rfl, rfl, rfl⟩ := trodAll_nil r2
  obtain rfl : args = #[v0, v1, v2] := by cases args; simp_all
  obtain ⟨rfl, rfl⟩ := trodVars_none hV
  have z0 := reach_at hz (j := 0) rfl rfl
  have z1 := reach_at hz (j := 1) rfl rfl
  have z2 := reach_at hz (j := 2) rfl rfl
  clear hA0 hval0
  have k0 := h0
  have lt0 : ∀ x ∈ p0, x.block < W.heap.size := by obtain ⟨m, hm⟩ := k0; exact DataW.trod_lt m _ _ _ hm
  have k1 := h1
  have lt1 : ∀ x ∈ p1, x.block < W.heap.size := by obtain ⟨m, hm⟩ := k1; exact DataW.trod_lt m _ _ _ hm
  have k2 := h2
  have lt2 : ∀ x ∈ p2, x.block < W.heap.size := by obtain ⟨m, hm⟩ := k2; exact DataW.trod_lt m _ _ _ hm
  have w0 := openR_slc Tryd.underlying37 (flat_heads W) (hval 0 37 v0 rfl rfl) h0 z0
  obtain ⟨cs1, rfl, w1⟩ := openR_struct Tryd.underlying42 (flat_parent W) (hval 1 42 v1 rfl rfl) h1 z1
  obtain ⟨s1, e1, c1⟩ := parent_of_cells w1
  obtain ⟨cs2, rfl, w2⟩ := openR_struct Tryd.underlying42 (flat_parent W) (hval 2 42 v2 rfl rfl) h2 z2
  obtain ⟨s2, e2, c2⟩ := parent_of_cells w2
  have hwalk : Calls Tryd.prog 7 #[v0, .agg cs1.toArray, .agg cs2.toArray] W fun e w' => e = .returned (.bool true) ∧ Below W.heap.size W w' := by
    rw [e1, e2]
    exact twice23_at v0 s1 s2 W w0 c1 c2 hP
  refine hwalk.mono fun e W' ⟨he, bel⟩ => ?_
  subst he
  exact ⟨_, rfl, _, _, _, [], _, [], hW', trodAll_mk1 (shut_bool Tryd.underlying4 _), (trodAll_cons_mk (Below.trod laidOut (by kernel_rfl) (of_decide_eq_true (by kernel_rfl)) k0 bel lt0) (trodAll_cons_mk (Below.trod laidOut (by kernel_rfl) (of_decide_eq_true (by kernel_rfl)) k1 bel lt1) (trodAll_cons_mk (Below.trod laidOut (by kernel_rfl) (of_decide_eq_true (by kernel_rfl)) k2 bel lt2) trodAll_mk0))), rfl, bel.frame _, fun h => by cases h⟩

theorem over : Rows.injectTwiceRow.holds Tryd.pinned (OpenSpec.ofChange Rows.injectTwiceSpec) :=
  OpenClaim.holds_of_wide 7 Tryd.f7 rfl rfl rfl rfl rfl rfl rfl ⟨rfl, rfl, rfl, rfl, rfl⟩ rfl rfl rfl rfl rfl (by kernel_rfl) Tryd.func7 (by kernel_rfl)
    (of_decide_eq_true (by kernel_rfl)) (by unfold Func.isWrapper; first | (rw [if_pos (by decide +kernel)]; kernel_rfl) | (rw [if_neg (by decide +kernel)]; exact ⟨rfl, rfl⟩))
    (fun os started H enc _ => lifted os started H enc)

end Go.Proofs.YtbnaicgomabigaaDoor.InjectTwiceProof
namespace Go.Proofs.YtbnaicgomabigaaDoor
theorem injectTwice_row_holds : Rows.InjectTwiceSaid := InjectTwiceProof.over
theorem injectTwice_holds : Rows.InjectTwiceCardSaid :=
  Claim7.holds_tied_plain_at .later [] [.data, .pinned] true (true, "7dca3caffd6f7346bfde191fd6a77d58504f9b8887bfc4b0cb276ef330a8a055") true
    injectTwice_row_holds (fun _ h => by cases h) (by kernel_rfl) (fun _ h => by cases h) injectTwice_row_tie rfl ⟨rfl, rfl⟩ (by kernel_rfl) rfl
    (fun f fn hf hfn => by
      obtain rfl : f = 7 := Option.some.inj ((show Tryd.prog.funcNamed "periscope/periscopelaw23.InjectTwice" = some 7 by kernel_rfl).symm.trans hf) |>.symm
      obtain rfl : fn = Tryd.f7 := (Option.some.inj (Tryd.func7.symm.trans hfn)).symm
      exact ⟨by kernel_rfl, fun j t ht => by
        rw [Tryd.params7] at ht
        have hm : t ∈ [37, 42, 42] := by simpa using Array.mem_of_getElem? ht
        have hall : ([37, 42, 42].all fun u => !Tryd.prog.wantsStandIn u) = true := by kernel_rfl
        exact (show Tryd.prog.wantsStandIn t = false by simpa using List.all_eq_true.1 hall t hm)⟩)
    (by kernel_rfl)
#print axioms injectTwice_holds
end Go.Proofs.YtbnaicgomabigaaDoor
