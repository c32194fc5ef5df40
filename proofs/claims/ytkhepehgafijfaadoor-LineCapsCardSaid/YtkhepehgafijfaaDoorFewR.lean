/- Walk of the law's few. Condition: texts not longer than 2^47. -/
import Derived.Test.YtkhepehgafijfaaDoorFew
namespace Go.Proofs.YtkhepehgafijfaaDoor
open Go.RowKit
set_option linter.unusedVariables false

def fewR (r : Rc) : Bool := fewQ r.m r.h r.p r.b r.hs && decide (r.tg.length + r.tr.length ≤ 400)
/-- What the form's reach gives. -/
structure Rc.reach (r : Rc) : Prop where
  m : r.m.length ≤ 140737488355328
  h : r.h.length ≤ 140737488355328
  p : r.p.length ≤ 140737488355328
  b : r.b.length ≤ 140737488355328
  tg : r.tg.length ≤ 140737488355328
  tr : r.tr.length ≤ 140737488355328
  v : ∀ x ∈ r.hs, x.1.length ≤ 140737488355328 ∧ x.2.length ≤ 140737488355328
theorem fewR_few {r : Rc} (h : fewR r = true) : r.few ∧ r.hs.length ≤ 40 := by
  simp only [fewR, fewQ, Bool.and_eq_true, decide_eq_true_eq, List.all_eq_true] at h
  obtain ⟨⟨h1, h2, h3⟩, h4⟩ := h
  exact ⟨⟨by omega, by omega, by omega, by omega, by omega, fun x hx => by have := h3 x hx; omega⟩, h2⟩

set_option maxHeartbeats 1000000 in
set_option maxRecDepth 100000 in
theorem few20_any (r0 : Rc) (A : Option Addr) (cap : Nat) (w : World) (hS : SlR w 2 (.slice A r0.hs.length cap) (r0.hs.map Hd.cells)) (hr : r0.reach) :
    Calls Tryd.prog 14 #[.agg #[.string (bs r0.m), .string (bs r0.h), .string (bs r0.p), .slice A r0.hs.length cap, .string (bs r0.b), .string (bs r0.tg), .int .i64 r0.st, .int .i64 r0.ve, .string (bs r0.tr), .int .i64 r0.t0, .int .i64 r0.t1]] w
      fun e w' => e = .returned (.bool (fewR r0)) ∧ Below w.heap.size w w' := by
  have HS := Stow.mk hS
  have HR := Stow.mk hr
  have htg := hr.tg
  have htr := hr.tr
  clear hS hr
  obtain ⟨c, hc⟩ : ∃ c, fewQ r0.m r0.h r0.p r0.b r0.hs = c := ⟨_, rfl⟩
  have HC := Stow.mk hc
  clear hc
  go_enter Tryd.func14, Tryd.ntmps14
  go_wp2_with fail
  refine (fewQ_any r0.m r0.h r0.p r0.b r0.hs A cap _ (HS.out.alloc _) HR.out.m HR.out.h HR.out.p HR.out.b HR.out.v).mono ?_
  rw [HC.out]
  rintro e w1 ⟨rfl, hb1⟩
  have hH := (Held.made w [.string (bs r0.m), .string (bs r0.h), .string (bs r0.p), .slice A r0.hs.length cap, .string (bs r0.b), .string (bs r0.tg), .int .i64 r0.st, .int .i64 r0.ve, .string (bs r0.tr), .int .i64 r0.t0, .int .i64 r0.t1] 32).kept hb1
  have c5 := hH.cell (i := 5) rfl
  have c8 := hH.cell (i := 8) rfl
  have HB := Stow.mk hb1
  clear hH hb1
  cases c
  · have HF : Stow (fewR r0 = false) := ⟨by simp [fewR, HC.out]⟩
    go_wp2_with fail
    go_ret
    exact ⟨by rw [HF.out]; rfl, Below.call (Below.alloc' (Below.self _) _) HB.out⟩
  · by_cases h4 : r0.tg.length + r0.tr.length ≤ 400
    · have HF : Stow (fewR r0 = true) := ⟨by simp [fewR, HC.out, h4]⟩
      have d1 : (r0.tg.length : Int) + r0.tr.length ≤ 400 := by omega
      go_wp2_with fail
      go_ret
      refine ⟨?_, Below.call (Below.alloc' (Below.self _) _) HB.out⟩
      rw [HF.out]
      first | rfl | (simp; omega)
    · have HF : Stow (fewR r0 = false) := ⟨by simp [fewR, HC.out]; omega⟩
      have d1 : ¬ (r0.tg.length : Int) + r0.tr.length ≤ 400 := by omega
      go_wp2_with fail
      go_ret
      refine ⟨?_, Below.call (Below.alloc' (Below.self _) _) HB.out⟩
      rw [HF.out]
      first | rfl | (simp; omega)
end Go.Proofs.YtkhepehgafijfaaDoor
