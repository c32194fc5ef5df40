/- Walk of the law LineValues. Conditions: what the form's reach gives; ints; the library's table lies. -/
import Derived.Test.YtkhepehgafijfaaDoorFewR
import Derived.Test.YtkhepehgafijfaaDoorRefRender
import Derived.Test.YtkhepehgafijfaaDoorLineKnown
namespace Go.Proofs.YtkhepehgafijfaaDoor
open Go.RowKit
set_option linter.unusedVariables false

structure Rc.ints (r : Rc) : Prop where
  st : I64 r.st
  ve : I64 r.ve
  t0 : I64 r.t0
  t1 : I64 r.t1
theorem fits_of {r : Rc} (h : r.few) (hn : r.hs.length ≤ 40) (hi : r.ints) : r.fits :=
  ⟨by have := h.m; omega, by have := h.h; omega, by have := h.p; omega, by have := h.tg; omega, by have := h.tr; omega, by omega, fun x hx => by have := h.v x hx; omega, hi.st, hi.ve, hi.t0, hi.t1⟩
theorem fewP_few {L : List Pt} (h : fewP L = true) : L.length ≤ 60 ∧ ∀ p ∈ L, p.2.length ≤ 300 := by
  simpa [fewP, List.all_eq_true] using h

set_option maxHeartbeats 2000000 in
set_option maxRecDepth 100000 in
theorem lineValues_any (k : Int) (t : List UInt8) (L : List Pt) (B : Option Addr) (bcap : Nat) (r0 : Rc) (A : Option Addr) (cap : Nat) (w : World) (hT : SlR w 2 (.slice B L.length bcap) (L.map Pt.cells)) (hS : SlR w 2 (.slice A r0.hs.length cap) (r0.hs.map Hd.cells))
    (hr : r0.reach) (hi : r0.ints) (hL : ∀ p ∈ L, p.2.length ≤ 140737488355328) (hp : Pow10 w) :
    Calls Tryd.prog 4 #[.agg #[.int .i64 k, .string (bs t)], .slice B L.length bcap, .agg #[.string (bs r0.m), .string (bs r0.h), .string (bs r0.p), .slice A r0.hs.length cap, .string (bs r0.b), .string (bs r0.tg), .int .i64 r0.st, .int .i64 r0.ve, .string (bs r0.tr), .int .i64 r0.t0, .int .i64 r0.t1]] w
      fun e w' => e = .returned (.bool true) ∧ Below w.heap.size w w' := by
  have HT := Stow.mk hT
  have HS := Stow.mk hS
  have HR := Stow.mk hr
  have HI := Stow.mk hi
  have HL := Stow.mk hL
  have HP := Stow.mk hp
  clear hT hS hr hi hL hp
  obtain ⟨f1, hf1⟩ : ∃ c, fewP L = c := ⟨_, rfl⟩
  obtain ⟨f2, hf2⟩ : ∃ c, fewR r0 = c := ⟨_, rfl⟩
  have HF1 := Stow.mk hf1
  have HF2 := Stow.mk hf2
  clear hf1 hf2
  have hrec0 : ∀ W w1, W = (w.alloc (.cells #[.int .i64 k, .string (bs t)] 26)).alloc (.cells #[.string (bs r0.m), .string (bs r0.h), .string (bs r0.p), .slice A r0.hs.length cap, .string (bs r0.b), .string (bs r0.tg), .int .i64 r0.st, .int .i64 r0.ve, .string (bs r0.tr), .int .i64 r0.t0, .int .i64 r0.t1] 32) → Below W.heap.size W w1 →
      Held w1 w.heap.size [.int .i64 k, .string (bs t)] ∧ Held w1 (w.heap.size + 1) [.string (bs r0.m), .string (bs r0.h), .string (bs r0.p), .slice A r0.hs.length cap, .string (bs r0.b), .string (bs r0.tg), .int .i64 r0.st, .int .i64 r0.ve, .string (bs r0.tr), .int .i64 r0.t0, .int .i64 r0.t1] := by
    rintro W w1 rfl hb
    refine ⟨Held.kept ((Held.made w [.int .i64 k, .string (bs t)] 26).kept (Below.alloc' (Below.self _) _)) hb, ?_⟩
    have e1 : (w.alloc (.cells #[.int .i64 k, .string (bs t)] 26)).heap.size = w.heap.size + 1 := by simp
    have h := Held.made (w.alloc (.cells #[.int .i64 k, .string (bs t)] 26)) [.string (bs r0.m), .string (bs r0.h), .string (bs r0.p), .slice A r0.hs.length cap, .string (bs r0.b), .string (bs r0.tg), .int .i64 r0.st, .int .i64 r0.ve, .string (bs r0.tr), .int .i64 r0.t0, .int .i64 r0.t1] 32
    rw [e1] at h
    exact h.kept hb
  have REC := Stow.mk hrec0
  clear hrec0
  go_enter Tryd.func4, Tryd.ntmps4
  go_wp2_with fail
  refine (fewP_any L B bcap _ ((HT.out.alloc _).alloc _) HL.out).mono ?_
  rw [HF1.out]
  rintro e w1 ⟨rfl, hb1⟩
  have HB1 : Stow (Below w.heap.size w w1) := ⟨Below.call (Below.alloc' (Below.alloc' (Below.self _) _) _) hb1⟩
  have hH := REC.out _ w1 rfl hb1
  have HH := Stow.mk hH
  obtain ⟨hH1, hH2⟩ := hH
  have a1 := hH1.cell (i := 1) rfl
  have c0 := hH2.cell (i := 0) rfl
  have c1 := hH2.cell (i := 1) rfl
  have c2 := hH2.cell (i := 2) rfl
  have c3 := hH2.cell (i := 3) rfl
  have c4 := hH2.cell (i := 4) rfl
  have c5 := hH2.cell (i := 5) rfl
  have c6 := hH2.cell (i := 6) rfl
  have c7 := hH2.cell (i := 7) rfl
  have c8 := hH2.cell (i := 8) rfl
  have c9 := hH2.cell (i := 9) rfl
  have c10 := hH2.cell (i := 10) rfl
  clear hb1 hH1 hH2
  cases f1
  · go_wp2_with fail
    refine (known20_any _ (HP.out.keep HB1.out)).mono ?_
    rintro e w2 ⟨rfl, hb2⟩
    go_wp2_with fail
    go_ret
    exact ⟨rfl, Below.call HB1.out hb2⟩
  by_cases h300 : 300 < t.length
  · go_wp2_with fail
    refine (known20_any _ (HP.out.keep HB1.out)).mono ?_
    rintro e w2 ⟨rfl, hb2⟩
    go_wp2_with fail
    go_ret
    exact ⟨rfl, Below.call HB1.out hb2⟩
  go_wp2_with fail
  refine (few20_any r0 A cap _ (HS.out.keep HB1.out) HR.out).mono ?_
  rw [HF2.out]
  rintro e w2 ⟨rfl, hb2⟩
  have HB2 := Stow.mk hb2
  clear hb2 c0 c1 c2 c3 c4 c5 c6 c7 c8 c9 c10 a1
  cases f2
  · go_wp2_with fail
    refine (known20_any _ ((HP.out.keep HB1.out).keep HB2.out)).mono ?_
    rintro e w3 ⟨rfl, hb3⟩
    go_wp2_with fail
    go_ret
    exact ⟨rfl, Below.call (Below.call HB1.out HB2.out) hb3⟩
  have hfw := fewR_few HF2.out
  have HFW := Stow.mk hfw.1
  have HFI := Stow.mk (fits_of hfw.1 hfw.2 HI.out)
  have hfp := fewP_few HF1.out
  have HL2 : Stow (∀ p ∈ L, p.2.length ≤ 4096) := ⟨fun p hp => by have := hfp.2 p hp; omega⟩
  have hLn : L.length ≤ 1048576 := by omega
  clear hfw hfp
  have HBW : Stow (Below w.heap.size w w2) := ⟨Below.call HB1.out HB2.out⟩
  have hH := HH.out
  have hH1 := hH.1.kept HB2.out
  have hH2 := hH.2.kept HB2.out
  have hlt1 := hH1.lt
  have hlt2 := hH2.lt
  have a0 : ∀ x : Later w2.heap.size w2, x.1.cell? ⟨w.heap.size, 0, none⟩ = _ := fun x => x.cell (hH1.cell (i := 0) rfl) hlt1
  have a1 : ∀ x : Later w2.heap.size w2, x.1.cell? ⟨w.heap.size, 1, none⟩ = _ := fun x => x.cell (hH1.cell (i := 1) rfl) hlt1
  have c0 : ∀ x : Later w2.heap.size w2, x.1.cell? ⟨w.heap.size + 1, 0, none⟩ = _ := fun x => x.cell (hH2.cell (i := 0) rfl) hlt2
  have c1 : ∀ x : Later w2.heap.size w2, x.1.cell? ⟨w.heap.size + 1, 1, none⟩ = _ := fun x => x.cell (hH2.cell (i := 1) rfl) hlt2
  have c2 : ∀ x : Later w2.heap.size w2, x.1.cell? ⟨w.heap.size + 1, 2, none⟩ = _ := fun x => x.cell (hH2.cell (i := 2) rfl) hlt2
  have c3 : ∀ x : Later w2.heap.size w2, x.1.cell? ⟨w.heap.size + 1, 3, none⟩ = _ := fun x => x.cell (hH2.cell (i := 3) rfl) hlt2
  have c4 : ∀ x : Later w2.heap.size w2, x.1.cell? ⟨w.heap.size + 1, 4, none⟩ = _ := fun x => x.cell (hH2.cell (i := 4) rfl) hlt2
  have c5 : ∀ x : Later w2.heap.size w2, x.1.cell? ⟨w.heap.size + 1, 5, none⟩ = _ := fun x => x.cell (hH2.cell (i := 5) rfl) hlt2
  have c6 : ∀ x : Later w2.heap.size w2, x.1.cell? ⟨w.heap.size + 1, 6, none⟩ = _ := fun x => x.cell (hH2.cell (i := 6) rfl) hlt2
  have c7 : ∀ x : Later w2.heap.size w2, x.1.cell? ⟨w.heap.size + 1, 7, none⟩ = _ := fun x => x.cell (hH2.cell (i := 7) rfl) hlt2
  have c8 : ∀ x : Later w2.heap.size w2, x.1.cell? ⟨w.heap.size + 1, 8, none⟩ = _ := fun x => x.cell (hH2.cell (i := 8) rfl) hlt2
  have c9 : ∀ x : Later w2.heap.size w2, x.1.cell? ⟨w.heap.size + 1, 9, none⟩ = _ := fun x => x.cell (hH2.cell (i := 9) rfl) hlt2
  have c10 : ∀ x : Later w2.heap.size w2, x.1.cell? ⟨w.heap.size + 1, 10, none⟩ = _ := fun x => x.cell (hH2.cell (i := 10) rfl) hlt2
  have LB : Stow (∀ x : Later w2.heap.size w2, Below w.heap.size w x.1) := ⟨fun x => HBW.out.trans (x.2.mono HBW.out.size)⟩
  clear hH hH1 hH2
  go_wp2_with fail
  refine wp_region_later w2.heap.size (by kernel_rfl) (by kernel_rfl) ?_
  repeat (go_big_quiet_step (first
    | (go_at_call 15; exact Calls.later (Nat.le_refl _) (lineValue_any k t r0 A cap _ (HS.out.keep (LB.out _)) HFI.out (HP.out.keep (LB.out _))))
    | (go_at_call 16; exact Calls.later (Nat.le_refl _) (refValue_any k t r0 A cap _ (HS.out.keep (LB.out _)) HFI.out))
    | (go_at_call 17; exact Calls.later (Nat.le_refl _) (render_any L B bcap r0 A cap _ (HT.out.keep (LB.out _)) (HS.out.keep (LB.out _)) HFI.out HFW.out HL2.out hLn (HP.out.keep (LB.out _))))
    | (go_at_call 18; exact Calls.later (Nat.le_refl _) (refRender_any L B bcap r0 A cap _ (HT.out.keep (LB.out _)) (HS.out.keep (LB.out _)) HFI.out HFW.out HL2.out hLn))
    | (go_at_call 10; exact Calls.later (Nat.le_refl _) (known20_any _ (HP.out.keep (LB.out _))))))
  refine wpQuiet_nil ?_
  rintro ⟨wx, hbx⟩
  clear a0 a1 c0 c1 c2 c3 c4 c5 c6 c7 c8 c9 c10
  go_wp2_with fail
  go_ret
  exact ⟨by first | rfl | simp, Below.call HBW.out hbx⟩
end Go.Proofs.YtkhepehgafijfaaDoor
