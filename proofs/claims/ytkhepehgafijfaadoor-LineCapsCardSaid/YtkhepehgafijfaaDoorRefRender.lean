/- Walk of the reference's Render. Conditions: those of line.Render's. -/
import Derived.Test.YtkhepehgafijfaaDoorRender
import Derived.Test.YtkhepehgafijfaaDoorLineRefVal
namespace Go.Proofs.YtkhepehgafijfaaDoor
open Go.RowKit
set_option linter.unusedVariables false

set_option maxHeartbeats 2000000 in
set_option maxRecDepth 100000 in
theorem refRender_any (L : List Pt) (B : Option Addr) (bcap : Nat) (r0 : Rc) (A : Option Addr) (cap : Nat) (w : World) (hT : SlR w 2 (.slice B L.length bcap) (L.map Pt.cells)) (hS : SlR w 2 (.slice A r0.hs.length cap) (r0.hs.map Hd.cells))
    (hr : r0.fits) (hf : r0.few) (hL : ∀ p ∈ L, p.2.length ≤ 4096) (hn : L.length ≤ 1048576) :
    Calls Tryd.prog 18 #[.slice B L.length bcap, .agg #[.string (bs r0.m), .string (bs r0.h), .string (bs r0.p), .slice A r0.hs.length cap, .string (bs r0.b), .string (bs r0.tg), .int .i64 r0.st, .int .i64 r0.ve, .string (bs r0.tr), .int .i64 r0.t0, .int .i64 r0.t1]] w
      fun e w' => e = .returned (.string (bs (renderOf r0 L))) ∧ Below w.heap.size w w' := by
  have HT := Stow.mk hT
  have HS := Stow.mk hS
  have HF := Stow.mk hr
  have HW := Stow.mk hf
  have HL := Stow.mk hL
  clear hT hS hr hf hL
  have lk : (⟨#[126]⟩ : ByteArray) = bs [126] := rfl
  by_cases h0 : L.length = 0
  · obtain rfl := List.eq_nil_of_length_eq_zero h0
    go_enter Tryd.func18, Tryd.ntmps18
    go_wp2_with fail
    go_loopw [5, 6] (fun o v wr => o = .string (bs []) ∧ v = .int .i64 0 ∧ Below w.heap.size w wr) (fun _ _ _ => 0)
    case atStart => exact ⟨rfl, rfl, Below.alloc' (Below.self _) _⟩
    case round =>
      obtain ⟨rfl, rfl, hbr⟩ := hrel
      go_wp2_with fail
      go_ret
      exact ⟨rfl, hbr⟩
  obtain ⟨b, off, rfl, hblt, _⟩ := HT.out.open (by simp; omega)
  clear h0
  go_enter Tryd.func18, Tryd.ntmps18
  go_wp2_with fail
  go_loopw [5, 6] (fun o v wr => ∃ j : Nat, v = .int .i64 j ∧ j ≤ L.length ∧ o = .string (bs (allOf r0 (L.take j))) ∧ Below w.heap.size w wr ∧
    Held wr w.heap.size [.string (bs r0.m), .string (bs r0.h), .string (bs r0.p), .slice A r0.hs.length cap, .string (bs r0.b), .string (bs r0.tg), .int .i64 r0.st, .int .i64 r0.ve, .string (bs r0.tr), .int .i64 r0.t0, .int .i64 r0.t1]) (fun _ v _ => L.length - (intOf v).toNat)
  case atStart => exact ⟨0, rfl, by omega, rfl, Below.alloc' (Below.self _) _, Held.made w [.string (bs r0.m), .string (bs r0.h), .string (bs r0.p), .slice A r0.hs.length cap, .string (bs r0.b), .string (bs r0.tg), .int .i64 r0.st, .int .i64 r0.ve, .string (bs r0.tr), .int .i64 r0.t0, .int .i64 r0.t1] _⟩
  case round =>
    obtain ⟨j, rfl, hj, rfl, hbr, hH⟩ := hrel
    have hal := allOf_len (L := L.take j) HF.out HW.out (fun p hp => HL.out p (List.mem_of_mem_take hp))
    have hal2 : (allOf r0 (L.take j)).length ≤ 17200000000 := by simp only [List.length_take] at hal; omega
    clear hal
    by_cases hlt : j < L.length
    · have hsp := part_at (HT.out.keep hbr) hlt
      have htl := HL.out L[j] (List.getElem_mem hlt)
      have hvl := valueOf_len (k := L[j].1) HF.out HW.out htl
      obtain ⟨s, hs⟩ : ∃ s, L[j] = s := ⟨_, rfl⟩
      have HN : Stow (allOf r0 (L.take (j + 1)) = allOf r0 (L.take j) ++ valueOf s.1 s.2 r0) := ⟨by rw [allOf_next hlt, hs]⟩
      rw [hs] at hsp hvl
      clear hs htl
      obtain ⟨k, t⟩ := s
      obtain ⟨hltb, q0, q1⟩ := hsp
      simp only at q0 q1 HN hvl
      generalize allOf r0 (L.take j) = acc at hal2 HN
      have hltr := hH.lt
      have HH := Stow.mk hH
      have HBR := Stow.mk hbr
      have g0 : ∀ x : Later wr.heap.size wr, x.1.cell? ⟨b, off + j * 2, none⟩ = some (.int .i64 k) := fun x => x.cell q0 hltb
      have g1 : ∀ x : Later wr.heap.size wr, x.1.cell? ⟨b, off + j * 2 + 1, none⟩ = some (.string (bs t)) := fun x => x.cell q1 hltb
      have c0 : ∀ x : Later wr.heap.size wr, x.1.cell? ⟨w.heap.size, 0, none⟩ = _ := fun x => x.cell (hH.cell (i := 0) rfl) hltr
      have c1 : ∀ x : Later wr.heap.size wr, x.1.cell? ⟨w.heap.size, 1, none⟩ = _ := fun x => x.cell (hH.cell (i := 1) rfl) hltr
      have c2 : ∀ x : Later wr.heap.size wr, x.1.cell? ⟨w.heap.size, 2, none⟩ = _ := fun x => x.cell (hH.cell (i := 2) rfl) hltr
      have c3 : ∀ x : Later wr.heap.size wr, x.1.cell? ⟨w.heap.size, 3, none⟩ = _ := fun x => x.cell (hH.cell (i := 3) rfl) hltr
      have c4 : ∀ x : Later wr.heap.size wr, x.1.cell? ⟨w.heap.size, 4, none⟩ = _ := fun x => x.cell (hH.cell (i := 4) rfl) hltr
      have c5 : ∀ x : Later wr.heap.size wr, x.1.cell? ⟨w.heap.size, 5, none⟩ = _ := fun x => x.cell (hH.cell (i := 5) rfl) hltr
      have c6 : ∀ x : Later wr.heap.size wr, x.1.cell? ⟨w.heap.size, 6, none⟩ = _ := fun x => x.cell (hH.cell (i := 6) rfl) hltr
      have c7 : ∀ x : Later wr.heap.size wr, x.1.cell? ⟨w.heap.size, 7, none⟩ = _ := fun x => x.cell (hH.cell (i := 7) rfl) hltr
      have c8 : ∀ x : Later wr.heap.size wr, x.1.cell? ⟨w.heap.size, 8, none⟩ = _ := fun x => x.cell (hH.cell (i := 8) rfl) hltr
      have c9 : ∀ x : Later wr.heap.size wr, x.1.cell? ⟨w.heap.size, 9, none⟩ = _ := fun x => x.cell (hH.cell (i := 9) rfl) hltr
      have c10 : ∀ x : Later wr.heap.size wr, x.1.cell? ⟨w.heap.size, 10, none⟩ = _ := fun x => x.cell (hH.cell (i := 10) rfl) hltr
      have HV : Stow (∀ x : Later wr.heap.size wr, Calls Tryd.prog 16 #[.agg #[.int .i64 k, .string (bs t)], .agg #[.string (bs r0.m), .string (bs r0.h), .string (bs r0.p), .slice A r0.hs.length cap, .string (bs r0.b), .string (bs r0.tg), .int .i64 r0.st, .int .i64 r0.ve, .string (bs r0.tr), .int .i64 r0.t0, .int .i64 r0.t1]] x.1
          fun e w' => e = .returned (.string (bs (valueOf k t r0))) ∧ Below x.1.heap.size x.1 w') := ⟨fun x => refValue_any k t r0 A cap x.1 (HS.out.keep (HBR.out.trans (x.2.mono HBR.out.size))) HF.out⟩
      clear q0 q1 hH hbr
      go_wp2_with fail
      refine wp_region_later wr.heap.size (by kernel_rfl) (by kernel_rfl) ?_
      repeat (go_big_quiet_step (first | (go_at_call 16; exact Calls.later (Nat.le_refl _) (HV.out _))))
      refine wpQuiet_nil ?_
      rintro ⟨wx, hbx⟩
      clear g0 g1 c0 c1 c2 c3 c4 c5 c6 c7 c8 c9 c10
      go_wp2_with fail
      exact ⟨⟨j + 1, rfl, by omega, by rw [HN.out], HBR.out.trans (hbx.mono HBR.out.size), HH.out.kept hbx⟩, by simp [intOf]; omega⟩
    · obtain rfl : j = L.length := by omega
      rw [List.take_length] at *
      by_cases h120 : 120 < (allOf r0 L).length
      · have HR : Stow (renderOf r0 L = (allOf r0 L).take 119 ++ [126]) := ⟨by unfold renderOf; rw [if_pos h120]⟩
        go_wp2_with fail
        go_ret
        exact ⟨by rw [HR.out]; rfl, hbr⟩
      · have HR : Stow (renderOf r0 L = allOf r0 L) := ⟨by unfold renderOf; rw [if_neg h120]⟩
        go_wp2_with fail
        go_ret
        exact ⟨by rw [HR.out]; rfl, hbr⟩
end Go.Proofs.YtkhepehgafijfaaDoor
