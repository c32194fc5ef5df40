/- Walks of the statements on batches: the fixed calls. No condition. -/
import Derived.Test.YtkhepehgafijfaaBatchLaws
namespace Go.Proofs.Ytkhepehgafijfaa
open Go.RowKit
set_option linter.unusedVariables false

theorem SlR.single {w : World} {g c : Nat} {x : List Value} (h : Held w g x) : SlR w c (.slice (some ⟨g, 0, none⟩) 1 1) [x] :=
  ⟨some ⟨g, 0, none⟩, 1, rfl, by simp, by unfold maxLen; omega, fun _ => ⟨g, 0, rfl, h.lt, fun i y hi j u hu => by
    cases i with
    | zero =>
      simp at hi; subst hi
      have := h.cell (i := j) hu
      simpa using this
    | succ i => simp at hi⟩⟩
theorem spans_flat {L : List Sp} : ∀ i x, (L.map Sp.cells)[i]? = some x → ∀ j u, x[j]? = some u → (L.flatMap Sp.cells)[i * 11 + j]? = some u := by
  rw [List.flatMap_def]
  exact flat_at (fun x hx => by obtain ⟨s, _, rfl⟩ := List.mem_map.1 hx; exact Sp.cells_len s)
theorem BatchOf.form {w w' : World} {x y : Int} {L : List Sp} {b : Nat} {e : Ending} (h : BatchOf w x y L b e w') :
    ∃ A cap, e = .returned (.tuple #[.agg #[.int .i64 x, .int .i64 y, .slice A L.length cap], .int .i64 (b : Int)]) ∧ SlR w' 11 (.slice A L.length cap) (L.map Sp.cells) ∧ Below w.heap.size w w' := by
  obtain ⟨v, h1, h2, h3⟩ := h
  obtain ⟨A, cap, rfl⟩ := own_form h2
  exact ⟨A, cap, h1, SlR.of_own h2 (by simp) spans_flat, h3⟩

set_option maxHeartbeats 2000000 in
set_option maxRecDepth 100000 in
theorem known10_any (w : World) : Calls Try.prog 8 #[] w fun e w' => e = .returned (.bool true) ∧ Below w.heap.size w w' := by
  have HW : Stow (btWrite 3 5 [⟨0, 1, 2, 0, [97], 0, 0, 0, false, 0, 0⟩] = ([80, 66, 1, 3, 5, 1, 0, 0, 0, 0, 0, 0, 0, 0, 0, 0, 0, 0, 0, 0, 0, 1, 0, 0, 0, 0, 0, 0, 0, 2, 0, 0, 0, 0, 0, 0, 0, 0, 1, 97, 0, 0, 0, 0, 0, 0, 18, 51, 144, 112], 0)) := ⟨by kernel_rfl⟩
  have HR : Stow (btRead [80, 66, 1, 3, 5, 1, 0, 0, 0, 0, 0, 0, 0, 0, 0, 0, 0, 0, 0, 0, 0, 1, 0, 0, 0, 0, 0, 0, 0, 2, 0, 0, 0, 0, 0, 0, 0, 0, 1, 97, 0, 0, 0, 0, 0, 0, 18, 51, 144, 112] = (3, 5, [⟨0, 1, 2, 0, [97], 0, 0, 0, false, 0, 0⟩], 0)) := ⟨by kernel_rfl⟩
  have HA : Stow (btAck 3 5 = ([80, 65, 1, 3, 5, 135, 28, 202, 245], 0)) := ⟨by kernel_rfl⟩
  have HB : Stow (btReadAck [80, 65, 1, 3, 5, 135, 28, 202, 245] = (3, 5, 0)) := ⟨by kernel_rfl⟩
  have HS : Stow (seal_ [80, 65, 1, 3, 5] = [80, 65, 1, 3, 5, 135, 28, 202, 245]) := ⟨by kernel_rfl⟩
  have l1 : (⟨#[80, 65, 1, 3, 5]⟩ : ByteArray) = bs [80, 65, 1, 3, 5] := rfl
  have l2 : (⟨#[120]⟩ : ByteArray) = bs [120] := rfl
  have l3 : (⟨#[97]⟩ : ByteArray) = bs [97] := rfl
  have hfit : ∀ s ∈ [(⟨0, 1, 2, 0, [97], 0, 0, 0, false, 0, 0⟩ : Sp)], s.fits := by
    intro s hs
    simp at hs; subst hs
    exact ⟨by decide, by decide, by decide, by decide, by decide⟩
  have HFIT := Stow.mk hfit
  clear hfit
  have hS1 : SlR (w.alloc (.cells #[.int .u64 0, .int .u64 1, .int .u64 2, .int .u64 0, .string (bs [97]), .int .i64 0, .int .i64 0, .int .i64 0, .bool false, .int .i64 0, .int .i64 0] 46)) 11 (.slice (some ⟨w.heap.size, 0, none⟩) 1 1) ([(⟨0, 1, 2, 0, [97], 0, 0, 0, false, 0, 0⟩ : Sp)].map Sp.cells) :=
    SlR.single (Held.made w (Sp.cells ⟨0, 1, 2, 0, [97], 0, 0, 0, false, 0, 0⟩) 46)
  have hS2 := hS1.alloc (.cells #[.int .i64 3, .int .i64 5, .slice (some ⟨w.heap.size, 0, none⟩) 1 1] 24)
  have HS2 := Stow.mk hS2
  have hH2 := Held.made (w.alloc (.cells #[.int .u64 0, .int .u64 1, .int .u64 2, .int .u64 0, .string (bs [97]), .int .i64 0, .int .i64 0, .int .i64 0, .bool false, .int .i64 0, .int .i64 0] 46)) [.int .i64 3, .int .i64 5, .slice (some ⟨w.heap.size, 0, none⟩) 1 1] 24
  simp only [World.size_alloc] at hH2
  clear hS1 hS2
  go_enter Try.func8, Try.ntmps8
  go_wp2_with fail
  refine (btWrite_any 3 5 (some ⟨w.heap.size, 0, none⟩) 1 [⟨0, 1, 2, 0, [97], 0, 0, 0, false, 0, 0⟩] _ HS2.out HFIT.out).mono ?_
  rw [HW.out]
  rintro e w1 ⟨rfl, hb1⟩
  have hH1 := hH2.kept hb1
  have hSl1 := HS2.out.keep hb1
  have hlt1 := hH1.lt
  go_wp2_with fail
  refine (btRead_any _ _ (by decide)).mono ?_
  rw [HR.out]
  rintro e w2 hbo
  obtain ⟨A, cap, rfl, hSl2, hb2⟩ := hbo.form
  clear hbo
  have hH3 := (hH1.kept hb2).kept (Below.alloc' (Below.self _) (.cells #[.int .i64 3, .int .i64 5, .slice A 1 cap] 24))
  have hHc := Held.made w2 [.int .i64 3, .int .i64 5, .slice A 1 cap] 24
  have hSl3 := (hSl1.keep hb2).alloc (.cells #[.int .i64 3, .int .i64 5, .slice A 1 cap] 24)
  have hSl4 := hSl2.alloc (.cells #[.int .i64 3, .int .i64 5, .slice A 1 cap] 24)
  have HSL1 := Stow.mk hSl3
  have HSL2 := Stow.mk hSl4
  clear hSl1 hSl2 hSl3 hSl4
  go_wp2_with fail
  refine (btAck_any 3 5 _).mono ?_
  rw [HA.out]
  rintro e w3 ⟨rfl, hb3⟩
  go_wp2_with fail
  refine (readAck_any _ _ (by decide)).mono ?_
  rw [HB.out]
  rintro e w4 ⟨rfl, hb4⟩
  have hh := (hH3.kept hb3).kept hb4
  have hk := (hHc.kept hb3).kept hb4
  have p0 := hh.cell (i := 0) rfl
  have p1 := hh.cell (i := 1) rfl
  have p2 := hh.cell (i := 2) rfl
  have k0 := hk.cell (i := 0) rfl
  have k1 := hk.cell (i := 1) rfl
  have k2 := hk.cell (i := 2) rfl
  go_wp2_with fail
  clear p0 p1 p2 k0 k1 k2
  refine (sameBt_any 3 5 [⟨0, 1, 2, 0, [97], 0, 0, 0, false, 0, 0⟩] A (some ⟨w.heap.size, 0, none⟩) cap 1 _ ((HSL2.out.keep hb3).keep hb4) ((HSL1.out.keep hb3).keep hb4)).mono ?_
  rintro e w5 ⟨rfl, hb5⟩
  go_wp2_with fail
  refine (refCrcSeal_any [80, 65, 1, 3, 5] _ (by decide)).mono ?_
  rw [HS.out]
  rintro e w6 ⟨rfl, hb6⟩
  go_wp2_with fail
  refine (kind_any _ _ (by decide)).mono ?_
  rintro e w' ⟨rfl, rfl⟩
  go_wp2_with fail
  refine (kind_any _ _ (by decide)).mono ?_
  rintro e w' ⟨rfl, rfl⟩
  go_wp2_with fail
  refine (kind_any _ _ (by decide)).mono ?_
  rintro e w' ⟨rfl, rfl⟩
  go_wp2_with fail
  go_ret
  refine ⟨rfl, ?_⟩
  (repeat (first | exact Below.self _ | refine Below.alloc' ?_ _ | refine Below.drew ?_ | refine Below.drewN' ?_ _ | (refine Below.call ?_ (by assumption))))
end Go.Proofs.Ytkhepehgafijfaa
