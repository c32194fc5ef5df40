/- Walk of the law's known, and of the law TstateReads. Condition: a variable of the library's holds an int. -/
import Derived.Test.YtkhepehgafijfaaDoorTsRefRead
namespace Go.Proofs.YtkhepehgafijfaaDoor
open Go.RowKit
set_option linter.unusedVariables false

theorem mb_made2 (w : World) (a b c d : List UInt8) : SlR (w.alloc (.cells #[.string (bs a), .string (bs b), .string (bs c), .string (bs d)] 54)) 2 (.slice (some ⟨w.heap.size, 0, none⟩) 2 2) ([(a, b), (c, d)].map Hd.cells) :=
  MRow.slr (B := w.heap.size) (L := [(a, b), (c, d)]) ⟨rfl, .inr ⟨w.heap.size, 2, _, rfl, Nat.le_refl _, heap_alloc_new w _, Nat.le_refl _, by unfold maxLen; omega, rfl, rfl⟩⟩
theorem MembersOf.form {w w' : World} {L : List Hd} {r : Nat} {e : Ending} (h : MembersOf w (L, r) e w') : ∃ A cap, e = .returned (.tuple #[.slice A L.length cap, .int .i64 (r : Int)]) ∧ MRow w' w.heap.size (.slice A L.length cap) L ∧ Below w.heap.size w w' := by
  obtain ⟨v, h1, h2, h3⟩ := h
  obtain ⟨A, cap, rfl⟩ := h2.form
  exact ⟨A, cap, h1, h2, h3⟩

def kL : List Hd := [([97], [49]), ([98], [50])]
def kM : List Hd := [([98], [51]), ([97], [49])]
theorem kL_fits : ∀ m ∈ kL, Hd.fits m := by
  intro m hm
  simp [kL] at hm
  rcases hm with rfl | rfl <;> (unfold Hd.fits maxLen; simp)
theorem kA_fits : ∀ m ∈ [([65], [49])], Hd.fits m := by
  intro m hm
  simp at hm
  subst hm
  unfold Hd.fits maxLen; simp
theorem known_read : Ts.read [32, 97, 61, 49, 32, 44, 44, 32, 98, 61, 50] = (kL, 0) := by decide
theorem known_write : Ts.write kL = ([97, 61, 49, 44, 98, 61, 50], 0) := by decide
theorem known_put : Ts.put kL [98] [51] = (kM, 0) := by decide
theorem known_get : hdGet kL [98] = some [50] := by decide
theorem known_check : Ts.check [([65], [49])] = 3 := by decide

set_option maxHeartbeats 2000000 in
set_option maxRecDepth 100000 in
theorem known08_any (w : World) (hm : MaxIs w) : Calls Tryd.prog 19 #[] w fun e w' => e = .returned (.bool true) ∧ Below w.heap.size w w' := by
  have HM := Stow.mk hm
  have H0 : Stow (∀ W, W = w.alloc (.cells #[.string ⟨#[97]⟩, .string ⟨#[49]⟩, .string ⟨#[98]⟩, .string ⟨#[50]⟩] 54) → SlR W 2 (.slice (some ⟨w.heap.size, 0, none⟩) 2 2) (kL.map Hd.cells) ∧ Below w.heap.size w W) := ⟨by
    rintro W rfl
    exact ⟨mb_made2 w [97] [49] [98] [50], Below.alloc' (Below.self _) _⟩⟩
  clear hm
  go_enter Tryd.func19, Tryd.ntmps19
  go_wp2_with fail
  generalize hWe : w.alloc _ = W
  obtain ⟨hS, hbW⟩ := H0.out W hWe.symm
  have HS := Stow.mk hS
  have HBW := Stow.mk hbW
  clear hS hbW hWe
  refine (tsRead_any [32, 97, 61, 49, 32, 44, 44, 32, 98, 61, 50] _ (by decide) (HM.out.keep HBW.out)).mono ?_
  rw [known_read]
  intro e w1 h1
  obtain ⟨A1, c1, rfl, hr1, hb1⟩ := h1.form
  have HR1 := Stow.mk hr1
  have HB1 : Stow (Below w.heap.size w w1) := ⟨HBW.out.trans (hb1.mono HBW.out.size)⟩
  have HS1 := Stow.mk (HS.out.keep hb1)
  clear h1 hr1 hb1
  go_wp2_with fail
  refine (tsWrite_any _ 2 kL _ HS1.out kL_fits).mono ?_
  rw [known_write]
  rintro e w2 ⟨rfl, hb2⟩
  have HR2 := Stow.mk (HR1.out.kept hb2)
  have HS2 := Stow.mk (HS1.out.keep hb2)
  have HB2 : Stow (Below w.heap.size w w2) := ⟨HB1.out.trans (hb2.mono HB1.out.size)⟩
  clear hb2
  go_wp2_with fail
  refine (tsPut_any [98] [51] _ 2 kL _ HS2.out (by decide) (by decide)).mono ?_
  rw [known_put]
  intro e w3 h3
  obtain ⟨A3, c3, rfl, hr3, hb3⟩ := h3.form
  have HP3 := Stow.mk hr3
  have HR3 := Stow.mk (HR2.out.kept hb3)
  have HS3 := Stow.mk (HS2.out.keep hb3)
  have HB3 : Stow (Below w.heap.size w w3) := ⟨HB2.out.trans (hb3.mono HB2.out.size)⟩
  clear h3 hr3 hb3
  go_wp2_with fail
  refine (tsGet_any [98] _ 2 kL _ HS3.out).mono ?_
  rw [known_get]
  rintro e w4 ⟨rfl, hb4⟩
  have HP4 := Stow.mk (HP3.out.kept hb4)
  have HR4 := Stow.mk (HR3.out.kept hb4)
  have HS4 := Stow.mk (HS3.out.keep hb4)
  have HB4 : Stow (Below w.heap.size w w4) := ⟨HB3.out.trans (hb4.mono HB3.out.size)⟩
  clear hb4
  simp only [Option.getD_some, Option.isSome_some]
  go_wp2_with fail
  refine (tsSame_any kL _ _ _ HR4.out.slr HS4.out).mono ?_
  rintro e w5 ⟨rfl, hb5⟩
  have HP5 := Stow.mk (HP4.out.kept hb5)
  have HB5 : Stow (Below w.heap.size w w5) := ⟨HB4.out.trans (hb5.mono HB4.out.size)⟩
  have H5 : Stow (∀ W, W = w5.alloc (.cells #[.string ⟨#[98]⟩, .string ⟨#[51]⟩, .string ⟨#[97]⟩, .string ⟨#[49]⟩] 54) → SlR W 2 (.slice (some ⟨w5.heap.size, 0, none⟩) 2 2) (kM.map Hd.cells) ∧ Below w5.heap.size w5 W) := ⟨by
    rintro W rfl
    exact ⟨mb_made2 w5 [98] [51] [97] [49], Below.alloc' (Below.self _) _⟩⟩
  clear hb5
  go_wp2_with fail
  generalize hWe : w5.alloc _ = W5
  obtain ⟨hS, hbW⟩ := H5.out W5 hWe.symm
  have HSM := Stow.mk hS
  have HBW5 := Stow.mk hbW
  clear hS hbW hWe
  refine (tsSame_any kM _ _ _ (HP5.out.kept HBW5.out).slr HSM.out).mono ?_
  rintro e w6 ⟨rfl, hb6⟩
  have HB6 : Stow (Below w.heap.size w w6) := ⟨HB5.out.trans ((HBW5.out.trans (hb6.mono HBW5.out.size)).mono HB5.out.size)⟩
  clear hb6
  go_wp2_with fail
  refine (tsCheck_any _ 1 [([65], [49])] _ (MRow.one w6 w6.heap.size [65] [49] (Nat.le_refl _)).slr kA_fits).mono ?_
  rw [known_check]
  rintro e w7 ⟨rfl, hb7⟩
  have HB7 : Stow (Below w.heap.size w w7) := ⟨HB6.out.trans ((Below.call (Below.alloc' (Below.self _) _) hb7).mono HB6.out.size)⟩
  clear hb7
  go_wp2_with fail
  go_ret
  exact ⟨rfl, HB7.out⟩


set_option maxHeartbeats 1000000 in
set_option maxRecDepth 100000 in
theorem reads08 (l : List UInt8) (w : World) (hl : l.length ≤ 9223372036854775807) (hm : MaxIs w) : Calls Tryd.prog 7 #[.string (bs l)] w fun e w' => e = .returned (.bool true) ∧ Below w.heap.size w w' := by
  have HM := Stow.mk hm
  have HB0 := Stow.mk (Below.self w)
  clear hm
  by_cases h3 : 3000 < l.length
  · go_enter Tryd.func7, Tryd.ntmps7
    go_wp2_with fail
    refine (known08_any _ HM.out).mono ?_
    rintro e wk ⟨rfl, hbk⟩
    go_wp2_with fail
    go_ret
    exact ⟨rfl, HB0.out.trans (hbk.mono HB0.out.size)⟩
  obtain ⟨L, r, hrd⟩ : ∃ L r, Ts.read l = (L, r) := ⟨_, _, rfl⟩
  have HRD := Stow.mk hrd
  clear hrd
  go_enter Tryd.func7, Tryd.ntmps7
  go_wp2_with fail
  refine (tsRead_any l _ (by omega) HM.out).mono ?_
  rw [HRD.out]
  intro e w1 h1
  obtain ⟨A1, c1, rfl, hr1, hb1⟩ := h1.form
  have HR1 := Stow.mk hr1
  have HB1 := Stow.mk hb1
  clear h1 hr1 hb1
  go_wp2_with fail
  refine (tsRefRead_any l _ (by omega)).mono ?_
  rw [HRD.out]
  intro e w2 h2
  obtain ⟨A2, c2, rfl, hr2, hb2⟩ := h2.form
  have HR2 := Stow.mk hr2
  have HR1' := Stow.mk (HR1.out.kept hb2)
  have HB2 : Stow (Below w.heap.size w w2) := ⟨HB1.out.trans (hb2.mono HB1.out.size)⟩
  clear h2 hr2 hb2
  go_wp2_with fail
  refine (tsSame_any L _ _ _ HR1'.out.slr HR2.out.slr).mono ?_
  rintro e w3 ⟨rfl, hb3⟩
  have HB3 : Stow (Below w.heap.size w w3) := ⟨HB2.out.trans (hb3.mono HB2.out.size)⟩
  clear hb3
  go_wp2_with fail
  refine (known08_any _ (HM.out.keep HB3.out)).mono ?_
  rintro e wk ⟨rfl, hbk⟩
  go_wp2_with fail
  go_ret
  exact ⟨rfl, HB3.out.trans (hbk.mono HB3.out.size)⟩
end Go.Proofs.YtkhepehgafijfaaDoor
