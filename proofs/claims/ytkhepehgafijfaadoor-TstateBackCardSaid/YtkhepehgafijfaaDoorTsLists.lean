/- Walks of the laws TstateLists and TstateBack. Conditions: what the form's reach gives; a variable of the library's holds an int. -/
import Derived.Test.YtkhepehgafijfaaDoorTsKnown
namespace Go.Proofs.YtkhepehgafijfaaDoor
open Go.RowKit
set_option linter.unusedVariables false

theorem fits_of_few {L : List Hd} (h : ∀ m ∈ L, m.1.length ≤ 140737488355328 ∧ m.2.length ≤ 140737488355328) : ∀ m ∈ L, Hd.fits m := fun m hm => by
  have := h m hm
  unfold Hd.fits maxLen
  omega

set_option maxHeartbeats 2000000 in
set_option maxRecDepth 100000 in
theorem lists08 (L : List Hd) (A : Option Addr) (cap : Nat) (k v : List UInt8) (w : World) (hS : SlR w 2 (.slice A L.length cap) (L.map Hd.cells)) (hf : ∀ m ∈ L, m.1.length ≤ 140737488355328 ∧ m.2.length ≤ 140737488355328) (hk : k.length ≤ 140737488355328) (hv : v.length ≤ 140737488355328) (hm : MaxIs w) :
    Calls Tryd.prog 8 #[.slice A L.length cap, .string (bs k), .string (bs v)] w fun e w' => e = .returned (.bool true) ∧ Below w.heap.size w w' := by
  have HM := Stow.mk hm
  have HS := Stow.mk hS
  have HF := Stow.mk hf
  have HFF := Stow.mk (fits_of_few hf)
  clear hm hS hf
  obtain ⟨f1, hf1⟩ : ∃ c, fewT L = c := ⟨_, rfl⟩
  have HF1 := Stow.mk hf1
  clear hf1
  go_enter Tryd.func8, Tryd.ntmps8
  go_wp2_with fail
  refine (tsFew_any L A cap _ HS.out HF.out).mono ?_
  rw [HF1.out]
  rintro e w1 ⟨rfl, hb1⟩
  have HB1 := Stow.mk hb1
  have HS1 := Stow.mk (HS.out.keep hb1)
  clear hb1
  cases f1
  · go_wp2_with fail
    refine (known08_any _ (HM.out.keep HB1.out)).mono ?_
    rintro e wk ⟨rfl, hbk⟩
    go_wp2_with fail
    go_ret
    exact ⟨rfl, HB1.out.trans (hbk.mono HB1.out.size)⟩
  by_cases h1 : 400 < k.length
  · go_wp2_with fail
    refine (known08_any _ (HM.out.keep HB1.out)).mono ?_
    rintro e wk ⟨rfl, hbk⟩
    go_wp2_with fail
    go_ret
    exact ⟨rfl, HB1.out.trans (hbk.mono HB1.out.size)⟩
  by_cases h2 : 400 < v.length
  · go_wp2_with fail
    refine (known08_any _ (HM.out.keep HB1.out)).mono ?_
    rintro e wk ⟨rfl, hbk⟩
    go_wp2_with fail
    go_ret
    exact ⟨rfl, HB1.out.trans (hbk.mono HB1.out.size)⟩
  obtain ⟨t, r, hwr⟩ : ∃ t r, Ts.write L = (t, r) := ⟨_, _, rfl⟩
  obtain ⟨X, q, hpt⟩ : ∃ X q, Ts.put L k v = (X, q) := ⟨_, _, rfl⟩
  obtain ⟨g, hg⟩ : ∃ g, hdGet L k = g := ⟨_, rfl⟩
  obtain ⟨c, hc⟩ : ∃ c, Ts.check L = c := ⟨_, rfl⟩
  have HWR := Stow.mk hwr
  have HPT := Stow.mk hpt
  have HG := Stow.mk hg
  have HC := Stow.mk hc
  clear hwr hpt hg hc
  have hk9 : k.length ≤ 9223372036854775807 := by omega
  have hv9 : v.length ≤ 9223372036854775807 := by omega
  go_wp2_with fail
  refine (tsWrite_any A cap L _ HS1.out HFF.out).mono ?_
  rw [HWR.out]
  rintro e w2 ⟨rfl, hb2⟩
  have HB2 : Stow (Below w.heap.size w w2) := ⟨HB1.out.trans (hb2.mono HB1.out.size)⟩
  have HS2 := Stow.mk (HS1.out.keep hb2)
  clear hb2
  go_wp2_with fail
  refine (tsRefWrite_any A cap L _ HS2.out HFF.out).mono ?_
  rw [HWR.out]
  rintro e w3 ⟨rfl, hb3⟩
  have HB3 : Stow (Below w.heap.size w w3) := ⟨HB2.out.trans (hb3.mono HB2.out.size)⟩
  have HS3 := Stow.mk (HS2.out.keep hb3)
  clear hb3
  go_wp2_with fail
  refine (tsPut_any k v A cap L _ HS3.out hk9 hv9).mono ?_
  rw [HPT.out]
  intro e w4 h4
  obtain ⟨A4, c4, rfl, hr4, hb4⟩ := h4.form
  have HR4 := Stow.mk hr4
  have HB4 : Stow (Below w.heap.size w w4) := ⟨HB3.out.trans (hb4.mono HB3.out.size)⟩
  have HS4 := Stow.mk (HS3.out.keep hb4)
  clear h4 hr4 hb4
  go_wp2_with fail
  refine (tsRefPut_any k v A cap L _ HS4.out hk9 hv9).mono ?_
  rw [HPT.out]
  intro e w5 h5
  obtain ⟨A5, c5, rfl, hr5, hb5⟩ := h5.form
  have HR5 := Stow.mk hr5
  have HR4' := Stow.mk (HR4.out.kept hb5)
  have HB5 : Stow (Below w.heap.size w w5) := ⟨HB4.out.trans (hb5.mono HB4.out.size)⟩
  have HS5 := Stow.mk (HS4.out.keep hb5)
  clear h5 hr5 hb5
  go_wp2_with fail
  refine (tsGet_any k A cap L _ HS5.out).mono ?_
  rw [HG.out]
  rintro e w6 ⟨rfl, hb6⟩
  have HR5' := Stow.mk (HR5.out.kept hb6)
  have HR4'' := Stow.mk (HR4'.out.kept hb6)
  have HB6 : Stow (Below w.heap.size w w6) := ⟨HB5.out.trans (hb6.mono HB5.out.size)⟩
  have HS6 := Stow.mk (HS5.out.keep hb6)
  clear hb6
  go_wp2_with fail
  refine (tsRefGet_any k A cap L _ HS6.out).mono ?_
  rw [HG.out]
  rintro e w7 ⟨rfl, hb7⟩
  have HR5'' := Stow.mk (HR5'.out.kept hb7)
  have HR4s := Stow.mk (HR4''.out.kept hb7)
  have HB7 : Stow (Below w.heap.size w w7) := ⟨HB6.out.trans (hb7.mono HB6.out.size)⟩
  have HS7 := Stow.mk (HS6.out.keep hb7)
  clear hb7
  generalize g.getD [] = gv
  generalize g.isSome = gb
  go_wp2_with fail
  refine (tsCheck_any A cap L _ HS7.out HFF.out).mono ?_
  rw [HC.out]
  rintro e w8 ⟨rfl, hb8⟩
  have HR5s := Stow.mk (HR5''.out.kept hb8)
  have HR4t := Stow.mk (HR4s.out.kept hb8)
  have HB8 : Stow (Below w.heap.size w w8) := ⟨HB7.out.trans (hb8.mono HB7.out.size)⟩
  have HS8 := Stow.mk (HS7.out.keep hb8)
  clear hb8
  go_wp2_with fail
  refine (tsRefCheck_any A cap L _ HS8.out HFF.out).mono ?_
  rw [HC.out]
  rintro e w9 ⟨rfl, hb9⟩
  have HR5t := Stow.mk (HR5s.out.kept hb9)
  have HR4u := Stow.mk (HR4t.out.kept hb9)
  have HB9 : Stow (Below w.heap.size w w9) := ⟨HB8.out.trans (hb9.mono HB8.out.size)⟩
  clear hb9
  go_wp2_with fail
  refine (tsSame_any X _ _ _ HR4u.out.slr HR5t.out.slr).mono ?_
  rintro e w10 ⟨rfl, hb10⟩
  have HB10 : Stow (Below w.heap.size w w10) := ⟨HB9.out.trans (hb10.mono HB9.out.size)⟩
  clear hb10
  go_wp2_with fail
  refine (known08_any _ (HM.out.keep HB10.out)).mono ?_
  rintro e wk ⟨rfl, hbk⟩
  go_wp2_with fail
  go_ret
  exact ⟨rfl, HB10.out.trans (hbk.mono HB10.out.size)⟩
end Go.Proofs.YtkhepehgafijfaaDoor
