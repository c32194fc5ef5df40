/- Walks of the laws on formats: FormatCompiles, FormatBack, FormatOnce. Conditions: a text as an int can say; a variable of the library's holds an int. -/
import Derived.Test.YtmknemnpjjcdbaaDoorFmKnown
namespace Go.Proofs.YtmknemnpjjcdbaaDoor
open Go.RowKit
set_option linter.unusedVariables false

set_option maxHeartbeats 1000000 in
set_option maxRecDepth 100000 in
theorem compiles19 (l : List UInt8) (w : World) (hl : l.length ≤ 140737488355328) (hm : MaxIs w) :
    Calls Tryd.prog 3 #[.string (bs l)] w fun e w' => e = .returned (.bool true) ∧ Below w.heap.size w w' := by
  have HM := Stow.mk hm
  clear hm
  by_cases h4 : 400 < l.length
  · have h4i : (400 : Int) < l.length := by omega
    go_enter Tryd.func3, Tryd.ntmps3
    go_wp2_with fail
    refine (known19_any _ (HM.out.keep (Below.self w))).mono ?_
    rintro e wk ⟨rfl, hbk⟩
    go_wp2_with fail
    go_ret
    exact ⟨rfl, Below.trans (Below.self w) (hbk.mono (Below.size (Below.self w)))⟩
  have h4i : ¬ (400 : Int) < l.length := by omega
  have K1 := fmCompile_any l w (by omega) HM.out
  have K2 := fun W => fmRefCompile_any l W (by omega)
  obtain ⟨R, hR⟩ : ∃ R, Fm.compile l = R := ⟨_, rfl⟩
  rw [hR] at K1 K2
  obtain ⟨P, n, c⟩ := R
  have HK1 := Stow.mk K1
  have HK2 := Stow.mk K2
  clear K1 K2 hR
  unfold CompOf at HK1 HK2
  simp only at HK1 HK2
  go_enter Tryd.func3, Tryd.ntmps3
  go_wp2_with fail
  refine HK1.out.mono ?_
  rintro e w1 ⟨v1, rfl, hp1, hb1⟩
  obtain ⟨A1, c1, rfl⟩ := hp1.form
  have HB1 := Stow.mk hb1
  have HP1 := Stow.mk hp1
  clear hp1 hb1
  go_wp2_with fail
  refine (HK2.out _).mono ?_
  rintro e w2 ⟨v2, rfl, hp2, hb2⟩
  obtain ⟨A2, c2, rfl⟩ := hp2.form
  have HB2 : Stow (Below w.heap.size w w2) := ⟨HB1.out.trans (hb2.mono HB1.out.size)⟩
  have HP12 := Stow.mk (HP1.out.kept hb2)
  have HP2 := Stow.mk hp2
  clear hp2 hb2 HP1
  go_wp2_with fail
  refine (ptSame_any P _ _ _ HP12.out.slr HP2.out.slr).mono ?_
  rintro e w3 ⟨rfl, hb3⟩
  have HB3 : Stow (Below w.heap.size w w3) := ⟨HB2.out.trans (hb3.mono HB2.out.size)⟩
  clear hb3
  go_wp2_with fail
  refine (known19_any _ (HM.out.keep HB3.out)).mono ?_
  rintro e wk ⟨rfl, hbk⟩
  go_wp2_with fail
  go_ret
  exact ⟨rfl, Below.trans HB3.out (hbk.mono (Below.size HB3.out))⟩

set_option maxHeartbeats 1000000 in
set_option maxRecDepth 100000 in
theorem back19 (l : List UInt8) (w : World) (hl : l.length ≤ 140737488355328) (hm : MaxIs w) :
    Calls Tryd.prog 5 #[.string (bs l)] w fun e w' => e = .returned (.bool true) ∧ Below w.heap.size w w' := by
  have HM := Stow.mk hm
  clear hm
  by_cases h4 : 400 < l.length
  · have h4i : (400 : Int) < l.length := by omega
    go_enter Tryd.func5, Tryd.ntmps5
    go_wp2_with fail
    refine (known19_any _ (HM.out.keep (Below.self w))).mono ?_
    rintro e wk ⟨rfl, hbk⟩
    go_wp2_with fail
    go_ret
    exact ⟨rfl, Below.trans (Below.self w) (hbk.mono (Below.size (Below.self w)))⟩
  have h4i : ¬ (400 : Int) < l.length := by omega
  have K1 := fmCompile_any l w (by omega) HM.out
  obtain ⟨R, hR⟩ : ∃ R, Fm.compile l = R := ⟨_, rfl⟩
  have HR := Stow.mk hR
  have HMAY := Stow.mk (Fm.compile_may l)
  have HSH := Stow.mk (Fm.compile_short l)
  have HFW := Stow.mk (Fm.compile_few l)
  rw [hR] at K1 HMAY HSH HFW
  obtain ⟨P, n, c⟩ := R
  have HK1 := Stow.mk K1
  clear K1 hR
  unfold CompOf at HK1
  simp only at HK1 HMAY HSH HFW
  by_cases hc : c = 0
  · subst hc
    have HW : Stow (Fm.write P = l) := ⟨Fm.compile_back HR.out⟩
    go_enter Tryd.func5, Tryd.ntmps5
    go_wp2_with fail
    refine HK1.out.mono ?_
    rintro e w1 ⟨v1, rfl, hp1, hb1⟩
    obtain ⟨A1, c1, rfl⟩ := hp1.form
    have HB1 := Stow.mk hb1
    have HP1 := Stow.mk hp1
    clear hp1 hb1
    go_wp2_with fail
    refine (fmWrite_any P A1 c1 _ HP1.out.slr HMAY.out (by have := HFW.out; omega) HSH.out (HM.out.keep HB1.out)).mono ?_
    rw [HW.out]
    rintro e w2 ⟨rfl, hb2⟩
    have HB2 : Stow (Below w.heap.size w w2) := ⟨HB1.out.trans (hb2.mono HB1.out.size)⟩
    clear hb2
    go_wp2_with fail
    refine (known19_any _ (HM.out.keep HB2.out)).mono ?_
    rintro e wk ⟨rfl, hbk⟩
    go_wp2_with fail
    go_ret
    exact ⟨rfl, Below.trans HB2.out (hbk.mono (Below.size HB2.out))⟩
  · have hci : ((c : Int) != 0) = true := by rw [bne_iff_ne]; omega
    have hP : P = [] := by
      have := Fm.compile_bad (s := l) (by rw [HR.out]; exact hc)
      rw [HR.out] at this
      exact this
    subst hP
    clear hc
    go_enter Tryd.func5, Tryd.ntmps5
    go_wp2_with fail
    refine HK1.out.mono ?_
    rintro e w1 ⟨v1, rfl, hp1, hb1⟩
    obtain ⟨A1, c1, rfl⟩ := hp1.form
    have HB1 := Stow.mk hb1
    clear hp1 hb1
    go_wp2_with fail
    refine (known19_any _ (HM.out.keep HB1.out)).mono ?_
    rintro e wk ⟨rfl, hbk⟩
    go_wp2_with fail
    go_ret
    exact ⟨rfl, Below.trans HB1.out (hbk.mono (Below.size HB1.out))⟩
end Go.Proofs.YtmknemnpjjcdbaaDoor
