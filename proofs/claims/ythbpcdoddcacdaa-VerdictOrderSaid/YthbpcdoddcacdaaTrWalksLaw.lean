/- Walk of the statement on walks: what one comes to, what is lost, how it stands. Condition: a slice's own. -/
import Derived.Test.YthbpcdoddcacdaaTrRefNodes
import Derived.Test.YthbpcdoddcacdaaTrLaws
namespace Go.Proofs.Ythbpcdoddcacdaa
open Go.RowKit Cells
set_option linter.unusedVariables false

set_option maxHeartbeats 2000000 in
set_option maxRecDepth 100000 in
theorem refNodes_no (A : Option Addr) (cap : Nat) (L : List Sp) (a : Int) (w : World) (h : a < 0 ∨ (L.length : Int) ≤ a) :
    Calls Try.prog 36 #[.slice A L.length cap, .int .i64 a] w fun e w' => e = .returned (.slice none 0 0) ∧ Below w.heap.size w w' := by
  have HM := Stow.mk (Below.self w)
  by_cases h1 : a < 0
  · have hd : decide (a < 0) = true := by simpa using h1
    go_enter Try.func36, Try.ntmps36
    go_wp2_with fail
    go_ret
    exact ⟨rfl, HM.out⟩
  · have hd : decide (a < 0) = false := by simpa using h1
    have hd2 : decide ((L.length : Int) ≤ a) = true := by simp; omega
    go_enter Try.func36, Try.ntmps36
    go_wp2_with fail
    go_ret
    exact ⟨rfl, HM.out⟩
theorem refNodes_at (A : Option Addr) (cap : Nat) (L : List Sp) (a : Int) (w : World) (hS : SpR w A cap L) (hn : L.length ≤ 1000000) :
    Calls Try.prog 36 #[.slice A L.length cap, .int .i64 a] w fun e w' => ∃ v, e = .returned v ∧ DRow L w' w.heap.size v (Tr.walkI L a) ∧ Below w.heap.size w w' := by
  by_cases h : a < 0 ∨ (L.length : Int) ≤ a
  · rw [Tr.walkI_no h]
    exact (refNodes_no A cap L a w h).mono fun e w' ⟨he, hb⟩ => ⟨_, he, World.ownsRow_nil _ _ _ _, hb⟩
  · obtain ⟨n, rfl⟩ : ∃ n : Nat, a = n := ⟨a.toNat, by omega⟩
    rw [Tr.walkI_yes]
    exact refNodes_yes A cap L n w hS hn (by omega)
theorem nv_of {L : List Sp} {w w' : World} {e : Ending} {R : List (Nat × Nat)} {M : List Nv} (hM : R.map (Tr.node L) = M) (h : ∃ v, e = .returned v ∧ DRow L w' w.heap.size v R ∧ Below w.heap.size w w') : ∃ A c, e = .returned (.slice A M.length c) ∧ NvR w' A c M ∧ Below w.heap.size w w' := by
  obtain ⟨v, he, hr, hb⟩ := h
  obtain ⟨A, c, rfl⟩ := own_form hr
  subst hM
  exact ⟨A, c, by rw [List.length_map]; exact he, (drow_nvr hr).1, hb⟩


set_option maxHeartbeats 4000000 in
set_option maxRecDepth 100000 in
theorem walks31 (A : Option Addr) (cap : Nat) (L : List Sp) (a : Int) (w : World) (hS : SpR w A cap L) :
    Calls Try.prog 5 #[.slice A L.length cap, .int .i64 a] w fun e w' => e = .returned (.bool true) ∧ Below w.heap.size w w' := by
  have HS := Stow.mk hS
  have HB := Stow.mk (Below.self w)
  by_cases hl : 100 < L.length
  · have hd : decide (100 < L.length) = true := by simpa using hl
    clear hS
    go_enter Try.func5, Try.ntmps5
    go_wp2_with fail
    refine (known31_any _).mono ?_
    rintro e wk ⟨rfl, hbk⟩
    go_wp2_with fail
    go_ret
    exact ⟨rfl, hbk⟩
  · have hd : decide (100 < L.length) = false := by simpa using hl
    have HLL : Stow (L.length ≤ 1000000) := ⟨by omega⟩
    have HLK : Stow (L.length ≤ 1000) := ⟨by omega⟩
    clear hS
    obtain ⟨R1, hR1⟩ : ∃ R, (Tr.walkI L a).map Prod.fst = R := ⟨_, rfl⟩
    obtain ⟨R2, hR2⟩ : ∃ R, Tr.lost L = R := ⟨_, rfl⟩
    obtain ⟨M, hM⟩ : ∃ M, (Tr.walkI L a).map (Tr.node L) = M := ⟨_, rfl⟩
    have HQ1 := Stow.mk hR1
    have HQ2 := Stow.mk hR2
    have HK3 : Stow (∀ W, SpR W A cap L → Calls Try.prog 35 #[.slice A L.length cap, .int .i64 a] W fun e w' => ∃ A c, e = .returned (.slice A M.length c) ∧ NvR w' A c M ∧ Below W.heap.size W w') := ⟨fun W h => (trNodes_at A cap L a W h HLL.out).mono fun e w' h => nv_of hM h⟩
    have HK4 : Stow (∀ W, SpR W A cap L → Calls Try.prog 36 #[.slice A L.length cap, .int .i64 a] W fun e w' => ∃ A c, e = .returned (.slice A M.length c) ∧ NvR w' A c M ∧ Below W.heap.size W w') := ⟨fun W h => (refNodes_at A cap L a W h HLL.out).mono fun e w' h => nv_of hM h⟩
    clear hR1 hR2 hM
    go_enter Try.func5, Try.ntmps5
    have HR := HQ1
    go_wp2_with fail
    refine (trWalkW_at A cap L a _ HS.out HLL.out).mono ?_
    rintro e wa ⟨va, rfl, hra, hba⟩
    rw [HR.out] at hra
    obtain ⟨Aa, ca, rfl⟩ := own_form hra
    have HI1 := Stow.mk (IRow.ir hra)
    have HBa := Stow.mk (HB.out.trans (hba.mono HB.out.size))
    have HSa := Stow.mk (HS.out.keep hba)
    clear hra hba HS HB
    go_wp2_with fail
    refine (refWalkW_at A cap L a _ HSa.out HLL.out).mono ?_
    rintro e wb ⟨vb, rfl, hrb, hbb⟩
    rw [HR.out] at hrb
    obtain ⟨Ab, cb, rfl⟩ := own_form hrb
    have HI2 := Stow.mk (IRow.ir hrb)
    have HI3 : Stow (IR wb Aa ca R1) := ⟨SlR.keep HI1.out hbb⟩
    have HBb := Stow.mk (HBa.out.trans (hbb.mono HBa.out.size))
    have HSb := Stow.mk (HSa.out.keep hbb)
    clear hrb hbb HSa HBa HI1
    go_wp2_with fail
    refine (ints_any R1 Aa Ab ca cb _ HI3.out HI2.out).mono ?_
    rintro e wc ⟨rfl, hbc⟩
    have HS := Stow.mk (HSb.out.keep hbc)
    have HB := Stow.mk (HBb.out.trans (hbc.mono HBb.out.size))
    clear HI2 HI3 HBb HSb hbc HR
    have HR := HQ2
    go_wp2_with fail
    refine (trLost_any A cap L _ HS.out HLL.out).mono ?_
    rintro e wa ⟨va, rfl, hra, hba⟩
    rw [HR.out] at hra
    obtain ⟨Aa, ca, rfl⟩ := own_form hra
    have HI1 := Stow.mk (IRow.ir hra)
    have HBa := Stow.mk (HB.out.trans (hba.mono HB.out.size))
    have HSa := Stow.mk (HS.out.keep hba)
    clear hra hba HS HB
    go_wp2_with fail
    refine (refLost_any A cap L _ HSa.out HLK.out).mono ?_
    rintro e wb ⟨vb, rfl, hrb, hbb⟩
    rw [HR.out] at hrb
    obtain ⟨Ab, cb, rfl⟩ := own_form hrb
    have HI2 := Stow.mk (IRow.ir hrb)
    have HI3 : Stow (IR wb Aa ca R2) := ⟨SlR.keep HI1.out hbb⟩
    have HBb := Stow.mk (HBa.out.trans (hbb.mono HBa.out.size))
    have HSb := Stow.mk (HSa.out.keep hbb)
    clear hrb hbb HSa HBa HI1
    go_wp2_with fail
    refine (ints_any R2 Aa Ab ca cb _ HI3.out HI2.out).mono ?_
    rintro e wc ⟨rfl, hbc⟩
    have HS := Stow.mk (HSb.out.keep hbc)
    have HB := Stow.mk (HBb.out.trans (hbc.mono HBb.out.size))
    clear HI2 HI3 HBb HSb hbc HR
    go_wp2_with fail
    refine (HK3.out _ HS.out).mono ?_
    rintro e wa ⟨Aa, ca, rfl, hra, hba⟩
    have HI1 := Stow.mk hra
    have HBa := Stow.mk (HB.out.trans (hba.mono HB.out.size))
    have HSa := Stow.mk (HS.out.keep hba)
    clear hra hba HS HB
    go_wp2_with fail
    refine (HK4.out _ HSa.out).mono ?_
    rintro e wb ⟨Ab, cb, rfl, hrb, hbb⟩
    have HI2 := Stow.mk hrb
    have HI3 : Stow (NvR wb Aa ca M) := ⟨SlR.keep HI1.out hbb⟩
    have HBb := Stow.mk (HBa.out.trans (hbb.mono HBa.out.size))
    clear hrb hbb HSa HBa HI1
    go_wp2_with fail
    refine (ndSame_any M Aa Ab ca cb _ HI3.out HI2.out).mono ?_
    rintro e wc ⟨rfl, hbc⟩
    have HB := Stow.mk (HBb.out.trans (hbc.mono HBb.out.size))
    clear HI2 HI3 HBb hbc
    go_wp2_with fail
    refine (known31_any _).mono ?_
    rintro e wk ⟨rfl, hbk⟩
    have HBk := Stow.mk (HB.out.trans (hbk.mono HB.out.size))
    clear hbk
    go_wp2_with fail
    go_ret
    exact ⟨rfl, HBk.out⟩
theorem walks31_at (v : Value) (a : Int) (w : World) (hv : pSlice w 11 spanCells v) : Calls Try.prog 5 #[v, .int .i64 a] w fun e w' => e = .returned (.bool true) ∧ Below w.heap.size w w' := by
  obtain ⟨L, A, cap, rfl, hS, hf⟩ := spans_of hv
  exact walks31 A cap L a w hS
end Go.Proofs.Ythbpcdoddcacdaa
