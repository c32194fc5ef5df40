/- Walk of the statement on places: roots, orphans and children. Condition: a slice's own. -/
import Derived.Test.YthbpcdoddcacdaaTrRefKids
import Derived.Test.YthbpcdoddcacdaaTrKnown
import Derived.Test.YthbpcdoddcacdaaSpanData
namespace Go.Proofs.Ythbpcdoddcacdaa
open Go.RowKit Cells
set_option linter.unusedVariables false

theorem flat_spans (w : World) : Flat Try.prog w 42 [pSlice w 11 spanCells] := flat_slice Try.underlying42 (by kernel_rfl) (flat_span w)
theorem spans_of {w : World} {v : Value} (h : pSlice w 11 spanCells v) : ∃ (L : List Sp) (A : Option Addr) (cap : Nat), v = .slice A L.length cap ∧ SpR w A cap L ∧ ∀ s ∈ L, s.fits := by
  obtain ⟨L, hL, hf⟩ := slr_of Sp.cells Sp.fits (fun cs hc => by
    obtain ⟨s, hs, hf⟩ := span_of_cells hc
    refine ⟨s, ?_, hf⟩
    have : cs.toArray = (Sp.cells s).toArray := by simpa [Sp.val, Sp.cells] using hs
    simpa using this) Sp.cells_len (by omega) h
  obtain ⟨A, cap, rfl, _⟩ := hL.form
  simp only [List.length_map] at hL ⊢
  exact ⟨L, A, cap, rfl, hL, hf⟩


set_option maxHeartbeats 4000000 in
set_option maxRecDepth 100000 in
theorem places31 (A : Option Addr) (cap : Nat) (L : List Sp) (a : Int) (w : World) (hS : SpR w A cap L) :
    Calls Try.prog 4 #[.slice A L.length cap, .int .i64 a] w fun e w' => e = .returned (.bool true) ∧ Below w.heap.size w w' := by
  have HS := Stow.mk hS
  have HB := Stow.mk (Below.self w)
  by_cases hl : 100 < L.length
  · have hd : decide (100 < L.length) = true := by simpa using hl
    clear hS
    go_enter Try.func4, Try.ntmps4
    go_wp2_with fail
    refine (known31_any _).mono ?_
    rintro e wk ⟨rfl, hbk⟩
    go_wp2_with fail
    go_ret
    exact ⟨rfl, hbk⟩
  · have hd : decide (100 < L.length) = false := by simpa using hl
    have HLL : Stow (L.length ≤ 1000000) := ⟨by omega⟩
    clear hS
    obtain ⟨R1, hR1⟩ : ∃ R, Tr.roots L = R := ⟨_, rfl⟩
    obtain ⟨R2, hR2⟩ : ∃ R, Tr.orphans L = R := ⟨_, rfl⟩
    obtain ⟨R3, hR3⟩ : ∃ R, Tr.kidsI L a = R := ⟨_, rfl⟩
    have HQ1 := Stow.mk hR1
    have HQ2 := Stow.mk hR2
    have HQ3 := Stow.mk hR3
    clear hR1 hR2 hR3
    go_enter Try.func4, Try.ntmps4
    have HR := HQ1
    go_wp2_with fail
    refine (trRoots_any A cap L _ HS.out HLL.out).mono ?_
    rintro e wa ⟨va, rfl, hra, hba⟩
    rw [HR.out] at hra
    obtain ⟨Aa, ca, rfl⟩ := own_form hra
    have HI1 := Stow.mk (IRow.ir hra)
    have HBa := Stow.mk (HB.out.trans (hba.mono HB.out.size))
    have HSa := Stow.mk (HS.out.keep hba)
    clear hra hba HS HB
    go_wp2_with fail
    refine (refRoots_any A cap L _ HSa.out HLL.out).mono ?_
    rintro e wb ⟨vb, rfl, hrb, hbb⟩
    rw [HR.out] at hrb
    obtain ⟨Ab, cb, rfl⟩ := own_form hrb
    have HI2 := Stow.mk (IRow.ir hrb)
    have HI3 : Stow (IR wb Aa ca R1) := ⟨SlR.keep HI1.out hbb⟩
    have HBb := Stow.mk (HBa.out.trans (hbb.mono HBa.out.size))
    have HSb := Stow.mk (HSa.out.keep hbb)
    clear hrb hbb HSa HBa HI1
    go_wp2_with fail
    refine (ints_any R1 Aa Ab ca cb _ HI3.out HI2.out).mono ?_
    rintro e wc ⟨rfl, hbc⟩
    have HS := Stow.mk (HSb.out.keep hbc)
    have HB := Stow.mk (HBb.out.trans (hbc.mono HBb.out.size))
    clear HI2 HI3 HBb HSb hbc HR
    have HR := HQ2
    go_wp2_with fail
    refine (trOrphans_any A cap L _ HS.out HLL.out).mono ?_
    rintro e wa ⟨va, rfl, hra, hba⟩
    rw [HR.out] at hra
    obtain ⟨Aa, ca, rfl⟩ := own_form hra
    have HI1 := Stow.mk (IRow.ir hra)
    have HBa := Stow.mk (HB.out.trans (hba.mono HB.out.size))
    have HSa := Stow.mk (HS.out.keep hba)
    clear hra hba HS HB
    go_wp2_with fail
    refine (refOrphans_any A cap L _ HSa.out HLL.out).mono ?_
    rintro e wb ⟨vb, rfl, hrb, hbb⟩
    rw [HR.out] at hrb
    obtain ⟨Ab, cb, rfl⟩ := own_form hrb
    have HI2 := Stow.mk (IRow.ir hrb)
    have HI3 : Stow (IR wb Aa ca R2) := ⟨SlR.keep HI1.out hbb⟩
    have HBb := Stow.mk (HBa.out.trans (hbb.mono HBa.out.size))
    have HSb := Stow.mk (HSa.out.keep hbb)
    clear hrb hbb HSa HBa HI1
    go_wp2_with fail
    refine (ints_any R2 Aa Ab ca cb _ HI3.out HI2.out).mono ?_
    rintro e wc ⟨rfl, hbc⟩
    have HS := Stow.mk (HSb.out.keep hbc)
    have HB := Stow.mk (HBb.out.trans (hbc.mono HBb.out.size))
    clear HI2 HI3 HBb HSb hbc HR
    have HR := HQ3
    go_wp2_with fail
    refine (trKids_at A cap L a _ HS.out HLL.out).mono ?_
    rintro e wa ⟨va, rfl, hra, hba⟩
    rw [HR.out] at hra
    obtain ⟨Aa, ca, rfl⟩ := own_form hra
    have HI1 := Stow.mk (IRow.ir hra)
    have HBa := Stow.mk (HB.out.trans (hba.mono HB.out.size))
    have HSa := Stow.mk (HS.out.keep hba)
    clear hra hba HS HB
    go_wp2_with fail
    refine (refKids_at A cap L a _ HSa.out HLL.out).mono ?_
    rintro e wb ⟨vb, rfl, hrb, hbb⟩
    rw [HR.out] at hrb
    obtain ⟨Ab, cb, rfl⟩ := own_form hrb
    have HI2 := Stow.mk (IRow.ir hrb)
    have HI3 : Stow (IR wb Aa ca R3) := ⟨SlR.keep HI1.out hbb⟩
    have HBb := Stow.mk (HBa.out.trans (hbb.mono HBa.out.size))
    have HSb := Stow.mk (HSa.out.keep hbb)
    clear hrb hbb HSa HBa HI1
    go_wp2_with fail
    refine (ints_any R3 Aa Ab ca cb _ HI3.out HI2.out).mono ?_
    rintro e wc ⟨rfl, hbc⟩
    have HS := Stow.mk (HSb.out.keep hbc)
    have HB := Stow.mk (HBb.out.trans (hbc.mono HBb.out.size))
    clear HI2 HI3 HBb HSb hbc HR
    go_wp2_with fail
    refine (known31_any _).mono ?_
    rintro e wk ⟨rfl, hbk⟩
    have HBk := Stow.mk (HB.out.trans (hbk.mono HB.out.size))
    clear hbk
    go_wp2_with fail
    go_ret
    exact ⟨rfl, HBk.out⟩
theorem places31_at (v : Value) (a : Int) (w : World) (hv : pSlice w 11 spanCells v) : Calls Try.prog 4 #[v, .int .i64 a] w fun e w' => e = .returned (.bool true) ∧ Below w.heap.size w w' := by
  obtain ⟨L, A, cap, rfl, hS, hf⟩ := spans_of hv
  exact places31 A cap L a w hS
end Go.Proofs.Ythbpcdoddcacdaa
