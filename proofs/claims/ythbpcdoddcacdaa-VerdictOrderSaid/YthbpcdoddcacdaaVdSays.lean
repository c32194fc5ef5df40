/- Walk of the statement on what is said of traces. Condition: a slice's own. -/
import Derived.Test.YthbpcdoddcacdaaVdKnown
import Derived.Test.YthbpcdoddcacdaaTrLaws
namespace Go.Proofs.Ythbpcdoddcacdaa
open Go.RowKit Cells
set_option linter.unusedVariables false

def keptCells (w : World) : List (Value → Prop) := [pInt .u64, pInt .u64, pSlice w 11 spanCells, pBool, pBool]
theorem flat_kept (w : World) : Flat Try.prog w 58 (keptCells w) :=
  flat_struct Try.underlying58 (by kernel_rfl) (.cons 2 rfl (by kernel_rfl) (flat_trace w) (.cons 1 rfl (by kernel_rfl) (flat_spans w) (.cons 1 rfl (by kernel_rfl) (flat_bool Try.underlying4) (.cons 1 rfl (by kernel_rfl) (flat_bool Try.underlying4) (.nil _) rfl rfl) rfl rfl) rfl rfl) rfl rfl)
structure KtArg where
  (hi lo : Nat)
  L : List Sp
  A : Option Addr
  cap : Nat
  (s c : Bool)
def KtArg.val (x : KtArg) : Value := ktv x.hi x.lo x.A x.cap x.L x.s x.c
theorem kept_of_cells {w : World} {cs : List Value} (h : Rel (keptCells w) cs) : ∃ x : KtArg, (.agg cs.toArray : Value) = x.val ∧ SpR w x.A x.cap x.L := by
  unfold keptCells at h
  obtain ⟨_, _, rfl, h0, ha⟩ := h.cons_inv
  obtain ⟨_, _, rfl, h1, ha⟩ := ha.cons_inv
  obtain ⟨_, _, rfl, h2, ha⟩ := ha.cons_inv
  obtain ⟨_, _, rfl, h3, ha⟩ := ha.cons_inv
  obtain ⟨_, _, rfl, h4, ha⟩ := ha.cons_inv
  obtain rfl := ha.nil_inv
  obtain ⟨hi, rfl, _⟩ := pInt_u64 h0
  obtain ⟨lo, rfl, _⟩ := pInt_u64 h1
  obtain ⟨s, rfl⟩ := h3
  obtain ⟨c, rfl⟩ := h4
  obtain ⟨L, A, cap, rfl, hS, _⟩ := spans_of h2
  exact ⟨⟨hi, lo, L, A, cap, s, c⟩, rfl, hS⟩


set_option maxHeartbeats 4000000 in
set_option maxRecDepth 100000 in
theorem says32 (x : KtArg) (w : World) (hS : SpR w x.A x.cap x.L) :
    Calls Try.prog 7 #[x.val] w fun e w' => e = .returned (.bool true) ∧ Below w.heap.size w w' := by
  obtain ⟨hi, lo, L, A, cap, s, c⟩ := x
  simp only [KtArg.val] at hS ⊢
  have hb1 : Below w.heap.size w (w.alloc (.cells (ktc hi lo A cap L s c).toArray 58)) := Below.alloc' (Below.self w) _
  have HB := Stow.mk hb1
  have HS := Stow.mk (hS.keep hb1)
  have HH := Stow.mk (Held.made w (ktc hi lo A cap L s c) 58)
  have hlen := hS.len
  simp only [List.length_map] at hlen
  have HSM := Stow.mk (small_any A cap L _ HS.out hlen)
  obtain ⟨r, hr⟩ : ∃ r, smallB L = r := ⟨_, rfl⟩
  rw [hr] at HSM
  clear hb1 hS hlen
  cases r
  · clear hr
    unfold ktv
    go_enter Try.func7, Try.ntmps7
    go_wp2_with fail
    refine HSM.out.mono ?_
    rintro e w1 ⟨rfl, rfl⟩
    go_wp2_with fail
    refine (known32_any _).mono ?_
    rintro e wk ⟨rfl, hbk⟩
    have HBK := Stow.mk (HB.out.trans (hbk.mono HB.out.size))
    clear hbk
    go_wp2_with fail
    go_ret
    exact ⟨rfl, HBK.out⟩
  · obtain ⟨hn, _, hkd⟩ := smallB_yes hr
    have HKT : Stow (∀ W, SpR W A cap L → _) := ⟨fun W h => vdTree_any A cap hi lo L s c W h (by omega) hkd⟩
    have HKR : Stow (∀ W, SpR W A cap L → _) := ⟨fun W h => rfTree_any A cap hi lo L s c W h (by omega) hkd⟩
    have HO1 : Stow (∀ W, SpR W A cap L → _) := ⟨fun W h => vdOf_any A cap hi lo L s c W h (by omega) hkd⟩
    have HO2 : Stow (∀ W, SpR W A cap L → _) := ⟨fun W h => rfOf_any A cap hi lo L s c W h (by omega) hkd⟩
    have HL1 : Stow (∀ W, SpR W A cap L → _) := ⟨fun W h => vdLacks_any A cap hi lo L s c W h (by omega) hkd⟩
    have HL2 : Stow (∀ W, SpR W A cap L → _) := ⟨fun W h => rfLacks_any A cap hi lo L s c W h (by omega) hkd⟩
    obtain ⟨M, hM⟩ : ∃ M, Tr.treeN L s c = M := ⟨_, rfl⟩
    obtain ⟨n, hnn⟩ : ∃ M, Tr.said L s c = M := ⟨_, rfl⟩
    obtain ⟨m, hm⟩ : ∃ M, Tr.lacks L = M := ⟨_, rfl⟩
    rw [hM, hnn] at HKT HKR
    rw [hnn] at HO1 HO2
    rw [hm] at HL1 HL2
    obtain ⟨b, hb⟩ : ∃ b, decide (n = 1) = b := ⟨_, rfl⟩
    rw [hb] at HKT HKR
    clear hr hn hkd hM hnn hm hb
    unfold ktv
    go_enter Try.func7, Try.ntmps7
    go_wp2_with fail
    refine HSM.out.mono ?_
    rintro e w0 ⟨rfl, hw0⟩
    rw [← hw0] at HB HS HH
    have q0 := HH.out.cell (i := 0) rfl
    have q1 := HH.out.cell (i := 1) rfl
    have q2 := HH.out.cell (i := 2) rfl
    have q3 := HH.out.cell (i := 3) rfl
    have q4 := HH.out.cell (i := 4) rfl
    clear hw0 HSM
    go_wp2_with fail
    refine (HKT.out _ HS.out).mono ?_
    rintro e w1 ⟨vA, vc, rfl, hN, hb1⟩
    have HB := Stow.mk (HB.out.trans (hb1.mono HB.out.size))
    have HS := Stow.mk (HS.out.keep hb1)
    have HH := Stow.mk (HH.out.kept hb1)
    have HN := Stow.mk hN
    have q0 := HH.out.cell (i := 0) rfl
    have q1 := HH.out.cell (i := 1) rfl
    have q2 := HH.out.cell (i := 2) rfl
    have q3 := HH.out.cell (i := 3) rfl
    have q4 := HH.out.cell (i := 4) rfl
    clear hN hb1 HKT
    go_wp2_with fail
    refine (HKR.out _ HS.out).mono ?_
    rintro e w2 ⟨vA2, vc2, rfl, hN2, hb2⟩
    have HB := Stow.mk (HB.out.trans (hb2.mono HB.out.size))
    have HS := Stow.mk (HS.out.keep hb2)
    have HH := Stow.mk (HH.out.kept hb2)
    have HN := Stow.mk (SlR.keep HN.out hb2)
    have HN2 := Stow.mk hN2
    have ltX := HH.out.lt
    have g0 : ∀ x : Later w2.heap.size w2, x.1.cell? ⟨w.heap.size, 0, none⟩ = _ := fun x => x.cell (HH.out.cell (i := 0) rfl) ltX
    have g1 : ∀ x : Later w2.heap.size w2, x.1.cell? ⟨w.heap.size, 1, none⟩ = _ := fun x => x.cell (HH.out.cell (i := 1) rfl) ltX
    have g2 : ∀ x : Later w2.heap.size w2, x.1.cell? ⟨w.heap.size, 2, none⟩ = _ := fun x => x.cell (HH.out.cell (i := 2) rfl) ltX
    have g3 : ∀ x : Later w2.heap.size w2, x.1.cell? ⟨w.heap.size, 3, none⟩ = _ := fun x => x.cell (HH.out.cell (i := 3) rfl) ltX
    have g4 : ∀ x : Later w2.heap.size w2, x.1.cell? ⟨w.heap.size, 4, none⟩ = _ := fun x => x.cell (HH.out.cell (i := 4) rfl) ltX
    clear hN2 hb2 HKR q0 q1 q2 q3 q4
    have hbb : (b == b) = true := by simp
    have hnn : ((n : Int) == n) = true := by simp
    have hmm : (m == m) = true := by simp
    go_wp2_with fail
    refine wp_region_later w2.heap.size (by kernel_rfl) (by kernel_rfl) ?_
    repeat (go_big_quiet_step (first
      | (go_at_call 42; exact Calls.later (Nat.le_refl _) (HO1.out _ (HS.out.keep (Subtype.property _))))
      | (go_at_call 43; exact Calls.later (Nat.le_refl _) (HO2.out _ (HS.out.keep (Subtype.property _))))
      | (go_at_call 44; exact Calls.later (Nat.le_refl _) (HL1.out _ (HS.out.keep (Subtype.property _))))
      | (go_at_call 45; exact Calls.later (Nat.le_refl _) (HL2.out _ (HS.out.keep (Subtype.property _))))
      | (go_at_call 34; exact Calls.later (Nat.le_refl _) (ndSame_any M vA vA2 vc vc2 _ (SlR.keep HN.out (Subtype.property _)) (SlR.keep HN2.out (Subtype.property _))))
      | (go_at_call 39; exact Calls.later (Nat.le_refl _) (known32_any _))))
    refine wpQuiet_nil ?_
    rintro ⟨wx, hbx⟩
    have HBX := Stow.mk (HB.out.trans (hbx.mono HB.out.size))
    clear g0 g1 g2 g3 g4
    go_wp2_with fail
    go_ret
    exact ⟨rfl, HBX.out⟩
end Go.Proofs.Ythbpcdoddcacdaa
