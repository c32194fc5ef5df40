/- Walk of slices.symMergeCmpFunc at ints where one side has one element. Conditions: places within the row; the comparison's captured slice. -/
import Derived.Test.YthbpcdoddcacdaaTrIns
namespace Go.Proofs.Ythbpcdoddcacdaa
open Go.RowKit
set_option linter.unusedVariables false

/-- What a merge gives. -/
def SymPost (T : List Sp) (P X S : List Nat) (B g N cap : Nat) (w : World) (e : Ending) (w' : World) : Prop :=
  e = .returned (.tuple #[]) ∧ ∃ L', IRow w' B (.slice (some ⟨g, 0, none⟩) N cap) L' ∧ So.Mid (Tr.lt T) P X S L' ∧ Only g w w'

set_option maxHeartbeats 4000000 in
set_option maxRecDepth 100000 in
theorem symOneL_any (T : List Sp) (c : Value) (Good : World → Prop) (P Y S L : List Nat) (x0 a m b : Nat) (B g N cap : Nat) (w : World) (hC : CmpOK T c g Good) (hgood : Good w) (hR : IRow w B (.slice (some ⟨g, 0, none⟩) N cap) L) (hL : L = P ++ [x0] ++ Y ++ S) (ha : P.length = a) (hm : a + 1 = m) (hb : m + Y.length = b)
    (sY : So.Sorted (Tr.lt T) Y) (hA : So.Ahead Tr.bf [x0] Y) (hM : ∀ x ∈ [x0] ++ Y, x < T.length) (hNs : N ≤ 1000000) :
    Calls Try.prog 117 #[.slice (some ⟨g, 0, none⟩) N cap, .int .i64 (a : Int), .int .i64 (m : Int), .int .i64 (b : Int), .func (.func 75) #[] #[c]] w (SymPost T P ([x0] ++ Y) S B g N cap w) := by
  have hmax := hR.max
  have hN := hR.len
  have hl : L.length = b + S.length := by rw [hL]; simp only [List.length_append, List.length_cons, List.length_nil]; omega
  have hbN : b ≤ N := by omega
  have hmb : m ≤ b := by omega
  have hma : (m : Int) - (a : Int) = 1 := by omega
  have HR := Stow.mk hR
  have HC := Stow.mk hC
  have HG := Stow.mk hgood
  have HX := Stow.mk (And.intro hL (And.intro ha (And.intro hm hb)))
  have HS := Stow.mk (And.intro sY (And.intro hA hM))
  have HMO := Stow.mk (So.QL_mono (Tr.ord T) hL ha hm hb sY)
  have HL0 : Stow (L[a]? = some x0) := ⟨by rw [hL, List.append_assoc, List.append_assoc]; exact So.get_at ha⟩
  have hx0 : x0 < T.length := hM x0 (by simp)
  have HMA := Stow.mk (And.intro hma hm)
  clear hR hL ha hb hm hmax hN hl hC hgood sY hA hM
  go_enter Try.func117, Try.ntmps117
  go_wp2_with fail
  go_loopw [10, 11] (fun u v wr => ∃ (i j : Nat), u = .int .i64 (i : Int) ∧ v = .int .i64 (j : Int) ∧ m ≤ i ∧ i ≤ j ∧ j ≤ b ∧ Stow (So.Srch (So.QL (Tr.lt T) x0 L) m b i j) ∧ Stow (IRow wr B (.slice (some ⟨g, 0, none⟩) N cap) L) ∧ Only g w wr) (fun u v _ => (intOf v).toNat - (intOf u).toNat)
  case atStart => exact ⟨m, b, rfl, rfl, Nat.le_refl _, hmb, Nat.le_refl _, ⟨So.Srch.start hmb⟩, HR, Only.refl _ _⟩
  case round =>
    obtain ⟨i, j, rfl, rfl, hmi, hij, hjb, HJ, HW, ho⟩ := hrel
    have HO := Stow.mk ho
    have HG2 := Stow.mk (HC.out.keep _ _ HG.out ho)
    clear ho
    by_cases hlt : i < j
    · have hii : (i : Int) < j := by omega
      obtain ⟨h, hh⟩ : ∃ h, (i + j) / 2 = h := ⟨_, rfl⟩
      have hh1 : i ≤ h := by omega
      have hh2 : h < j := by omega
      have hhe : ((i : Int) + (j : Int)) / 2 = (h : Int) := by omega
      have ey := So.at_y (X := [x0]) HX.out.1 HX.out.2.1 HX.out.2.2.1 (t := h) (by omega) (by have := HX.out.2.2.2; omega)
      obtain ⟨y, hy⟩ : ∃ y, Y[h - m]'(by have := HX.out.2.2.2; omega) = y := ⟨_, rfl⟩
      have hyY : y ∈ Y := hy ▸ List.getElem_mem _
      rw [hy] at ey
      have hyM : y < T.length := HS.out.2.2 y (by simp [hyY])
      have c1 := HW.out.cell ey
      have c2 := HW.out.cell HL0.out
      have KC := fun n => HC.out.call _ (HC.out.keep _ _ HG2.out (Only.drewN g _ n)) y x0 hyM hx0
      have hltb := Tr.lt_back (T := T) (HS.out.2.1 x0 (by simp) y hyY)
      obtain ⟨d, hd⟩ : ∃ d, cv (Tr.sp T y).sq (Tr.sp T x0).sq = d := ⟨_, rfl⟩
      have hdn := cv_neg (Tr.sp T y).sq (Tr.sp T x0).sq
      rw [hd] at hdn KC
      have HKC := Stow.mk KC
      have HEY := Stow.mk ey
      have hhN : h < N := by omega
      have haN : a < N := by have := HX.out.2.2.1; omega
      clear KC hd ey hy hh
      by_cases hq : Tr.lt T y x0
      · have hd0 : decide (d < 0) = true := by simp; exact hdn.2 (hltb.1 hq)
        have HNX : Stow (So.Srch (So.QL (Tr.lt T) x0 L) m b (h + 1) j) := ⟨HJ.out.right HMO.out hh1 hh2 fun z hz => by
          rw [HEY.out] at hz
          obtain rfl := Option.some.inj hz
          exact hq⟩
        clear hdn hltb hq
        go_wp2_with fail
        go_quiet ((go_at_call 75; exact Calls.quiet_of (HKC.out _)))
        go_wp2_with fail
        exact ⟨⟨h + 1, j, rfl, rfl, by omega, by omega, hjb, HNX, ⟨HW.out.drewN _⟩, HO.out.trans (Only.drewN g _ _)⟩, by simp [intOf]; omega⟩
      · have hd0 : decide (d < 0) = false := by simp; exact Int.not_lt.1 fun h => hq (hltb.2 (hdn.1 h))
        have HNX : Stow (So.Srch (So.QL (Tr.lt T) x0 L) m b i h) := ⟨HJ.out.left HMO.out hh1 hh2 fun hz => hq (hz y HEY.out)⟩
        clear hdn hltb hq
        go_wp2_with fail
        go_quiet ((go_at_call 75; exact Calls.quiet_of (HKC.out _)))
        go_wp2_with fail
        exact ⟨⟨i, h, rfl, rfl, hmi, hh1, by omega, HNX, ⟨HW.out.drewN _⟩, HO.out.trans (Only.drewN g _ _)⟩, by simp [intOf]; omega⟩
    · obtain rfl : j = i := by omega
      have HE := Stow.mk (So.left_end (Tr.ord T) HX.out.1 HX.out.2.1 HX.out.2.2.1 HX.out.2.2.2 HS.out.1 HS.out.2.1 HJ.out)
      have HMV : Stow (So.MvL P Y S x0 0 L) := ⟨by unfold So.MvL; rw [HX.out.1]; simp⟩
      have hj1 : (j : Int) - 1 = ((j - 1 : Nat) : Int) := by omega
      have haj : a ≤ j - 1 := by have := HX.out.2.2.1; omega
      have hjN : j - 1 < N := by omega
      have HGO := Stow.mk (HO.out)
      go_wp2_with fail
      go_loopw [13] (fun v wi => ∃ (k : Nat) (L2 : List Nat), v = .int .i64 (k : Int) ∧ a ≤ k ∧ k ≤ j - 1 ∧ Stow (So.MvL P Y S x0 (k - a) L2) ∧ Stow (IRow wi B (.slice (some ⟨g, 0, none⟩) N cap) L2) ∧ Only g w wi) (fun v _ => j - (intOf v).toNat)
      case atStart => exact ⟨a, L, rfl, Nat.le_refl _, haj, by rw [Nat.sub_self]; exact HMV, HW, HO.out⟩
      case round =>
        obtain ⟨k, L2, rfl, hka, hkj, HK, HV, ho2⟩ := hrel
        have HO2 := Stow.mk ho2
        clear ho2
        by_cases hkl : k < j - 1
        · obtain ⟨y, g1, g2, HNX⟩ := So.mvL_step HX.out.2.1 (k := k) (t := k - a) (by omega) (by have := HX.out.2.2.1; have := HX.out.2.2.2; omega) HK.out
          have c1 := HV.out.cell g1
          have c2 := HV.out.cell g2
          have f1 := HV.out.free k
          have f2 := HV.out.free (k + 1)
          have HNX' := Stow.mk HNX
          have hkN : k + 1 < N := by omega
          have hkji : (k : Int) < ((j - 1 : Nat) : Int) := by omega
          clear g1 g2 HNX
          go_wp2_with fail
          go_region
          go_wp2_with fail
          exact ⟨⟨k + 1, _, rfl, by omega, by omega, by rw [show k + 1 - a = k - a + 1 by omega]; exact HNX', ⟨((HV.out.store _ _).store _ _).drew⟩, (HO2.out.trans ((Only.set g _ _ _).trans (Only.set g _ _ _))).trans (Only.drewN g _ 1)⟩, by simp [intOf]; omega⟩
        · obtain rfl : k = j - 1 := by omega
          have HP : Stow (SymPost T P ([x0] ++ Y) S B g N cap w (.returned (.tuple #[])) _) := ⟨⟨rfl, L2, HV.out, ⟨⟨_, by
            have := HK.out
            unfold So.MvL at this
            rw [show j - 1 - a = j - m by have := HX.out.2.2.1; omega] at this
            rw [this]
            simp only [List.append_assoc, List.cons_append], HE.out.1, HE.out.2⟩⟩, HO2.out⟩⟩
          have hni : ¬ ((j - 1 : Nat) : Int) < ((j - 1 : Nat) : Int) := by omega
          go_wp2_with fail
          first | go_end0 | refine bodyPost_ret (results_none rfl _ _ _) rfl ?_
          exact HP.out
end Go.Proofs.Ythbpcdoddcacdaa
