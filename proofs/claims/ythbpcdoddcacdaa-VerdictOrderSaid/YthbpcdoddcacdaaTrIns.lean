/- Walk of slices.insertionSortCmpFunc at ints, with the comparison of tree.Kids. Conditions: places within the row; the comparison's captured slice. -/
import Derived.Test.YthbpcdoddcacdaaTrSwap
namespace Go.Proofs.Ythbpcdoddcacdaa
open Go.RowKit
set_option linter.unusedVariables false

/-- What cmp.Compare gives. -/
def cv (a b : Int) : Int := if a < b then -1 else if b < a then 1 else 0
theorem cv_neg (a b : Int) : cv a b < 0 ↔ a < b := by
  unfold cv
  by_cases h1 : a < b
  · simp [h1]
  · by_cases h2 : b < a
    · simp [h1, h2]
    · simp [h1, h2]
/-- A comparison of places by Seq, in all worlds in which only block g may have turned. -/
structure CmpOK (T : List Sp) (c : Value) (g : Nat) (Good : World → Prop) : Prop where
  keep : ∀ W W', Good W → Only g W W' → Good W'
  call : ∀ W, Good W → ∀ x y : Nat, x < T.length → y < T.length → Calls Try.prog 75 #[.int .i64 (x : Int), .int .i64 (y : Int), c] W fun e w' => e = .returned (.int .i64 (cv (Tr.sp T x).sq (Tr.sp T y).sq)) ∧ ∃ n, w' = W.drewN n
namespace Tr
theorem lt_back {T : List Sp} {x y : Nat} (h : bf x y) : lt T y x ↔ (sp T y).sq < (sp T x).sq := by unfold lt bf at *; omega
end Tr

set_option maxHeartbeats 4000000 in
set_option maxRecDepth 100000 in
theorem insSort_any (T : List Sp) (c : Value) (Good : World → Prop) (P X S L : List Nat) (a b : Nat) (B g N cap : Nat) (w : World) (hC : CmpOK T c g Good) (hgood : Good w) (hR : IRow w B (.slice (some ⟨g, 0, none⟩) N cap) L) (hL : L = P ++ X ++ S) (ha : P.length = a) (hb : P.length + X.length = b) (hX : X.Pairwise Tr.bf) (hM : ∀ x ∈ X, x < T.length) (hNs : N ≤ 1000000) :
    Calls Try.prog 116 #[.slice (some ⟨g, 0, none⟩) N cap, .int .i64 (a : Int), .int .i64 (b : Int), .func (.func 75) #[] #[c]] w fun e w' => e = .returned (.tuple #[]) ∧ ∃ L', IRow w' B (.slice (some ⟨g, 0, none⟩) N cap) L' ∧ So.Mid (Tr.lt T) P X S L' ∧ Only g w w' := by
  have hmax := hR.max
  have hN := hR.len
  have hl : L.length = b + S.length := by rw [hL]; simp only [List.length_append]; omega
  have hbN : b ≤ N := by omega
  have hab : a ≤ b := by omega
  have HR := Stow.mk hR
  have HC := Stow.mk hC
  have HG := Stow.mk hgood
  have HX := Stow.mk (And.intro hX (And.intro hM (And.intro ha hb)))
  by_cases h0 : X.length = 0
  · obtain rfl := List.eq_nil_of_length_eq_zero h0
    have HE : Stow (So.Mid (Tr.lt T) P [] S L) := ⟨⟨[], by simpa using hL, List.Perm.refl _, by simp⟩⟩
    have hni : ¬ (a : Int) + 1 < (b : Int) := by simp at hb; omega
    clear hR hL ha hb hX hM hmax hN hl hC hgood h0
    go_enter Try.func116, Try.ntmps116
    go_wp2_with fail
    go_loopw [8, 9] (fun u v wr => u = .int .i64 ((a : Int) + 1) ∧ wr = w) (fun _ _ _ => 0)
    case atStart => exact ⟨rfl, rfl⟩
    case round =>
      obtain ⟨rfl, rfl⟩ := hrel
      go_wp2_with fail
      first | go_end0 | refine bodyPost_ret (results_none rfl _ _ _) rfl ?_
      exact ⟨rfl, L, HR.out, HE.out, Only.refl _ _⟩
  have hxl : X.length = b - a := by omega
  have hx1 : X.length ≤ N := by omega
  have HST : Stow (∃ Z, L = P ++ Z ++ (X.drop 1 ++ S) ∧ Z.Perm (X.take 1) ∧ So.Sorted (Tr.lt T) Z) := ⟨⟨X.take 1, by
    have e : X.take 1 ++ X.drop 1 = X := List.take_append_drop 1 X
    rw [hL]
    conv => lhs; rw [← e]
    simp only [List.append_assoc], List.Perm.refl _, by
    match X with
    | [] => simp
    | x :: t => simp⟩⟩
  clear hR hL ha hb hX hM hmax hN hl hC hgood
  go_enter Try.func116, Try.ntmps116
  go_wp2_with fail
  go_loopw [8] (fun v wr => ∃ (k : Nat) (L' : List Nat), v = .int .i64 ((a + k : Nat) : Int) ∧ 1 ≤ k ∧ k ≤ X.length ∧ Stow (∃ Z, L' = P ++ Z ++ (X.drop k ++ S) ∧ Z.Perm (X.take k) ∧ So.Sorted (Tr.lt T) Z) ∧ Stow (IRow wr B (.slice (some ⟨g, 0, none⟩) N cap) L') ∧ Only g w wr) (fun v _ => b - (intOf v).toNat)
  case atStart => exact ⟨1, L, by simp, by omega, by omega, HST, HR, Only.refl _ _⟩
  case round =>
    obtain ⟨k, L', rfl, hk1, hk, HJ, HW, ho⟩ := hrel
    have HO := Stow.mk ho
    clear ho
    by_cases hlt : k < X.length
    · obtain ⟨Z, hL', hZ, sZ⟩ := HJ.out
      have hzl : Z.length = k := by rw [hZ.length_eq, List.length_take]; omega
      have hdk : X.drop k = X[k] :: X.drop (k + 1) := List.drop_eq_getElem_cons hlt
      obtain ⟨x, hx⟩ : ∃ x, X[k] = x := ⟨_, rfl⟩
      have hxM : x < T.length := hx ▸ HX.out.2.1 _ (List.getElem_mem hlt)
      have hXp : X = X.take k ++ X.drop k := (List.take_append_drop k X).symm
      have hpw := HX.out.1
      rw [hXp, hdk, hx] at hpw
      have HA : Stow (So.Ahead Tr.bf Z [x]) := ⟨fun z hz y hy => by
        simp at hy; subst hy
        exact (List.pairwise_append.1 hpw).2.2 z (hZ.mem_iff.1 hz) y (by simp)⟩
      have HZM : Stow (∀ z ∈ Z, z < T.length) := ⟨fun z hz => HX.out.2.1 z (List.mem_of_mem_take (hZ.mem_iff.1 hz))⟩
      have HZP : Stow ((Z ++ [x]).Perm (X.take (k + 1))) := ⟨by
        rw [List.take_succ_eq_append_getElem hlt, hx]
        exact List.Perm.append_right _ hZ⟩
      have HSZ := Stow.mk sZ
      have HM0 : Stow (So.MvL P Z (X.drop (k + 1) ++ S) x k L' ∧ ∀ z ∈ Z.drop k, Tr.lt T x z) := ⟨by
        unfold So.MvL
        rw [List.take_of_length_le (by omega), List.drop_eq_nil_of_le (by omega), hL', hdk, hx]
        simp, by rw [List.drop_eq_nil_of_le (by omega)]; simp⟩
      have hkb : a + k < b := by omega
      have hkbi : ((a + k : Nat) : Int) < (b : Int) := by omega
      obtain ⟨j0, hj0⟩ : ∃ j0, a + k = j0 := ⟨_, rfl⟩
      rw [hj0] at hkbi
      rw [hj0]
      have HJ0 := Stow.mk hj0
      have hj0a : a ≤ j0 := by omega
      have hj0b : j0 < b := by omega
      have HZL := Stow.mk hzl
      have HGR := Stow.mk (HC.out.keep _ _ HG.out HO.out)
      clear hL' hZ sZ hzl hdk hx hXp hpw hj0 HJ hkb hxl
      go_wp2_with fail
      go_loopw [9] (fun v wi => ∃ (j : Nat) (L2 : List Nat), v = .int .i64 (j : Int) ∧ a ≤ j ∧ j ≤ j0 ∧ Stow (So.MvL P Z (X.drop (k + 1) ++ S) x (j - a) L2 ∧ ∀ z ∈ Z.drop (j - a), Tr.lt T x z) ∧ Stow (IRow wi B (.slice (some ⟨g, 0, none⟩) N cap) L2) ∧ Only g wr wi) (fun v _ => (intOf v).toNat)
      case atStart => exact ⟨j0, L', rfl, hj0a, Nat.le_refl _, by have := HJ0.out; rw [show j0 - a = k by omega]; exact HM0, HW, Only.refl _ _⟩
      case round =>
        obtain ⟨j, L2, rfl, hja, hjb, HK, HV, ho2⟩ := hrel
        have HO2 := Stow.mk ho2
        have HG2 := Stow.mk (HC.out.keep _ _ HGR.out ho2)
        clear ho2
        by_cases hjl : a < j
        rotate_left
        · obtain rfl : j = a := by omega
          have hjd : decide (j < j) = false := by simp
          have HE : Stow (∃ Z', L2 = P ++ Z' ++ (X.drop (k + 1) ++ S) ∧ Z'.Perm (X.take (k + 1)) ∧ So.Sorted (Tr.lt T) Z') := ⟨by
            have he := So.ins_end (Tr.ord T) HSZ.out HA.out (t := j - j) (by omega) HK.out.2 (fun z h0 _ => by omega)
            refine ⟨_, ?_, he.1.trans HZP.out, he.2⟩
            have := HK.out.1
            unfold So.MvL at this
            rw [this]; simp only [List.append_assoc, List.cons_append]⟩
          go_wp2_with fail
          go_quiet (fail)
          go_wp2_with fail
          exact ⟨⟨k + 1, L2, by have := HJ0.out; first | rfl | (simp; omega), by omega, by omega, HE, ⟨HV.out.drewN _⟩, (HO.out.trans HO2.out).trans (Only.drewN g _ _)⟩, by have := HJ0.out; simp [intOf]; omega⟩
        have hjd : decide (a < j) = true := by simp; omega
        have hjk : j - a ≤ Z.length := by have := HJ0.out; have := HZL.out; omega
        obtain ⟨z, g1, g2, g3, HNX⟩ := So.mvR_step (S := X.drop (k + 1) ++ S) HX.out.2.2.1 (k := j) (t := j - a) (by omega) (by omega) hjk HK.out.1
        have hzM : z < T.length := HZM.out z (List.mem_of_getElem? g3)
        have c1 := HV.out.cell g1
        have c2 := HV.out.cell g2
        have f1 := HV.out.free j
        have f2 := HV.out.free (j - 1)
        have hj1 : (j : Int) - 1 = ((j - 1 : Nat) : Int) := by omega
        have hjN : (j : Int) < N := by omega
        have hj1N : j - 1 < N := by omega
        have HG3 := Stow.mk g3
        have HN3 := Stow.mk HNX
        have KC := fun n => HC.out.call _ (HC.out.keep _ _ HG2.out (Only.drewN g _ n)) x z hxM hzM
        have hbfz : Tr.bf z x := HA.out z (List.mem_of_getElem? g3) x (by simp)
        have hltb := Tr.lt_back (T := T) hbfz
        obtain ⟨d, hd⟩ : ∃ d, cv (Tr.sp T x).sq (Tr.sp T z).sq = d := ⟨_, rfl⟩
        have hdn := cv_neg (Tr.sp T x).sq (Tr.sp T z).sq
        rw [hd] at hdn
        rw [hd] at KC
        have HKC := Stow.mk KC
        clear g1 g2 g3 HNX KC hbfz hd
        by_cases hq : Tr.lt T x z
        · have hd0 : decide (d < 0) = true := by simp; exact hdn.2 (hltb.1 hq)
          have HDL : Stow (∀ y ∈ Z.drop (j - a - 1), Tr.lt T x y) := ⟨So.drop_pred (by omega) HG3.out hq HK.out.2⟩
          clear hdn hltb hq
          go_wp2_with fail
          go_quiet ((go_at_call 75; exact Calls.quiet_of (HKC.out _)))
          go_wp2_with fail
          go_region
          go_wp2_with fail
          exact ⟨⟨j - 1, _, rfl, by omega, by omega, ⟨by rw [show j - 1 - a = j - a - 1 by omega]; exact HN3.out, by rw [show j - 1 - a = j - a - 1 by omega]; exact HDL.out⟩, ⟨((HV.out.drewN _).store _ _).store _ _⟩, (HO2.out.trans (Only.drewN g _ _)).trans ((Only.set g _ _ _).trans (Only.set g _ _ _))⟩, by simp [intOf]; omega⟩
        · have hd0 : decide (d < 0) = false := by simp; exact Int.not_lt.1 fun h => hq (hltb.2 (hdn.1 h))
          have HE : Stow (∃ Z', L2 = P ++ Z' ++ (X.drop (k + 1) ++ S) ∧ Z'.Perm (X.take (k + 1)) ∧ So.Sorted (Tr.lt T) Z') := ⟨by
            have he := So.ins_end (Tr.ord T) HSZ.out HA.out (t := j - a) hjk HK.out.2 (fun z' _ hz' => by
              rw [HG3.out] at hz'
              obtain rfl := Option.some.inj hz'
              exact hq)
            refine ⟨_, ?_, he.1.trans HZP.out, he.2⟩
            have := HK.out.1
            unfold So.MvL at this
            rw [this]; simp only [List.append_assoc, List.cons_append]⟩
          clear hdn hltb hq
          go_wp2_with fail
          go_quiet ((go_at_call 75; exact Calls.quiet_of (HKC.out _)))
          go_wp2_with fail
          exact ⟨⟨k + 1, L2, by have := HJ0.out; first | rfl | (simp; omega), by omega, by omega, HE, ⟨HV.out.drewN _⟩, (HO.out.trans HO2.out).trans (Only.drewN g _ _)⟩, by have := HJ0.out; simp [intOf]; omega⟩
    · obtain rfl : k = X.length := by omega
      have HE : Stow (So.Mid (Tr.lt T) P X S L') := ⟨by
        obtain ⟨Z, h1, h2, h3⟩ := HJ.out
        rw [List.take_length] at h2
        rw [List.drop_length, List.nil_append] at h1
        exact ⟨⟨Z, h1, h2, h3⟩⟩⟩
      have hbe : a + X.length = b := by omega
      rw [hbe]
      have hbi : ¬ (b : Int) < b := by omega
      clear hbe hxl
      go_wp2_with fail
      first | go_end0 | refine bodyPost_ret (results_none rfl _ _ _) rfl ?_
      exact ⟨rfl, L', HW.out, HE.out, HO.out⟩
end Go.Proofs.Ythbpcdoddcacdaa
