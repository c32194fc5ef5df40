/- Walk of slices.symMergeCmpFunc at ints, with the comparison of tree.Kids. Conditions: places within the row; the comparison's captured slice. -/
import Derived.Test.YtfbhdkkmcfnghaaGreatM05

section
namespace Go.Proofs.YtfbhdkkmcfnghaaGreat
open Go.RowKit
set_option linter.unusedVariables false

/-- What a merge asks. -/
structure SymPre (T : List Sp) (P X Y S L : List Nat) (a m b : Nat) : Prop where
  pL : L = P ++ X ++ Y ++ S
  pa : P.length = a
  pm : a + X.length = m
  pb : m + Y.length = b
  x0 : 0 < X.length
  y0 : 0 < Y.length
  sX : So.Sorted (Tr.lt T) X
  sY : So.Sorted (Tr.lt T) Y
  hA : So.Ahead Tr.bf X Y
  hM : ∀ x ∈ X ++ Y, x < T.length
def SymIH (T : List Sp) (c : Value) (g B N cap : Nat) (Good : World → Prop) (n : Nat) : Prop := ∀ (P X Y S L : List Nat) (a m b : Nat) (w : World), b - a < n → Good w → IRow w B (.slice (some ⟨g, 0, none⟩) N cap) L → SymPre T P X Y S L a m b →
  Calls Tryz.prog 180 #[.slice (some ⟨g, 0, none⟩) N cap, .int .i64 (a : Int), .int .i64 (m : Int), .int .i64 (b : Int), .func (.func 166) #[] #[c]] w (SymPost T P (X ++ Y) S B g N cap w)
theorem no_both {p q : Prop} [Decidable p] [Decidable q] {x y : Bool} (hx : decide p = x) (hy : decide q = y) (h : (x && y) = false) : ¬ (p ∧ q) := by
  rintro ⟨hp, hq⟩
  subst hx hy
  simp [hp, hq] at h
namespace Tr
variable {T : List Sp} {P X Y S L : List Nat} {a m b k l s : Nat}
theorem mem_take {α : Type} {k : Nat} {X Y : List α} {x : α} (h : x ∈ X.take k ++ Y) : x ∈ X ++ Y := by
  rcases List.mem_append.1 h with h | h
  · exact List.mem_append.2 (.inl (List.mem_of_mem_take h))
  · exact List.mem_append.2 (.inr h)
theorem pre_first {L' : List Nat} (h : SymPre T P X Y S L a m b) (hk : k ≤ X.length) (hl : l ≤ Y.length) (h1 : 0 < k) (h2 : 0 < l) (hL : L' = P ++ X.take k ++ Y.take l ++ (X.drop k ++ Y.drop l ++ S)) {s e : Nat} (hs : a + k = s) (he : s + l = e) : SymPre T P (X.take k) (Y.take l) (X.drop k ++ Y.drop l ++ S) L' a s e where
  pL := hL
  pa := h.pa
  pm := by rw [List.length_take]; omega
  pb := by rw [List.length_take]; omega
  x0 := by rw [List.length_take]; omega
  y0 := by rw [List.length_take]; omega
  sX := List.Pairwise.sublist (List.take_sublist k X) h.sX
  sY := List.Pairwise.sublist (List.take_sublist l Y) h.sY
  hA := h.hA.mono (fun x hx => List.mem_of_mem_take hx) (fun y hy => List.mem_of_mem_take hy)
  hM := fun x hx => h.hM x (by
    rcases List.mem_append.1 hx with hx | hx
    · exact List.mem_append.2 (.inl (List.mem_of_mem_take hx))
    · exact List.mem_append.2 (.inr (List.mem_of_mem_take hx)))
theorem pre_second {L' Z : List Nat} (h : SymPre T P X Y S L a m b) (hk : k < X.length) (hl : l < Y.length) (hZ : Z.length = k + l) (hL : L' = P ++ Z ++ (X.drop k ++ Y.drop l ++ S)) {s e : Nat} (hs : a + (k + l) = s) (he : s + (X.length - k) = e) : SymPre T (P ++ Z) (X.drop k) (Y.drop l) S L' s e b where
  pL := by rw [hL]; simp
  pa := by rw [List.length_append, hZ, h.pa]; exact hs
  pm := by rw [List.length_drop]; exact he
  pb := by rw [List.length_drop]; have := h.pm; have := h.pb; omega
  x0 := by rw [List.length_drop]; omega
  y0 := by rw [List.length_drop]; omega
  sX := List.Pairwise.sublist (List.drop_sublist k X) h.sX
  sY := List.Pairwise.sublist (List.drop_sublist l Y) h.sY
  hA := h.hA.mono (fun x hx => List.mem_of_mem_drop hx) (fun y hy => List.mem_of_mem_drop hy)
  hM := fun x hx => h.hM x (by
    rcases List.mem_append.1 hx with hx | hx
    · exact List.mem_append.2 (.inl (List.mem_of_mem_drop hx))
    · exact List.mem_append.2 (.inr (List.mem_of_mem_drop hx)))
theorem first_none (h : SymPre T P X Y S L a m b) (hk : ¬ (0 < k ∧ 0 < l)) : So.Sorted (lt T) (X.take k ++ Y.take l) := by
  by_cases h1 : 0 < k
  · obtain rfl : l = 0 := by omega
    simp only [List.take_zero, List.append_nil]
    exact List.Pairwise.sublist (List.take_sublist k X) h.sX
  · obtain rfl : k = 0 := by omega
    simp only [List.take_zero, List.nil_append]
    exact List.Pairwise.sublist (List.take_sublist l Y) h.sY
theorem second_none (h : SymPre T P X Y S L a m b) (hk : ¬ (k < X.length ∧ l < Y.length)) : So.Sorted (lt T) (X.drop k ++ Y.drop l) := by
  by_cases h1 : k < X.length
  · rw [List.drop_eq_nil_of_le (show Y.length ≤ l by omega), List.append_nil]
    exact List.Pairwise.sublist (List.drop_sublist k X) h.sX
  · rw [List.drop_eq_nil_of_le (show X.length ≤ k by omega), List.nil_append]
    exact List.Pairwise.sublist (List.drop_sublist l Y) h.sY
theorem rot_pre (h : SymPre T P X Y S L a m b) (hk : k ≤ X.length) (hl : l ≤ Y.length) : So.RotInv m (X.length - k) l L (P ++ X.take k ++ Y.take l ++ (X.drop k ++ Y.drop l ++ S)) := by
  refine ⟨P ++ X.take k, X.drop k, Y.take l, Y.drop l ++ S, ?_, by simp, by rw [List.length_append, List.length_take]; have := h.pm; have := h.pa; omega, by rw [List.length_drop], by rw [List.length_take]; omega⟩
  rw [h.pL]
  have e : X.take k ++ X.drop k = X := List.take_append_drop k X
  have e2 : Y.take l ++ Y.drop l = Y := List.take_append_drop l Y
  conv => lhs; rw [← e, ← e2]
  simp only [List.append_assoc]
theorem rot_none (h : SymPre T P X Y S L a m b) (hk : k ≤ X.length) (hl : l ≤ Y.length) (hn : ¬ (k < X.length ∧ 0 < l)) : L = P ++ X.take k ++ Y.take l ++ (X.drop k ++ Y.drop l ++ S) := by
  rw [h.pL]
  by_cases h1 : k < X.length
  · obtain rfl : l = 0 := by omega
    have e : X.take k ++ X.drop k = X := List.take_append_drop k X
    simp only [List.take_zero, List.drop_zero, List.append_nil, List.append_assoc]
    conv => lhs; rw [← e]
    simp only [List.append_assoc]
  · obtain rfl : k = X.length := by omega
    have e : Y.take l ++ Y.drop l = Y := List.take_append_drop l Y
    simp only [List.take_length, List.drop_length, List.nil_append, List.append_assoc]
    conv => lhs; rw [← e]
    simp only [List.append_assoc]
end Tr


set_option maxHeartbeats 8000000 in
set_option maxRecDepth 200000 in
theorem symMerge_step (T : List Sp) (c : Value) (Good : World → Prop) (B g N cap nn : Nat) (hC : CmpOK T c g Good) (hNs : N ≤ 1000000) (ih : SymIH T c g B N cap Good nn) : SymIH T c g B N cap Good (nn + 1) := by
  intro P X Y S L a m b w hn hgood hR hP
  by_cases h1 : X.length = 1
  · match X, h1 with
    | [x0], _ => exact symOneL_any T c Good P Y S L x0 a m b B g N cap w hC hgood hR hP.pL hP.pa hP.pm hP.pb hP.sY hP.hA hP.hM hNs
  by_cases h2 : Y.length = 1
  · match Y, h2 with
    | [y0], _ => exact symOneR_any T c Good P X S L y0 a m b B g N cap w hC hgood hR hP.pL hP.pa hP.pm hP.pb (by have := hP.pm; omega) hP.sX hP.hA hP.hM hNs
  have hmax := hR.max
  have hN := hR.len
  have hx0 := hP.x0
  have hy0 := hP.y0
  have hpm := hP.pm
  have hpb := hP.pb
  have hpa := hP.pa
  have hl : L.length = b + S.length := by rw [hP.pL]; simp only [List.length_append]; omega
  have hbN : b ≤ N := by omega
  have ham : a < m := by omega
  have hmb : m < b := by omega
  have hm1 : (((m : Int) - (a : Int)) == 1) = false := by rw [beq_eq_false_iff_ne]; omega
  have hb1 : (((b : Int) - (m : Int)) == 1) = false := by rw [beq_eq_false_iff_ne]; omega
  obtain ⟨mid, hmid⟩ : ∃ mid, (a + b) / 2 = mid := ⟨_, rfl⟩
  have hlh := So.lo_hi ham hmb
  have HLOOK := Stow.mk (fun t h3 h4 => So.look (t := t) ham hmb h3 h4)
  have HMO := Stow.mk (So.Q_mono (Tr.ord T) hP.pL hP.pa hP.pm hP.pb hP.sX hP.sY hP.hA ham hmb)
  have HCUT0 := Stow.mk (fun s h => So.cut_of (s := s) (Tr.ord T) hP.pL hP.pa hP.pm hP.pb hP.sX hP.sY hP.hA ham hmb h)
  have hlo : So.lo a m b = if mid < m then mid + m - b else a := by unfold So.lo; rw [hmid]
  have hhi : So.hi a m b = if mid < m then mid else m := by unfold So.hi; rw [hmid]
  rw [hmid] at HLOOK HMO HCUT0 hlh
  obtain ⟨p, hp⟩ : ∃ p, mid + m - 1 = p := ⟨_, rfl⟩
  rw [hp] at HLOOK HMO HCUT0
  generalize So.lo a m b = s0 at *
  generalize So.hi a m b = r0 at *
  have hme : ((a : Int) + (b : Int)) / 2 = (mid : Int) := by omega
  have hpe : (mid : Int) + (m : Int) - 1 = (p : Int) := by omega
  have hmidN : mid ≤ N := by omega
  have hpN : p ≤ 2 * N := by omega
  have HR := Stow.mk hR
  have HC := Stow.mk hC
  have HG := Stow.mk hgood
  have HIH := Stow.mk ih
  have HPRE := Stow.mk hP
  have HNUM := Stow.mk (And.intro hmid (And.intro hp (And.intro hpm (And.intro hpb (And.intro hpa hn)))))
  have hsr : s0 ≤ r0 := hlh.2.1
  have HLH := Stow.mk hlh
  have hs0 : s0 ≤ N := by omega
  have hr0 : r0 ≤ N := by omega
  have HS0 : Stow (So.Srch (So.Q (Tr.lt T) L p) s0 r0 s0 r0) := ⟨So.Srch.start hsr⟩
  have hpm2 : p + 1 = mid + m := by omega
  clear hC hgood hR hP ih hmax hN hl hlh hmid hp hpm hpb hpa hn hsr h1 h2
  by_cases hmm : mid < m
  · rw [if_pos hmm] at hlo hhi
    have hmmi : (mid : Int) < m := by omega
    have hloe : (mid : Int) + (m : Int) - (b : Int) = (s0 : Int) := by have := HLH.out; have := HNUM.out; omega
    obtain rfl : mid = r0 := hhi.symm
    clear hlo hhi
    go_enter Tryz.func180, Tryz.ntmps180
    go_wp2_with fail
    go_loopw [20, 21] (fun u v wr => ∃ (s r : Nat), u = .int .i64 (s : Int) ∧ v = .int .i64 (r : Int) ∧ s0 ≤ s ∧ s ≤ r ∧ r ≤ mid ∧ Stow (So.Srch (So.Q (Tr.lt T) L p) s0 mid s r) ∧ Stow (IRow wr B (.slice (some ⟨g, 0, none⟩) N cap) L) ∧ Only g w wr) (fun u v _ => (intOf v).toNat - (intOf u).toNat)
    case atStart => exact ⟨s0, mid, rfl, rfl, Nat.le_refl _, HLH.out.2.1, Nat.le_refl _, HS0, HR, Only.refl _ _⟩
    rotate_right
    obtain ⟨s, r, rfl, rfl, hs0s, hsr, hrr0, HJ, HW, ho⟩ := hrel
    have HO := Stow.mk ho
    have HG2 := Stow.mk (HC.out.keep _ _ HG.out ho)
    clear ho
    by_cases hlt : s < r
    · have hii : (s : Int) < r := by omega
      obtain ⟨h, hh⟩ : ∃ h, (s + r) / 2 = h := ⟨_, rfl⟩
      have hh1 : s ≤ h := by omega
      have hh2 : h < r := by omega
      have hhe : ((s : Int) + (r : Int)) / 2 = (h : Int) := by omega
      have hlk := HLOOK.out h (by omega) (by omega)
      obtain ⟨q, hq⟩ : ∃ q, p - h = q := ⟨_, rfl⟩
      have hpq : (p : Int) - (h : Int) = (q : Int) := by omega
      rw [hq] at hlk
      have HQE := Stow.mk hq
      have ex := So.at_x HPRE.out.pL HPRE.out.pa (t := h) hlk.1 (by have := HPRE.out.pm; omega)
      have ey := So.at_y HPRE.out.pL HPRE.out.pa HPRE.out.pm (t := q) hlk.2.2.1 (by have := HPRE.out.pb; omega)
      obtain ⟨x, hx⟩ : ∃ x, X[h - a]'(by have := HPRE.out.pm; omega) = x := ⟨_, rfl⟩
      obtain ⟨y, hy⟩ : ∃ y, Y[q - m]'(by have := HPRE.out.pb; omega) = y := ⟨_, rfl⟩
      have hxX : x ∈ X := hx ▸ List.getElem_mem _
      have hyY : y ∈ Y := hy ▸ List.getElem_mem _
      rw [hx] at ex
      rw [hy] at ey
      have hxM : x < T.length := HPRE.out.hM x (List.mem_append.2 (.inl hxX))
      have hyM : y < T.length := HPRE.out.hM y (List.mem_append.2 (.inr hyY))
      have c1 := HW.out.cell ex
      have c2 := HW.out.cell ey
      have KC := fun n => HC.out.call _ (HC.out.keep _ _ HG2.out (Only.drewN g _ n)) y x hyM hxM
      have hltb := Tr.lt_back (T := T) (HPRE.out.hA x hxX y hyY)
      obtain ⟨d, hd⟩ : ∃ d, cv (Tr.sp T y).sq (Tr.sp T x).sq = d := ⟨_, rfl⟩
      have hdn := cv_neg (Tr.sp T y).sq (Tr.sp T x).sq
      rw [hd] at hdn KC
      have HKC := Stow.mk KC
      have HEX := Stow.mk ex
      have HEY : Stow (L[p - h]? = some y) := ⟨by rw [HQE.out]; exact ey⟩
      have hhN : h < N := by omega
      have hqN : q < N := by omega
      have hh0 : (0 : Int) ≤ (p : Int) - (h : Int) := by omega
      clear KC hd ex ey hx hy hh hq hlk
      by_cases hqq : Tr.lt T y x
      · have hd0 : decide (d < 0) = true := by simp; exact hdn.2 (hltb.1 hqq)
        have HNX : Stow (So.Srch (So.Q (Tr.lt T) L p) s0 mid s h) := ⟨HJ.out.left HMO.out hh1 hh2 fun hz => hz x y HEX.out HEY.out hqq⟩
        clear hdn hltb hqq
        go_wp2_with fail
        go_quiet ((go_at_call 166; exact Calls.quiet_of (HKC.out _)))
        go_wp2_with fail
        exact ⟨⟨s, h, rfl, rfl, hs0s, hh1, by omega, HNX, ⟨HW.out.drewN _⟩, HO.out.trans (Only.drewN g _ _)⟩, by simp [intOf]; omega⟩
      · have hd0 : decide (d < 0) = false := by simp; exact Int.not_lt.1 fun h => hqq (hltb.2 (hdn.1 h))
        have HNX : Stow (So.Srch (So.Q (Tr.lt T) L p) s0 mid (h + 1) r) := ⟨HJ.out.right HMO.out hh1 hh2 fun x' y' hx' hy' => by
          rw [HEX.out] at hx'
          rw [HEY.out] at hy'
          obtain rfl := Option.some.inj hx'
          obtain rfl := Option.some.inj hy'
          exact hqq⟩
        clear hdn hltb hqq
        go_wp2_with fail
        go_quiet ((go_at_call 166; exact Calls.quiet_of (HKC.out _)))
        go_wp2_with fail
        exact ⟨⟨h + 1, r, rfl, rfl, by omega, by omega, hrr0, HNX, ⟨HW.out.drewN _⟩, HO.out.trans (Only.drewN g _ _)⟩, by simp [intOf]; omega⟩
    obtain rfl : r = s := by omega
    have HCUT := Stow.mk (HCUT0.out r HJ.out)
    have hlh := HLH.out
    have hnum := HNUM.out
    obtain ⟨k, hk⟩ : ∃ k, r - a = k := ⟨_, rfl⟩
    obtain ⟨l, hl⟩ : ∃ l, mid - r = l := ⟨_, rfl⟩
    obtain ⟨en, hen⟩ : ∃ en, mid + m - r = en := ⟨_, rfl⟩
    have hene : (mid : Int) + (m : Int) - (r : Int) = (en : Int) := by omega
    rw [hk, hl] at HCUT
    have hkx : k ≤ X.length := HCUT.out.kx
    have hly : l ≤ Y.length := HCUT.out.ly
    have hri : ¬ (r : Int) < r := by omega
    have henN : en ≤ N := by omega
    obtain ⟨bA, hA⟩ : ∃ bA, decide (r < m) = bA := ⟨_, rfl⟩
    obtain ⟨bB, hB⟩ : ∃ bB, decide (r < mid) = bB := ⟨_, rfl⟩
    obtain ⟨bC, hC⟩ : ∃ bC, decide (a < r) = bC := ⟨_, rfl⟩
    obtain ⟨bD, hD⟩ : ∃ bD, decide (en < b) = bD := ⟨_, rfl⟩
    have hA2 : decide (mid < en) = bA := by rw [← hA]; exact decide_eq_decide.2 (by omega)
    have hB2 : decide (m < en) = bB := by rw [← hB]; exact decide_eq_decide.2 (by omega)
    have HDA : Stow (decide (k < X.length) = bA) := ⟨by rw [← hA]; exact decide_eq_decide.2 (by omega)⟩
    have HDB : Stow (decide (0 < l) = bB) := ⟨by rw [← hB]; exact decide_eq_decide.2 (by omega)⟩
    have HDC : Stow (decide (0 < k) = bC) := ⟨by rw [← hC]; exact decide_eq_decide.2 (by omega)⟩
    have HDD : Stow (decide (l < Y.length) = bD) := ⟨by rw [← hD]; exact decide_eq_decide.2 (by omega)⟩
    have HN3 : Stow (a + k = r ∧ r + l = mid ∧ mid + (X.length - k) = en ∧ en ≤ N ∧ mid - a < nn ∧ b - mid < nn ∧ m - r = X.length - k ∧ en - m = l) := ⟨by omega⟩
    clear hk hl hen hlh hnum HJ
    cases bA
    · skip
      cases bB
      · skip
        cases bC
        · skip
          cases bD
          · skip
            have HV2 : Stow (IRow wr B (.slice (some ⟨g, 0, none⟩) N cap) (P ++ X.take k ++ Y.take l ++ (X.drop k ++ Y.drop l ++ S)) ∧ Only g w wr) := ⟨⟨Tr.rot_none HPRE.out hkx hly (no_both HDA.out HDB.out rfl) ▸ HW.out, HO.out⟩⟩
            have HV3 : Stow (IRow wr B (.slice (some ⟨g, 0, none⟩) N cap) (P ++ (X.take k ++ Y.take l) ++ (X.drop k ++ Y.drop l ++ S)) ∧ Only g w wr) := ⟨⟨by have := HV2.out.1; rw [List.append_assoc P]at this; exact this, HV2.out.2⟩⟩
            have HZ1 : Stow ((X.take k ++ Y.take l).length = k + l ∧ (X.take k ++ Y.take l).Perm (X.take k ++ Y.take l) ∧ So.Sorted (Tr.lt T) (X.take k ++ Y.take l)) := ⟨⟨by rw [List.length_append, List.length_take, List.length_take]; omega, List.Perm.refl _, Tr.first_none HPRE.out (no_both HDC.out HDB.out rfl)⟩⟩
            have HZ2 := Stow.mk (So.cut_merge HCUT.out HPRE.out.sX HPRE.out.sY HZ1.out.2.1 (List.Perm.refl _) HZ1.out.2.2 (Tr.second_none HPRE.out (no_both HDA.out HDD.out rfl)))
            have HEND : Stow (SymPost T P (X ++ Y) S B g N cap w (.returned (.tuple #[])) wr) := ⟨⟨rfl, _, HV3.out.1, ⟨⟨_, by simp only [List.append_assoc], HZ2.out.1, HZ2.out.2⟩⟩, HV3.out.2⟩⟩
            go_wp2_with fail
            first | go_end0 | refine bodyPost_ret (results_none rfl _ _ _) rfl ?_
            exact HEND.out
          · skip
            have HV2 : Stow (IRow wr B (.slice (some ⟨g, 0, none⟩) N cap) (P ++ X.take k ++ Y.take l ++ (X.drop k ++ Y.drop l ++ S)) ∧ Only g w wr) := ⟨⟨Tr.rot_none HPRE.out hkx hly (no_both HDA.out HDB.out rfl) ▸ HW.out, HO.out⟩⟩
            have HV3 : Stow (IRow wr B (.slice (some ⟨g, 0, none⟩) N cap) (P ++ (X.take k ++ Y.take l) ++ (X.drop k ++ Y.drop l ++ S)) ∧ Only g w wr) := ⟨⟨by have := HV2.out.1; rw [List.append_assoc P]at this; exact this, HV2.out.2⟩⟩
            have HZ1 : Stow ((X.take k ++ Y.take l).length = k + l ∧ (X.take k ++ Y.take l).Perm (X.take k ++ Y.take l) ∧ So.Sorted (Tr.lt T) (X.take k ++ Y.take l)) := ⟨⟨by rw [List.length_append, List.length_take, List.length_take]; omega, List.Perm.refl _, Tr.first_none HPRE.out (no_both HDC.out HDB.out rfl)⟩⟩
            have HZ2 := Stow.mk (So.cut_merge HCUT.out HPRE.out.sX HPRE.out.sY HZ1.out.2.1 (List.Perm.refl _) HZ1.out.2.2 (Tr.second_none HPRE.out (no_both HDA.out HDD.out rfl)))
            have HEND : Stow (SymPost T P (X ++ Y) S B g N cap w (.returned (.tuple #[])) wr) := ⟨⟨rfl, _, HV3.out.1, ⟨⟨_, by simp only [List.append_assoc], HZ2.out.1, HZ2.out.2⟩⟩, HV3.out.2⟩⟩
            go_wp2_with fail
            first | go_end0 | refine bodyPost_ret (results_none rfl _ _ _) rfl ?_
            exact HEND.out
        · skip
          cases bD
          · skip
            have HV2 : Stow (IRow wr B (.slice (some ⟨g, 0, none⟩) N cap) (P ++ X.take k ++ Y.take l ++ (X.drop k ++ Y.drop l ++ S)) ∧ Only g w wr) := ⟨⟨Tr.rot_none HPRE.out hkx hly (no_both HDA.out HDB.out rfl) ▸ HW.out, HO.out⟩⟩
            have HV3 : Stow (IRow wr B (.slice (some ⟨g, 0, none⟩) N cap) (P ++ (X.take k ++ Y.take l) ++ (X.drop k ++ Y.drop l ++ S)) ∧ Only g w wr) := ⟨⟨by have := HV2.out.1; rw [List.append_assoc P]at this; exact this, HV2.out.2⟩⟩
            have HZ1 : Stow ((X.take k ++ Y.take l).length = k + l ∧ (X.take k ++ Y.take l).Perm (X.take k ++ Y.take l) ∧ So.Sorted (Tr.lt T) (X.take k ++ Y.take l)) := ⟨⟨by rw [List.length_append, List.length_take, List.length_take]; omega, List.Perm.refl _, Tr.first_none HPRE.out (no_both HDC.out HDB.out rfl)⟩⟩
            have HZ2 := Stow.mk (So.cut_merge HCUT.out HPRE.out.sX HPRE.out.sY HZ1.out.2.1 (List.Perm.refl _) HZ1.out.2.2 (Tr.second_none HPRE.out (no_both HDA.out HDD.out rfl)))
            have HEND : Stow (SymPost T P (X ++ Y) S B g N cap w (.returned (.tuple #[])) wr) := ⟨⟨rfl, _, HV3.out.1, ⟨⟨_, by simp only [List.append_assoc], HZ2.out.1, HZ2.out.2⟩⟩, HV3.out.2⟩⟩
            go_wp2_with fail
            first | go_end0 | refine bodyPost_ret (results_none rfl _ _ _) rfl ?_
            exact HEND.out
          · skip
            have HV2 : Stow (IRow wr B (.slice (some ⟨g, 0, none⟩) N cap) (P ++ X.take k ++ Y.take l ++ (X.drop k ++ Y.drop l ++ S)) ∧ Only g w wr) := ⟨⟨Tr.rot_none HPRE.out hkx hly (no_both HDA.out HDB.out rfl) ▸ HW.out, HO.out⟩⟩
            have HV3 : Stow (IRow wr B (.slice (some ⟨g, 0, none⟩) N cap) (P ++ (X.take k ++ Y.take l) ++ (X.drop k ++ Y.drop l ++ S)) ∧ Only g w wr) := ⟨⟨by have := HV2.out.1; rw [List.append_assoc P]at this; exact this, HV2.out.2⟩⟩
            have HZ1 : Stow ((X.take k ++ Y.take l).length = k + l ∧ (X.take k ++ Y.take l).Perm (X.take k ++ Y.take l) ∧ So.Sorted (Tr.lt T) (X.take k ++ Y.take l)) := ⟨⟨by rw [List.length_append, List.length_take, List.length_take]; omega, List.Perm.refl _, Tr.first_none HPRE.out (no_both HDC.out HDB.out rfl)⟩⟩
            have HZ2 := Stow.mk (So.cut_merge HCUT.out HPRE.out.sX HPRE.out.sY HZ1.out.2.1 (List.Perm.refl _) HZ1.out.2.2 (Tr.second_none HPRE.out (no_both HDA.out HDD.out rfl)))
            have HEND : Stow (SymPost T P (X ++ Y) S B g N cap w (.returned (.tuple #[])) wr) := ⟨⟨rfl, _, HV3.out.1, ⟨⟨_, by simp only [List.append_assoc], HZ2.out.1, HZ2.out.2⟩⟩, HV3.out.2⟩⟩
            go_wp2_with fail
            first | go_end0 | refine bodyPost_ret (results_none rfl _ _ _) rfl ?_
            exact HEND.out
      · skip
        cases bC
        · skip
          cases bD
          · skip
            have HV2 : Stow (IRow wr B (.slice (some ⟨g, 0, none⟩) N cap) (P ++ X.take k ++ Y.take l ++ (X.drop k ++ Y.drop l ++ S)) ∧ Only g w wr) := ⟨⟨Tr.rot_none HPRE.out hkx hly (no_both HDA.out HDB.out rfl) ▸ HW.out, HO.out⟩⟩
            have HV3 : Stow (IRow wr B (.slice (some ⟨g, 0, none⟩) N cap) (P ++ (X.take k ++ Y.take l) ++ (X.drop k ++ Y.drop l ++ S)) ∧ Only g w wr) := ⟨⟨by have := HV2.out.1; rw [List.append_assoc P]at this; exact this, HV2.out.2⟩⟩
            have HZ1 : Stow ((X.take k ++ Y.take l).length = k + l ∧ (X.take k ++ Y.take l).Perm (X.take k ++ Y.take l) ∧ So.Sorted (Tr.lt T) (X.take k ++ Y.take l)) := ⟨⟨by rw [List.length_append, List.length_take, List.length_take]; omega, List.Perm.refl _, Tr.first_none HPRE.out (no_both HDC.out HDB.out rfl)⟩⟩
            have HZ2 := Stow.mk (So.cut_merge HCUT.out HPRE.out.sX HPRE.out.sY HZ1.out.2.1 (List.Perm.refl _) HZ1.out.2.2 (Tr.second_none HPRE.out (no_both HDA.out HDD.out rfl)))
            have HEND : Stow (SymPost T P (X ++ Y) S B g N cap w (.returned (.tuple #[])) wr) := ⟨⟨rfl, _, HV3.out.1, ⟨⟨_, by simp only [List.append_assoc], HZ2.out.1, HZ2.out.2⟩⟩, HV3.out.2⟩⟩
            go_wp2_with fail
            first | go_end0 | refine bodyPost_ret (results_none rfl _ _ _) rfl ?_
            exact HEND.out
          · skip
            have HV2 : Stow (IRow wr B (.slice (some ⟨g, 0, none⟩) N cap) (P ++ X.take k ++ Y.take l ++ (X.drop k ++ Y.drop l ++ S)) ∧ Only g w wr) := ⟨⟨Tr.rot_none HPRE.out hkx hly (no_both HDA.out HDB.out rfl) ▸ HW.out, HO.out⟩⟩
            have HV3 : Stow (IRow wr B (.slice (some ⟨g, 0, none⟩) N cap) (P ++ (X.take k ++ Y.take l) ++ (X.drop k ++ Y.drop l ++ S)) ∧ Only g w wr) := ⟨⟨by have := HV2.out.1; rw [List.append_assoc P]at this; exact this, HV2.out.2⟩⟩
            have HZ1 : Stow ((X.take k ++ Y.take l).length = k + l ∧ (X.take k ++ Y.take l).Perm (X.take k ++ Y.take l) ∧ So.Sorted (Tr.lt T) (X.take k ++ Y.take l)) := ⟨⟨by rw [List.length_append, List.length_take, List.length_take]; omega, List.Perm.refl _, Tr.first_none HPRE.out (no_both HDC.out HDB.out rfl)⟩⟩
            have HZ2 := Stow.mk (So.cut_merge HCUT.out HPRE.out.sX HPRE.out.sY HZ1.out.2.1 (List.Perm.refl _) HZ1.out.2.2 (Tr.second_none HPRE.out (no_both HDA.out HDD.out rfl)))
            have HEND : Stow (SymPost T P (X ++ Y) S B g N cap w (.returned (.tuple #[])) wr) := ⟨⟨rfl, _, HV3.out.1, ⟨⟨_, by simp only [List.append_assoc], HZ2.out.1, HZ2.out.2⟩⟩, HV3.out.2⟩⟩
            go_wp2_with fail
            first | go_end0 | refine bodyPost_ret (results_none rfl _ _ _) rfl ?_
            exact HEND.out
        · skip
          cases bD
          · skip
            have HV2 : Stow (IRow wr B (.slice (some ⟨g, 0, none⟩) N cap) (P ++ X.take k ++ Y.take l ++ (X.drop k ++ Y.drop l ++ S)) ∧ Only g w wr) := ⟨⟨Tr.rot_none HPRE.out hkx hly (no_both HDA.out HDB.out rfl) ▸ HW.out, HO.out⟩⟩
            have K1 := fun W h1 h2 => HIH.out P (X.take k) (Y.take l) (X.drop k ++ Y.drop l ++ S) _ a r mid W HN3.out.2.2.2.2.1 h1 h2 (Tr.pre_first HPRE.out hkx hly (of_decide_eq_true HDC.out) (of_decide_eq_true HDB.out) rfl HN3.out.1 HN3.out.2.1)
            have HK1 := Stow.mk K1
            clear K1
            go_wp2_with fail
            refine (HK1.out _ (HC.out.keep _ _ HG.out HV2.out.2) HV2.out.1).mono ?_
            rintro e w3 ⟨rfl, L3, hr3, ⟨Z1, hL3, hz1, sz1⟩, ho3⟩
            subst hL3
            have HV3 : Stow (IRow w3 B (.slice (some ⟨g, 0, none⟩) N cap) (P ++ Z1 ++ (X.drop k ++ Y.drop l ++ S)) ∧ Only g w w3) := ⟨⟨hr3, HV2.out.2.trans ho3⟩⟩
            have HZ1 : Stow (Z1.length = k + l ∧ Z1.Perm (X.take k ++ Y.take l) ∧ So.Sorted (Tr.lt T) Z1) := ⟨⟨by rw [hz1.length_eq, List.length_append, List.length_take, List.length_take]; omega, hz1, sz1⟩⟩
            clear hr3 hz1 sz1 ho3
            have HZ2 := Stow.mk (So.cut_merge HCUT.out HPRE.out.sX HPRE.out.sY HZ1.out.2.1 (List.Perm.refl _) HZ1.out.2.2 (Tr.second_none HPRE.out (no_both HDA.out HDD.out rfl)))
            have HEND : Stow (SymPost T P (X ++ Y) S B g N cap w (.returned (.tuple #[])) w3) := ⟨⟨rfl, _, HV3.out.1, ⟨⟨_, by simp only [List.append_assoc], HZ2.out.1, HZ2.out.2⟩⟩, HV3.out.2⟩⟩
            go_wp2_with fail
            first | go_end0 | refine bodyPost_ret (results_none rfl _ _ _) rfl ?_
            exact HEND.out
          · skip
            have HV2 : Stow (IRow wr B (.slice (some ⟨g, 0, none⟩) N cap) (P ++ X.take k ++ Y.take l ++ (X.drop k ++ Y.drop l ++ S)) ∧ Only g w wr) := ⟨⟨Tr.rot_none HPRE.out hkx hly (no_both HDA.out HDB.out rfl) ▸ HW.out, HO.out⟩⟩
            have K1 := fun W h1 h2 => HIH.out P (X.take k) (Y.take l) (X.drop k ++ Y.drop l ++ S) _ a r mid W HN3.out.2.2.2.2.1 h1 h2 (Tr.pre_first HPRE.out hkx hly (of_decide_eq_true HDC.out) (of_decide_eq_true HDB.out) rfl HN3.out.1 HN3.out.2.1)
            have HK1 := Stow.mk K1
            clear K1
            go_wp2_with fail
            refine (HK1.out _ (HC.out.keep _ _ HG.out HV2.out.2) HV2.out.1).mono ?_
            rintro e w3 ⟨rfl, L3, hr3, ⟨Z1, hL3, hz1, sz1⟩, ho3⟩
            subst hL3
            have HV3 : Stow (IRow w3 B (.slice (some ⟨g, 0, none⟩) N cap) (P ++ Z1 ++ (X.drop k ++ Y.drop l ++ S)) ∧ Only g w w3) := ⟨⟨hr3, HV2.out.2.trans ho3⟩⟩
            have HZ1 : Stow (Z1.length = k + l ∧ Z1.Perm (X.take k ++ Y.take l) ∧ So.Sorted (Tr.lt T) Z1) := ⟨⟨by rw [hz1.length_eq, List.length_append, List.length_take, List.length_take]; omega, hz1, sz1⟩⟩
            clear hr3 hz1 sz1 ho3
            have HZ2 := Stow.mk (So.cut_merge HCUT.out HPRE.out.sX HPRE.out.sY HZ1.out.2.1 (List.Perm.refl _) HZ1.out.2.2 (Tr.second_none HPRE.out (no_both HDA.out HDD.out rfl)))
            have HEND : Stow (SymPost T P (X ++ Y) S B g N cap w (.returned (.tuple #[])) w3) := ⟨⟨rfl, _, HV3.out.1, ⟨⟨_, by simp only [List.append_assoc], HZ2.out.1, HZ2.out.2⟩⟩, HV3.out.2⟩⟩
            go_wp2_with fail
            first | go_end0 | refine bodyPost_ret (results_none rfl _ _ _) rfl ?_
            exact HEND.out
    · skip
      cases bB
      · skip
        cases bC
        · skip
          cases bD
          · skip
            have HV2 : Stow (IRow wr B (.slice (some ⟨g, 0, none⟩) N cap) (P ++ X.take k ++ Y.take l ++ (X.drop k ++ Y.drop l ++ S)) ∧ Only g w wr) := ⟨⟨Tr.rot_none HPRE.out hkx hly (no_both HDA.out HDB.out rfl) ▸ HW.out, HO.out⟩⟩
            have HV3 : Stow (IRow wr B (.slice (some ⟨g, 0, none⟩) N cap) (P ++ (X.take k ++ Y.take l) ++ (X.drop k ++ Y.drop l ++ S)) ∧ Only g w wr) := ⟨⟨by have := HV2.out.1; rw [List.append_assoc P]at this; exact this, HV2.out.2⟩⟩
            have HZ1 : Stow ((X.take k ++ Y.take l).length = k + l ∧ (X.take k ++ Y.take l).Perm (X.take k ++ Y.take l) ∧ So.Sorted (Tr.lt T) (X.take k ++ Y.take l)) := ⟨⟨by rw [List.length_append, List.length_take, List.length_take]; omega, List.Perm.refl _, Tr.first_none HPRE.out (no_both HDC.out HDB.out rfl)⟩⟩
            have HZ2 := Stow.mk (So.cut_merge HCUT.out HPRE.out.sX HPRE.out.sY HZ1.out.2.1 (List.Perm.refl _) HZ1.out.2.2 (Tr.second_none HPRE.out (no_both HDA.out HDD.out rfl)))
            have HEND : Stow (SymPost T P (X ++ Y) S B g N cap w (.returned (.tuple #[])) wr) := ⟨⟨rfl, _, HV3.out.1, ⟨⟨_, by simp only [List.append_assoc], HZ2.out.1, HZ2.out.2⟩⟩, HV3.out.2⟩⟩
            go_wp2_with fail
            first | go_end0 | refine bodyPost_ret (results_none rfl _ _ _) rfl ?_
            exact HEND.out
          · skip
            have HV2 : Stow (IRow wr B (.slice (some ⟨g, 0, none⟩) N cap) (P ++ X.take k ++ Y.take l ++ (X.drop k ++ Y.drop l ++ S)) ∧ Only g w wr) := ⟨⟨Tr.rot_none HPRE.out hkx hly (no_both HDA.out HDB.out rfl) ▸ HW.out, HO.out⟩⟩
            have HV3 : Stow (IRow wr B (.slice (some ⟨g, 0, none⟩) N cap) (P ++ (X.take k ++ Y.take l) ++ (X.drop k ++ Y.drop l ++ S)) ∧ Only g w wr) := ⟨⟨by have := HV2.out.1; rw [List.append_assoc P]at this; exact this, HV2.out.2⟩⟩
            have HZ1 : Stow ((X.take k ++ Y.take l).length = k + l ∧ (X.take k ++ Y.take l).Perm (X.take k ++ Y.take l) ∧ So.Sorted (Tr.lt T) (X.take k ++ Y.take l)) := ⟨⟨by rw [List.length_append, List.length_take, List.length_take]; omega, List.Perm.refl _, Tr.first_none HPRE.out (no_both HDC.out HDB.out rfl)⟩⟩
            have K2 := fun W h1 h2 => HIH.out (P ++ (X.take k ++ Y.take l)) (X.drop k) (Y.drop l) S _ mid en b W HN3.out.2.2.2.2.2.1 h1 h2 (Tr.pre_second HPRE.out (of_decide_eq_true HDA.out) (of_decide_eq_true HDD.out) HZ1.out.1 rfl (by rw [← Nat.add_assoc, HN3.out.1]; exact HN3.out.2.1) HN3.out.2.2.1)
            have HK2 := Stow.mk K2
            clear K2
            go_wp2_with fail
            refine (HK2.out _ (HC.out.keep _ _ HG.out HV3.out.2) HV3.out.1).mono ?_
            rintro e w4 ⟨rfl, L4, hr4, ⟨Z2, hL4, hz2, sz2⟩, ho4⟩
            subst hL4
            have HZ2 := Stow.mk (So.cut_merge HCUT.out HPRE.out.sX HPRE.out.sY HZ1.out.2.1 hz2 HZ1.out.2.2 sz2)
            have HEND : Stow (SymPost T P (X ++ Y) S B g N cap w (.returned (.tuple #[])) w4) := ⟨⟨rfl, _, hr4, ⟨⟨(X.take k ++ Y.take l) ++ Z2, by simp only [List.append_assoc], HZ2.out.1, HZ2.out.2⟩⟩, HV3.out.2.trans ho4⟩⟩
            clear hr4 hz2 sz2 ho4
            go_wp2_with fail
            first | go_end0 | refine bodyPost_ret (results_none rfl _ _ _) rfl ?_
            exact HEND.out
        · skip
          cases bD
          · skip
            have HV2 : Stow (IRow wr B (.slice (some ⟨g, 0, none⟩) N cap) (P ++ X.take k ++ Y.take l ++ (X.drop k ++ Y.drop l ++ S)) ∧ Only g w wr) := ⟨⟨Tr.rot_none HPRE.out hkx hly (no_both HDA.out HDB.out rfl) ▸ HW.out, HO.out⟩⟩
            have HV3 : Stow (IRow wr B (.slice (some ⟨g, 0, none⟩) N cap) (P ++ (X.take k ++ Y.take l) ++ (X.drop k ++ Y.drop l ++ S)) ∧ Only g w wr) := ⟨⟨by have := HV2.out.1; rw [List.append_assoc P]at this; exact this, HV2.out.2⟩⟩
            have HZ1 : Stow ((X.take k ++ Y.take l).length = k + l ∧ (X.take k ++ Y.take l).Perm (X.take k ++ Y.take l) ∧ So.Sorted (Tr.lt T) (X.take k ++ Y.take l)) := ⟨⟨by rw [List.length_append, List.length_take, List.length_take]; omega, List.Perm.refl _, Tr.first_none HPRE.out (no_both HDC.out HDB.out rfl)⟩⟩
            have HZ2 := Stow.mk (So.cut_merge HCUT.out HPRE.out.sX HPRE.out.sY HZ1.out.2.1 (List.Perm.refl _) HZ1.out.2.2 (Tr.second_none HPRE.out (no_both HDA.out HDD.out rfl)))
            have HEND : Stow (SymPost T P (X ++ Y) S B g N cap w (.returned (.tuple #[])) wr) := ⟨⟨rfl, _, HV3.out.1, ⟨⟨_, by simp only [List.append_assoc], HZ2.out.1, HZ2.out.2⟩⟩, HV3.out.2⟩⟩
            go_wp2_with fail
            first | go_end0 | refine bodyPost_ret (results_none rfl _ _ _) rfl ?_
            exact HEND.out
          · skip
            have HV2 : Stow (IRow wr B (.slice (some ⟨g, 0, none⟩) N cap) (P ++ X.take k ++ Y.take l ++ (X.drop k ++ Y.drop l ++ S)) ∧ Only g w wr) := ⟨⟨Tr.rot_none HPRE.out hkx hly (no_both HDA.out HDB.out rfl) ▸ HW.out, HO.out⟩⟩
            have HV3 : Stow (IRow wr B (.slice (some ⟨g, 0, none⟩) N cap) (P ++ (X.take k ++ Y.take l) ++ (X.drop k ++ Y.drop l ++ S)) ∧ Only g w wr) := ⟨⟨by have := HV2.out.1; rw [List.append_assoc P]at this; exact this, HV2.out.2⟩⟩
            have HZ1 : Stow ((X.take k ++ Y.take l).length = k + l ∧ (X.take k ++ Y.take l).Perm (X.take k ++ Y.take l) ∧ So.Sorted (Tr.lt T) (X.take k ++ Y.take l)) := ⟨⟨by rw [List.length_append, List.length_take, List.length_take]; omega, List.Perm.refl _, Tr.first_none HPRE.out (no_both HDC.out HDB.out rfl)⟩⟩
            have K2 := fun W h1 h2 => HIH.out (P ++ (X.take k ++ Y.take l)) (X.drop k) (Y.drop l) S _ mid en b W HN3.out.2.2.2.2.2.1 h1 h2 (Tr.pre_second HPRE.out (of_decide_eq_true HDA.out) (of_decide_eq_true HDD.out) HZ1.out.1 rfl (by rw [← Nat.add_assoc, HN3.out.1]; exact HN3.out.2.1) HN3.out.2.2.1)
            have HK2 := Stow.mk K2
            clear K2
            go_wp2_with fail
            refine (HK2.out _ (HC.out.keep _ _ HG.out HV3.out.2) HV3.out.1).mono ?_
            rintro e w4 ⟨rfl, L4, hr4, ⟨Z2, hL4, hz2, sz2⟩, ho4⟩
            subst hL4
            have HZ2 := Stow.mk (So.cut_merge HCUT.out HPRE.out.sX HPRE.out.sY HZ1.out.2.1 hz2 HZ1.out.2.2 sz2)
            have HEND : Stow (SymPost T P (X ++ Y) S B g N cap w (.returned (.tuple #[])) w4) := ⟨⟨rfl, _, hr4, ⟨⟨(X.take k ++ Y.take l) ++ Z2, by simp only [List.append_assoc], HZ2.out.1, HZ2.out.2⟩⟩, HV3.out.2.trans ho4⟩⟩
            clear hr4 hz2 sz2 ho4
            go_wp2_with fail
            first | go_end0 | refine bodyPost_ret (results_none rfl _ _ _) rfl ?_
            exact HEND.out
      · skip
        cases bC
        · skip
          cases bD
          · skip
            have KR := fun W h => rotate_any (P ++ X.take k ++ Y.take l ++ (X.drop k ++ Y.drop l ++ S)) L r m en (.func (.func 166) #[] #[c]) B g N cap W h (of_decide_eq_true hA) (of_decide_eq_true hB2) HN3.out.2.2.2.1 (by rw [HN3.out.2.2.2.2.2.2.1, HN3.out.2.2.2.2.2.2.2]; exact Tr.rot_pre HPRE.out hkx hly)
            have HKR := Stow.mk KR
            clear KR
            go_wp2_with fail
            refine (HKR.out _ HW.out).mono ?_
            rintro e w2 ⟨rfl, hr2, ho2⟩
            have HV2 : Stow (IRow w2 B (.slice (some ⟨g, 0, none⟩) N cap) (P ++ X.take k ++ Y.take l ++ (X.drop k ++ Y.drop l ++ S)) ∧ Only g w w2) := ⟨⟨hr2, HO.out.trans ho2⟩⟩
            clear hr2 ho2
            have HV3 : Stow (IRow w2 B (.slice (some ⟨g, 0, none⟩) N cap) (P ++ (X.take k ++ Y.take l) ++ (X.drop k ++ Y.drop l ++ S)) ∧ Only g w w2) := ⟨⟨by have := HV2.out.1; rw [List.append_assoc P]at this; exact this, HV2.out.2⟩⟩
            have HZ1 : Stow ((X.take k ++ Y.take l).length = k + l ∧ (X.take k ++ Y.take l).Perm (X.take k ++ Y.take l) ∧ So.Sorted (Tr.lt T) (X.take k ++ Y.take l)) := ⟨⟨by rw [List.length_append, List.length_take, List.length_take]; omega, List.Perm.refl _, Tr.first_none HPRE.out (no_both HDC.out HDB.out rfl)⟩⟩
            have HZ2 := Stow.mk (So.cut_merge HCUT.out HPRE.out.sX HPRE.out.sY HZ1.out.2.1 (List.Perm.refl _) HZ1.out.2.2 (Tr.second_none HPRE.out (no_both HDA.out HDD.out rfl)))
            have HEND : Stow (SymPost T P (X ++ Y) S B g N cap w (.returned (.tuple #[])) w2) := ⟨⟨rfl, _, HV3.out.1, ⟨⟨_, by simp only [List.append_assoc], HZ2.out.1, HZ2.out.2⟩⟩, HV3.out.2⟩⟩
            go_wp2_with fail
            first | go_end0 | refine bodyPost_ret (results_none rfl _ _ _) rfl ?_
            exact HEND.out
          · skip
            have KR := fun W h => rotate_any (P ++ X.take k ++ Y.take l ++ (X.drop k ++ Y.drop l ++ S)) L r m en (.func (.func 166) #[] #[c]) B g N cap W h (of_decide_eq_true hA) (of_decide_eq_true hB2) HN3.out.2.2.2.1 (by rw [HN3.out.2.2.2.2.2.2.1, HN3.out.2.2.2.2.2.2.2]; exact Tr.rot_pre HPRE.out hkx hly)
            have HKR := Stow.mk KR
            clear KR
            go_wp2_with fail
            refine (HKR.out _ HW.out).mono ?_
            rintro e w2 ⟨rfl, hr2, ho2⟩
            have HV2 : Stow (IRow w2 B (.slice (some ⟨g, 0, none⟩) N cap) (P ++ X.take k ++ Y.take l ++ (X.drop k ++ Y.drop l ++ S)) ∧ Only g w w2) := ⟨⟨hr2, HO.out.trans ho2⟩⟩
            clear hr2 ho2
            have HV3 : Stow (IRow w2 B (.slice (some ⟨g, 0, none⟩) N cap) (P ++ (X.take k ++ Y.take l) ++ (X.drop k ++ Y.drop l ++ S)) ∧ Only g w w2) := ⟨⟨by have := HV2.out.1; rw [List.append_assoc P]at this; exact this, HV2.out.2⟩⟩
            have HZ1 : Stow ((X.take k ++ Y.take l).length = k + l ∧ (X.take k ++ Y.take l).Perm (X.take k ++ Y.take l) ∧ So.Sorted (Tr.lt T) (X.take k ++ Y.take l)) := ⟨⟨by rw [List.length_append, List.length_take, List.length_take]; omega, List.Perm.refl _, Tr.first_none HPRE.out (no_both HDC.out HDB.out rfl)⟩⟩
            have K2 := fun W h1 h2 => HIH.out (P ++ (X.take k ++ Y.take l)) (X.drop k) (Y.drop l) S _ mid en b W HN3.out.2.2.2.2.2.1 h1 h2 (Tr.pre_second HPRE.out (of_decide_eq_true HDA.out) (of_decide_eq_true HDD.out) HZ1.out.1 rfl (by rw [← Nat.add_assoc, HN3.out.1]; exact HN3.out.2.1) HN3.out.2.2.1)
            have HK2 := Stow.mk K2
            clear K2
            go_wp2_with fail
            refine (HK2.out _ (HC.out.keep _ _ HG.out HV3.out.2) HV3.out.1).mono ?_
            rintro e w4 ⟨rfl, L4, hr4, ⟨Z2, hL4, hz2, sz2⟩, ho4⟩
            subst hL4
            have HZ2 := Stow.mk (So.cut_merge HCUT.out HPRE.out.sX HPRE.out.sY HZ1.out.2.1 hz2 HZ1.out.2.2 sz2)
            have HEND : Stow (SymPost T P (X ++ Y) S B g N cap w (.returned (.tuple #[])) w4) := ⟨⟨rfl, _, hr4, ⟨⟨(X.take k ++ Y.take l) ++ Z2, by simp only [List.append_assoc], HZ2.out.1, HZ2.out.2⟩⟩, HV3.out.2.trans ho4⟩⟩
            clear hr4 hz2 sz2 ho4
            go_wp2_with fail
            first | go_end0 | refine bodyPost_ret (results_none rfl _ _ _) rfl ?_
            exact HEND.out
        · skip
          cases bD
          · skip
            have KR := fun W h => rotate_any (P ++ X.take k ++ Y.take l ++ (X.drop k ++ Y.drop l ++ S)) L r m en (.func (.func 166) #[] #[c]) B g N cap W h (of_decide_eq_true hA) (of_decide_eq_true hB2) HN3.out.2.2.2.1 (by rw [HN3.out.2.2.2.2.2.2.1, HN3.out.2.2.2.2.2.2.2]; exact Tr.rot_pre HPRE.out hkx hly)
            have HKR := Stow.mk KR
            clear KR
            go_wp2_with fail
            refine (HKR.out _ HW.out).mono ?_
            rintro e w2 ⟨rfl, hr2, ho2⟩
            have HV2 : Stow (IRow w2 B (.slice (some ⟨g, 0, none⟩) N cap) (P ++ X.take k ++ Y.take l ++ (X.drop k ++ Y.drop l ++ S)) ∧ Only g w w2) := ⟨⟨hr2, HO.out.trans ho2⟩⟩
            clear hr2 ho2
            have K1 := fun W h1 h2 => HIH.out P (X.take k) (Y.take l) (X.drop k ++ Y.drop l ++ S) _ a r mid W HN3.out.2.2.2.2.1 h1 h2 (Tr.pre_first HPRE.out hkx hly (of_decide_eq_true HDC.out) (of_decide_eq_true HDB.out) rfl HN3.out.1 HN3.out.2.1)
            have HK1 := Stow.mk K1
            clear K1
            go_wp2_with fail
            refine (HK1.out _ (HC.out.keep _ _ HG.out HV2.out.2) HV2.out.1).mono ?_
            rintro e w3 ⟨rfl, L3, hr3, ⟨Z1, hL3, hz1, sz1⟩, ho3⟩
            subst hL3
            have HV3 : Stow (IRow w3 B (.slice (some ⟨g, 0, none⟩) N cap) (P ++ Z1 ++ (X.drop k ++ Y.drop l ++ S)) ∧ Only g w w3) := ⟨⟨hr3, HV2.out.2.trans ho3⟩⟩
            have HZ1 : Stow (Z1.length = k + l ∧ Z1.Perm (X.take k ++ Y.take l) ∧ So.Sorted (Tr.lt T) Z1) := ⟨⟨by rw [hz1.length_eq, List.length_append, List.length_take, List.length_take]; omega, hz1, sz1⟩⟩
            clear hr3 hz1 sz1 ho3
            have HZ2 := Stow.mk (So.cut_merge HCUT.out HPRE.out.sX HPRE.out.sY HZ1.out.2.1 (List.Perm.refl _) HZ1.out.2.2 (Tr.second_none HPRE.out (no_both HDA.out HDD.out rfl)))
            have HEND : Stow (SymPost T P (X ++ Y) S B g N cap w (.returned (.tuple #[])) w3) := ⟨⟨rfl, _, HV3.out.1, ⟨⟨_, by simp only [List.append_assoc], HZ2.out.1, HZ2.out.2⟩⟩, HV3.out.2⟩⟩
            go_wp2_with fail
            first | go_end0 | refine bodyPost_ret (results_none rfl _ _ _) rfl ?_
            exact HEND.out
          · skip
            have KR := fun W h => rotate_any (P ++ X.take k ++ Y.take l ++ (X.drop k ++ Y.drop l ++ S)) L r m en (.func (.func 166) #[] #[c]) B g N cap W h (of_decide_eq_true hA) (of_decide_eq_true hB2) HN3.out.2.2.2.1 (by rw [HN3.out.2.2.2.2.2.2.1, HN3.out.2.2.2.2.2.2.2]; exact Tr.rot_pre HPRE.out hkx hly)
            have HKR := Stow.mk KR
            clear KR
            go_wp2_with fail
            refine (HKR.out _ HW.out).mono ?_
            rintro e w2 ⟨rfl, hr2, ho2⟩
            have HV2 : Stow (IRow w2 B (.slice (some ⟨g, 0, none⟩) N cap) (P ++ X.take k ++ Y.take l ++ (X.drop k ++ Y.drop l ++ S)) ∧ Only g w w2) := ⟨⟨hr2, HO.out.trans ho2⟩⟩
            clear hr2 ho2
            have K1 := fun W h1 h2 => HIH.out P (X.take k) (Y.take l) (X.drop k ++ Y.drop l ++ S) _ a r mid W HN3.out.2.2.2.2.1 h1 h2 (Tr.pre_first HPRE.out hkx hly (of_decide_eq_true HDC.out) (of_decide_eq_true HDB.out) rfl HN3.out.1 HN3.out.2.1)
            have HK1 := Stow.mk K1
            clear K1
            go_wp2_with fail
            refine (HK1.out _ (HC.out.keep _ _ HG.out HV2.out.2) HV2.out.1).mono ?_
            rintro e w3 ⟨rfl, L3, hr3, ⟨Z1, hL3, hz1, sz1⟩, ho3⟩
            subst hL3
            have HV3 : Stow (IRow w3 B (.slice (some ⟨g, 0, none⟩) N cap) (P ++ Z1 ++ (X.drop k ++ Y.drop l ++ S)) ∧ Only g w w3) := ⟨⟨hr3, HV2.out.2.trans ho3⟩⟩
            have HZ1 : Stow (Z1.length = k + l ∧ Z1.Perm (X.take k ++ Y.take l) ∧ So.Sorted (Tr.lt T) Z1) := ⟨⟨by rw [hz1.length_eq, List.length_append, List.length_take, List.length_take]; omega, hz1, sz1⟩⟩
            clear hr3 hz1 sz1 ho3
            have K2 := fun W h1 h2 => HIH.out (P ++ Z1) (X.drop k) (Y.drop l) S _ mid en b W HN3.out.2.2.2.2.2.1 h1 h2 (Tr.pre_second HPRE.out (of_decide_eq_true HDA.out) (of_decide_eq_true HDD.out) HZ1.out.1 rfl (by rw [← Nat.add_assoc, HN3.out.1]; exact HN3.out.2.1) HN3.out.2.2.1)
            have HK2 := Stow.mk K2
            clear K2
            go_wp2_with fail
            refine (HK2.out _ (HC.out.keep _ _ HG.out HV3.out.2) HV3.out.1).mono ?_
            rintro e w4 ⟨rfl, L4, hr4, ⟨Z2, hL4, hz2, sz2⟩, ho4⟩
            subst hL4
            have HZ2 := Stow.mk (So.cut_merge HCUT.out HPRE.out.sX HPRE.out.sY HZ1.out.2.1 hz2 HZ1.out.2.2 sz2)
            have HEND : Stow (SymPost T P (X ++ Y) S B g N cap w (.returned (.tuple #[])) w4) := ⟨⟨rfl, _, hr4, ⟨⟨Z1 ++ Z2, by simp only [List.append_assoc], HZ2.out.1, HZ2.out.2⟩⟩, HV3.out.2.trans ho4⟩⟩
            clear hr4 hz2 sz2 ho4
            go_wp2_with fail
            first | go_end0 | refine bodyPost_ret (results_none rfl _ _ _) rfl ?_
            exact HEND.out
  · rw [if_neg hmm] at hlo hhi
    have hmmi : ¬ (mid : Int) < m := by omega
    obtain rfl : a = s0 := hlo.symm
    obtain rfl : m = r0 := hhi.symm
    clear hlo hhi
    go_enter Tryz.func180, Tryz.ntmps180
    go_wp2_with fail
    go_loopw [20, 21] (fun u v wr => ∃ (s r : Nat), u = .int .i64 (s : Int) ∧ v = .int .i64 (r : Int) ∧ a ≤ s ∧ s ≤ r ∧ r ≤ m ∧ Stow (So.Srch (So.Q (Tr.lt T) L p) a m s r) ∧ Stow (IRow wr B (.slice (some ⟨g, 0, none⟩) N cap) L) ∧ Only g w wr) (fun u v _ => (intOf v).toNat - (intOf u).toNat)
    case atStart => exact ⟨a, m, rfl, rfl, Nat.le_refl _, HLH.out.2.1, Nat.le_refl _, HS0, HR, Only.refl _ _⟩
    rotate_right
    obtain ⟨s, r, rfl, rfl, hs0s, hsr, hrr0, HJ, HW, ho⟩ := hrel
    have HO := Stow.mk ho
    have HG2 := Stow.mk (HC.out.keep _ _ HG.out ho)
    clear ho
    by_cases hlt : s < r
    · have hii : (s : Int) < r := by omega
      obtain ⟨h, hh⟩ : ∃ h, (s + r) / 2 = h := ⟨_, rfl⟩
      have hh1 : s ≤ h := by omega
      have hh2 : h < r := by omega
      have hhe : ((s : Int) + (r : Int)) / 2 = (h : Int) := by omega
      have hlk := HLOOK.out h (by omega) (by omega)
      obtain ⟨q, hq⟩ : ∃ q, p - h = q := ⟨_, rfl⟩
      have hpq : (p : Int) - (h : Int) = (q : Int) := by omega
      rw [hq] at hlk
      have HQE := Stow.mk hq
      have ex := So.at_x HPRE.out.pL HPRE.out.pa (t := h) hlk.1 (by have := HPRE.out.pm; omega)
      have ey := So.at_y HPRE.out.pL HPRE.out.pa HPRE.out.pm (t := q) hlk.2.2.1 (by have := HPRE.out.pb; omega)
      obtain ⟨x, hx⟩ : ∃ x, X[h - a]'(by have := HPRE.out.pm; omega) = x := ⟨_, rfl⟩
      obtain ⟨y, hy⟩ : ∃ y, Y[q - m]'(by have := HPRE.out.pb; omega) = y := ⟨_, rfl⟩
      have hxX : x ∈ X := hx ▸ List.getElem_mem _
      have hyY : y ∈ Y := hy ▸ List.getElem_mem _
      rw [hx] at ex
      rw [hy] at ey
      have hxM : x < T.length := HPRE.out.hM x (List.mem_append.2 (.inl hxX))
      have hyM : y < T.length := HPRE.out.hM y (List.mem_append.2 (.inr hyY))
      have c1 := HW.out.cell ex
      have c2 := HW.out.cell ey
      have KC := fun n => HC.out.call _ (HC.out.keep _ _ HG2.out (Only.drewN g _ n)) y x hyM hxM
      have hltb := Tr.lt_back (T := T) (HPRE.out.hA x hxX y hyY)
      obtain ⟨d, hd⟩ : ∃ d, cv (Tr.sp T y).sq (Tr.sp T x).sq = d := ⟨_, rfl⟩
      have hdn := cv_neg (Tr.sp T y).sq (Tr.sp T x).sq
      rw [hd] at hdn KC
      have HKC := Stow.mk KC
      have HEX := Stow.mk ex
      have HEY : Stow (L[p - h]? = some y) := ⟨by rw [HQE.out]; exact ey⟩
      have hhN : h < N := by omega
      have hqN : q < N := by omega
      have hh0 : (0 : Int) ≤ (p : Int) - (h : Int) := by omega
      clear KC hd ex ey hx hy hh hq hlk
      by_cases hqq : Tr.lt T y x
      · have hd0 : decide (d < 0) = true := by simp; exact hdn.2 (hltb.1 hqq)
        have HNX : Stow (So.Srch (So.Q (Tr.lt T) L p) a m s h) := ⟨HJ.out.left HMO.out hh1 hh2 fun hz => hz x y HEX.out HEY.out hqq⟩
        clear hdn hltb hqq
        go_wp2_with fail
        go_quiet ((go_at_call 166; exact Calls.quiet_of (HKC.out _)))
        go_wp2_with fail
        exact ⟨⟨s, h, rfl, rfl, hs0s, hh1, by omega, HNX, ⟨HW.out.drewN _⟩, HO.out.trans (Only.drewN g _ _)⟩, by simp [intOf]; omega⟩
      · have hd0 : decide (d < 0) = false := by simp; exact Int.not_lt.1 fun h => hqq (hltb.2 (hdn.1 h))
        have HNX : Stow (So.Srch (So.Q (Tr.lt T) L p) a m (h + 1) r) := ⟨HJ.out.right HMO.out hh1 hh2 fun x' y' hx' hy' => by
          rw [HEX.out] at hx'
          rw [HEY.out] at hy'
          obtain rfl := Option.some.inj hx'
          obtain rfl := Option.some.inj hy'
          exact hqq⟩
        clear hdn hltb hqq
        go_wp2_with fail
        go_quiet ((go_at_call 166; exact Calls.quiet_of (HKC.out _)))
        go_wp2_with fail
        exact ⟨⟨h + 1, r, rfl, rfl, by omega, by omega, hrr0, HNX, ⟨HW.out.drewN _⟩, HO.out.trans (Only.drewN g _ _)⟩, by simp [intOf]; omega⟩
    obtain rfl : r = s := by omega
    have HCUT := Stow.mk (HCUT0.out r HJ.out)
    have hlh := HLH.out
    have hnum := HNUM.out
    obtain ⟨k, hk⟩ : ∃ k, r - a = k := ⟨_, rfl⟩
    obtain ⟨l, hl⟩ : ∃ l, mid - r = l := ⟨_, rfl⟩
    obtain ⟨en, hen⟩ : ∃ en, mid + m - r = en := ⟨_, rfl⟩
    have hene : (mid : Int) + (m : Int) - (r : Int) = (en : Int) := by omega
    rw [hk, hl] at HCUT
    have hkx : k ≤ X.length := HCUT.out.kx
    have hly : l ≤ Y.length := HCUT.out.ly
    have hri : ¬ (r : Int) < r := by omega
    have henN : en ≤ N := by omega
    obtain ⟨bA, hA⟩ : ∃ bA, decide (r < m) = bA := ⟨_, rfl⟩
    obtain ⟨bB, hB⟩ : ∃ bB, decide (r < mid) = bB := ⟨_, rfl⟩
    obtain ⟨bC, hC⟩ : ∃ bC, decide (a < r) = bC := ⟨_, rfl⟩
    obtain ⟨bD, hD⟩ : ∃ bD, decide (en < b) = bD := ⟨_, rfl⟩
    have hA2 : decide (mid < en) = bA := by rw [← hA]; exact decide_eq_decide.2 (by omega)
    have hB2 : decide (m < en) = bB := by rw [← hB]; exact decide_eq_decide.2 (by omega)
    have HDA : Stow (decide (k < X.length) = bA) := ⟨by rw [← hA]; exact decide_eq_decide.2 (by omega)⟩
    have HDB : Stow (decide (0 < l) = bB) := ⟨by rw [← hB]; exact decide_eq_decide.2 (by omega)⟩
    have HDC : Stow (decide (0 < k) = bC) := ⟨by rw [← hC]; exact decide_eq_decide.2 (by omega)⟩
    have HDD : Stow (decide (l < Y.length) = bD) := ⟨by rw [← hD]; exact decide_eq_decide.2 (by omega)⟩
    have HN3 : Stow (a + k = r ∧ r + l = mid ∧ mid + (X.length - k) = en ∧ en ≤ N ∧ mid - a < nn ∧ b - mid < nn ∧ m - r = X.length - k ∧ en - m = l) := ⟨by omega⟩
    clear hk hl hen hlh hnum HJ
    cases bA
    · skip
      cases bB
      · skip
        cases bC
        · skip
          cases bD
          · skip
            have HV2 : Stow (IRow wr B (.slice (some ⟨g, 0, none⟩) N cap) (P ++ X.take k ++ Y.take l ++ (X.drop k ++ Y.drop l ++ S)) ∧ Only g w wr) := ⟨⟨Tr.rot_none HPRE.out hkx hly (no_both HDA.out HDB.out rfl) ▸ HW.out, HO.out⟩⟩
            have HV3 : Stow (IRow wr B (.slice (some ⟨g, 0, none⟩) N cap) (P ++ (X.take k ++ Y.take l) ++ (X.drop k ++ Y.drop l ++ S)) ∧ Only g w wr) := ⟨⟨by have := HV2.out.1; rw [List.append_assoc P]at this; exact this, HV2.out.2⟩⟩
            have HZ1 : Stow ((X.take k ++ Y.take l).length = k + l ∧ (X.take k ++ Y.take l).Perm (X.take k ++ Y.take l) ∧ So.Sorted (Tr.lt T) (X.take k ++ Y.take l)) := ⟨⟨by rw [List.length_append, List.length_take, List.length_take]; omega, List.Perm.refl _, Tr.first_none HPRE.out (no_both HDC.out HDB.out rfl)⟩⟩
            have HZ2 := Stow.mk (So.cut_merge HCUT.out HPRE.out.sX HPRE.out.sY HZ1.out.2.1 (List.Perm.refl _) HZ1.out.2.2 (Tr.second_none HPRE.out (no_both HDA.out HDD.out rfl)))
            have HEND : Stow (SymPost T P (X ++ Y) S B g N cap w (.returned (.tuple #[])) wr) := ⟨⟨rfl, _, HV3.out.1, ⟨⟨_, by simp only [List.append_assoc], HZ2.out.1, HZ2.out.2⟩⟩, HV3.out.2⟩⟩
            go_wp2_with fail
            first | go_end0 | refine bodyPost_ret (results_none rfl _ _ _) rfl ?_
            exact HEND.out
          · skip
            have HV2 : Stow (IRow wr B (.slice (some ⟨g, 0, none⟩) N cap) (P ++ X.take k ++ Y.take l ++ (X.drop k ++ Y.drop l ++ S)) ∧ Only g w wr) := ⟨⟨Tr.rot_none HPRE.out hkx hly (no_both HDA.out HDB.out rfl) ▸ HW.out, HO.out⟩⟩
            have HV3 : Stow (IRow wr B (.slice (some ⟨g, 0, none⟩) N cap) (P ++ (X.take k ++ Y.take l) ++ (X.drop k ++ Y.drop l ++ S)) ∧ Only g w wr) := ⟨⟨by have := HV2.out.1; rw [List.append_assoc P]at this; exact this, HV2.out.2⟩⟩
            have HZ1 : Stow ((X.take k ++ Y.take l).length = k + l ∧ (X.take k ++ Y.take l).Perm (X.take k ++ Y.take l) ∧ So.Sorted (Tr.lt T) (X.take k ++ Y.take l)) := ⟨⟨by rw [List.length_append, List.length_take, List.length_take]; omega, List.Perm.refl _, Tr.first_none HPRE.out (no_both HDC.out HDB.out rfl)⟩⟩
            have HZ2 := Stow.mk (So.cut_merge HCUT.out HPRE.out.sX HPRE.out.sY HZ1.out.2.1 (List.Perm.refl _) HZ1.out.2.2 (Tr.second_none HPRE.out (no_both HDA.out HDD.out rfl)))
            have HEND : Stow (SymPost T P (X ++ Y) S B g N cap w (.returned (.tuple #[])) wr) := ⟨⟨rfl, _, HV3.out.1, ⟨⟨_, by simp only [List.append_assoc], HZ2.out.1, HZ2.out.2⟩⟩, HV3.out.2⟩⟩
            go_wp2_with fail
            first | go_end0 | refine bodyPost_ret (results_none rfl _ _ _) rfl ?_
            exact HEND.out
        · skip
          cases bD
          · skip
            have HV2 : Stow (IRow wr B (.slice (some ⟨g, 0, none⟩) N cap) (P ++ X.take k ++ Y.take l ++ (X.drop k ++ Y.drop l ++ S)) ∧ Only g w wr) := ⟨⟨Tr.rot_none HPRE.out hkx hly (no_both HDA.out HDB.out rfl) ▸ HW.out, HO.out⟩⟩
            have HV3 : Stow (IRow wr B (.slice (some ⟨g, 0, none⟩) N cap) (P ++ (X.take k ++ Y.take l) ++ (X.drop k ++ Y.drop l ++ S)) ∧ Only g w wr) := ⟨⟨by have := HV2.out.1; rw [List.append_assoc P]at this; exact this, HV2.out.2⟩⟩
            have HZ1 : Stow ((X.take k ++ Y.take l).length = k + l ∧ (X.take k ++ Y.take l).Perm (X.take k ++ Y.take l) ∧ So.Sorted (Tr.lt T) (X.take k ++ Y.take l)) := ⟨⟨by rw [List.length_append, List.length_take, List.length_take]; omega, List.Perm.refl _, Tr.first_none HPRE.out (no_both HDC.out HDB.out rfl)⟩⟩
            have HZ2 := Stow.mk (So.cut_merge HCUT.out HPRE.out.sX HPRE.out.sY HZ1.out.2.1 (List.Perm.refl _) HZ1.out.2.2 (Tr.second_none HPRE.out (no_both HDA.out HDD.out rfl)))
            have HEND : Stow (SymPost T P (X ++ Y) S B g N cap w (.returned (.tuple #[])) wr) := ⟨⟨rfl, _, HV3.out.1, ⟨⟨_, by simp only [List.append_assoc], HZ2.out.1, HZ2.out.2⟩⟩, HV3.out.2⟩⟩
            go_wp2_with fail
            first | go_end0 | refine bodyPost_ret (results_none rfl _ _ _) rfl ?_
            exact HEND.out
          · skip
            have HV2 : Stow (IRow wr B (.slice (some ⟨g, 0, none⟩) N cap) (P ++ X.take k ++ Y.take l ++ (X.drop k ++ Y.drop l ++ S)) ∧ Only g w wr) := ⟨⟨Tr.rot_none HPRE.out hkx hly (no_both HDA.out HDB.out rfl) ▸ HW.out, HO.out⟩⟩
            have HV3 : Stow (IRow wr B (.slice (some ⟨g, 0, none⟩) N cap) (P ++ (X.take k ++ Y.take l) ++ (X.drop k ++ Y.drop l ++ S)) ∧ Only g w wr) := ⟨⟨by have := HV2.out.1; rw [List.append_assoc P]at this; exact this, HV2.out.2⟩⟩
            have HZ1 : Stow ((X.take k ++ Y.take l).length = k + l ∧ (X.take k ++ Y.take l).Perm (X.take k ++ Y.take l) ∧ So.Sorted (Tr.lt T) (X.take k ++ Y.take l)) := ⟨⟨by rw [List.length_append, List.length_take, List.length_take]; omega, List.Perm.refl _, Tr.first_none HPRE.out (no_both HDC.out HDB.out rfl)⟩⟩
            have HZ2 := Stow.mk (So.cut_merge HCUT.out HPRE.out.sX HPRE.out.sY HZ1.out.2.1 (List.Perm.refl _) HZ1.out.2.2 (Tr.second_none HPRE.out (no_both HDA.out HDD.out rfl)))
            have HEND : Stow (SymPost T P (X ++ Y) S B g N cap w (.returned (.tuple #[])) wr) := ⟨⟨rfl, _, HV3.out.1, ⟨⟨_, by simp only [List.append_assoc], HZ2.out.1, HZ2.out.2⟩⟩, HV3.out.2⟩⟩
            go_wp2_with fail
            first | go_end0 | refine bodyPost_ret (results_none rfl _ _ _) rfl ?_
            exact HEND.out
      · skip
        cases bC
        · skip
          cases bD
          · skip
            have HV2 : Stow (IRow wr B (.slice (some ⟨g, 0, none⟩) N cap) (P ++ X.take k ++ Y.take l ++ (X.drop k ++ Y.drop l ++ S)) ∧ Only g w wr) := ⟨⟨Tr.rot_none HPRE.out hkx hly (no_both HDA.out HDB.out rfl) ▸ HW.out, HO.out⟩⟩
            have HV3 : Stow (IRow wr B (.slice (some ⟨g, 0, none⟩) N cap) (P ++ (X.take k ++ Y.take l) ++ (X.drop k ++ Y.drop l ++ S)) ∧ Only g w wr) := ⟨⟨by have := HV2.out.1; rw [List.append_assoc P]at this; exact this, HV2.out.2⟩⟩
            have HZ1 : Stow ((X.take k ++ Y.take l).length = k + l ∧ (X.take k ++ Y.take l).Perm (X.take k ++ Y.take l) ∧ So.Sorted (Tr.lt T) (X.take k ++ Y.take l)) := ⟨⟨by rw [List.length_append, List.length_take, List.length_take]; omega, List.Perm.refl _, Tr.first_none HPRE.out (no_both HDC.out HDB.out rfl)⟩⟩
            have HZ2 := Stow.mk (So.cut_merge HCUT.out HPRE.out.sX HPRE.out.sY HZ1.out.2.1 (List.Perm.refl _) HZ1.out.2.2 (Tr.second_none HPRE.out (no_both HDA.out HDD.out rfl)))
            have HEND : Stow (SymPost T P (X ++ Y) S B g N cap w (.returned (.tuple #[])) wr) := ⟨⟨rfl, _, HV3.out.1, ⟨⟨_, by simp only [List.append_assoc], HZ2.out.1, HZ2.out.2⟩⟩, HV3.out.2⟩⟩
            go_wp2_with fail
            first | go_end0 | refine bodyPost_ret (results_none rfl _ _ _) rfl ?_
            exact HEND.out
          · skip
            have HV2 : Stow (IRow wr B (.slice (some ⟨g, 0, none⟩) N cap) (P ++ X.take k ++ Y.take l ++ (X.drop k ++ Y.drop l ++ S)) ∧ Only g w wr) := ⟨⟨Tr.rot_none HPRE.out hkx hly (no_both HDA.out HDB.out rfl) ▸ HW.out, HO.out⟩⟩
            have HV3 : Stow (IRow wr B (.slice (some ⟨g, 0, none⟩) N cap) (P ++ (X.take k ++ Y.take l) ++ (X.drop k ++ Y.drop l ++ S)) ∧ Only g w wr) := ⟨⟨by have := HV2.out.1; rw [List.append_assoc P]at this; exact this, HV2.out.2⟩⟩
            have HZ1 : Stow ((X.take k ++ Y.take l).length = k + l ∧ (X.take k ++ Y.take l).Perm (X.take k ++ Y.take l) ∧ So.Sorted (Tr.lt T) (X.take k ++ Y.take l)) := ⟨⟨by rw [List.length_append, List.length_take, List.length_take]; omega, List.Perm.refl _, Tr.first_none HPRE.out (no_both HDC.out HDB.out rfl)⟩⟩
            have HZ2 := Stow.mk (So.cut_merge HCUT.out HPRE.out.sX HPRE.out.sY HZ1.out.2.1 (List.Perm.refl _) HZ1.out.2.2 (Tr.second_none HPRE.out (no_both HDA.out HDD.out rfl)))
            have HEND : Stow (SymPost T P (X ++ Y) S B g N cap w (.returned (.tuple #[])) wr) := ⟨⟨rfl, _, HV3.out.1, ⟨⟨_, by simp only [List.append_assoc], HZ2.out.1, HZ2.out.2⟩⟩, HV3.out.2⟩⟩
            go_wp2_with fail
            first | go_end0 | refine bodyPost_ret (results_none rfl _ _ _) rfl ?_
            exact HEND.out
        · skip
          cases bD
          · skip
            have HV2 : Stow (IRow wr B (.slice (some ⟨g, 0, none⟩) N cap) (P ++ X.take k ++ Y.take l ++ (X.drop k ++ Y.drop l ++ S)) ∧ Only g w wr) := ⟨⟨Tr.rot_none HPRE.out hkx hly (no_both HDA.out HDB.out rfl) ▸ HW.out, HO.out⟩⟩
            have K1 := fun W h1 h2 => HIH.out P (X.take k) (Y.take l) (X.drop k ++ Y.drop l ++ S) _ a r mid W HN3.out.2.2.2.2.1 h1 h2 (Tr.pre_first HPRE.out hkx hly (of_decide_eq_true HDC.out) (of_decide_eq_true HDB.out) rfl HN3.out.1 HN3.out.2.1)
            have HK1 := Stow.mk K1
            clear K1
            go_wp2_with fail
            refine (HK1.out _ (HC.out.keep _ _ HG.out HV2.out.2) HV2.out.1).mono ?_
            rintro e w3 ⟨rfl, L3, hr3, ⟨Z1, hL3, hz1, sz1⟩, ho3⟩
            subst hL3
            have HV3 : Stow (IRow w3 B (.slice (some ⟨g, 0, none⟩) N cap) (P ++ Z1 ++ (X.drop k ++ Y.drop l ++ S)) ∧ Only g w w3) := ⟨⟨hr3, HV2.out.2.trans ho3⟩⟩
            have HZ1 : Stow (Z1.length = k + l ∧ Z1.Perm (X.take k ++ Y.take l) ∧ So.Sorted (Tr.lt T) Z1) := ⟨⟨by rw [hz1.length_eq, List.length_append, List.length_take, List.length_take]; omega, hz1, sz1⟩⟩
            clear hr3 hz1 sz1 ho3
            have HZ2 := Stow.mk (So.cut_merge HCUT.out HPRE.out.sX HPRE.out.sY HZ1.out.2.1 (List.Perm.refl _) HZ1.out.2.2 (Tr.second_none HPRE.out (no_both HDA.out HDD.out rfl)))
            have HEND : Stow (SymPost T P (X ++ Y) S B g N cap w (.returned (.tuple #[])) w3) := ⟨⟨rfl, _, HV3.out.1, ⟨⟨_, by simp only [List.append_assoc], HZ2.out.1, HZ2.out.2⟩⟩, HV3.out.2⟩⟩
            go_wp2_with fail
            first | go_end0 | refine bodyPost_ret (results_none rfl _ _ _) rfl ?_
            exact HEND.out
          · skip
            have HV2 : Stow (IRow wr B (.slice (some ⟨g, 0, none⟩) N cap) (P ++ X.take k ++ Y.take l ++ (X.drop k ++ Y.drop l ++ S)) ∧ Only g w wr) := ⟨⟨Tr.rot_none HPRE.out hkx hly (no_both HDA.out HDB.out rfl) ▸ HW.out, HO.out⟩⟩
            have K1 := fun W h1 h2 => HIH.out P (X.take k) (Y.take l) (X.drop k ++ Y.drop l ++ S) _ a r mid W HN3.out.2.2.2.2.1 h1 h2 (Tr.pre_first HPRE.out hkx hly (of_decide_eq_true HDC.out) (of_decide_eq_true HDB.out) rfl HN3.out.1 HN3.out.2.1)
            have HK1 := Stow.mk K1
            clear K1
            go_wp2_with fail
            refine (HK1.out _ (HC.out.keep _ _ HG.out HV2.out.2) HV2.out.1).mono ?_
            rintro e w3 ⟨rfl, L3, hr3, ⟨Z1, hL3, hz1, sz1⟩, ho3⟩
            subst hL3
            have HV3 : Stow (IRow w3 B (.slice (some ⟨g, 0, none⟩) N cap) (P ++ Z1 ++ (X.drop k ++ Y.drop l ++ S)) ∧ Only g w w3) := ⟨⟨hr3, HV2.out.2.trans ho3⟩⟩
            have HZ1 : Stow (Z1.length = k + l ∧ Z1.Perm (X.take k ++ Y.take l) ∧ So.Sorted (Tr.lt T) Z1) := ⟨⟨by rw [hz1.length_eq, List.length_append, List.length_take, List.length_take]; omega, hz1, sz1⟩⟩
            clear hr3 hz1 sz1 ho3
            have HZ2 := Stow.mk (So.cut_merge HCUT.out HPRE.out.sX HPRE.out.sY HZ1.out.2.1 (List.Perm.refl _) HZ1.out.2.2 (Tr.second_none HPRE.out (no_both HDA.out HDD.out rfl)))
            have HEND : Stow (SymPost T P (X ++ Y) S B g N cap w (.returned (.tuple #[])) w3) := ⟨⟨rfl, _, HV3.out.1, ⟨⟨_, by simp only [List.append_assoc], HZ2.out.1, HZ2.out.2⟩⟩, HV3.out.2⟩⟩
            go_wp2_with fail
            first | go_end0 | refine bodyPost_ret (results_none rfl _ _ _) rfl ?_
            exact HEND.out
    · skip
      cases bB
      · skip
        cases bC
        · skip
          cases bD
          · skip
            have HV2 : Stow (IRow wr B (.slice (some ⟨g, 0, none⟩) N cap) (P ++ X.take k ++ Y.take l ++ (X.drop k ++ Y.drop l ++ S)) ∧ Only g w wr) := ⟨⟨Tr.rot_none HPRE.out hkx hly (no_both HDA.out HDB.out rfl) ▸ HW.out, HO.out⟩⟩
            have HV3 : Stow (IRow wr B (.slice (some ⟨g, 0, none⟩) N cap) (P ++ (X.take k ++ Y.take l) ++ (X.drop k ++ Y.drop l ++ S)) ∧ Only g w wr) := ⟨⟨by have := HV2.out.1; rw [List.append_assoc P]at this; exact this, HV2.out.2⟩⟩
            have HZ1 : Stow ((X.take k ++ Y.take l).length = k + l ∧ (X.take k ++ Y.take l).Perm (X.take k ++ Y.take l) ∧ So.Sorted (Tr.lt T) (X.take k ++ Y.take l)) := ⟨⟨by rw [List.length_append, List.length_take, List.length_take]; omega, List.Perm.refl _, Tr.first_none HPRE.out (no_both HDC.out HDB.out rfl)⟩⟩
            have HZ2 := Stow.mk (So.cut_merge HCUT.out HPRE.out.sX HPRE.out.sY HZ1.out.2.1 (List.Perm.refl _) HZ1.out.2.2 (Tr.second_none HPRE.out (no_both HDA.out HDD.out rfl)))
            have HEND : Stow (SymPost T P (X ++ Y) S B g N cap w (.returned (.tuple #[])) wr) := ⟨⟨rfl, _, HV3.out.1, ⟨⟨_, by simp only [List.append_assoc], HZ2.out.1, HZ2.out.2⟩⟩, HV3.out.2⟩⟩
            go_wp2_with fail
            first | go_end0 | refine bodyPost_ret (results_none rfl _ _ _) rfl ?_
            exact HEND.out
          · skip
            have HV2 : Stow (IRow wr B (.slice (some ⟨g, 0, none⟩) N cap) (P ++ X.take k ++ Y.take l ++ (X.drop k ++ Y.drop l ++ S)) ∧ Only g w wr) := ⟨⟨Tr.rot_none HPRE.out hkx hly (no_both HDA.out HDB.out rfl) ▸ HW.out, HO.out⟩⟩
            have HV3 : Stow (IRow wr B (.slice (some ⟨g, 0, none⟩) N cap) (P ++ (X.take k ++ Y.take l) ++ (X.drop k ++ Y.drop l ++ S)) ∧ Only g w wr) := ⟨⟨by have := HV2.out.1; rw [List.append_assoc P]at this; exact this, HV2.out.2⟩⟩
            have HZ1 : Stow ((X.take k ++ Y.take l).length = k + l ∧ (X.take k ++ Y.take l).Perm (X.take k ++ Y.take l) ∧ So.Sorted (Tr.lt T) (X.take k ++ Y.take l)) := ⟨⟨by rw [List.length_append, List.length_take, List.length_take]; omega, List.Perm.refl _, Tr.first_none HPRE.out (no_both HDC.out HDB.out rfl)⟩⟩
            have K2 := fun W h1 h2 => HIH.out (P ++ (X.take k ++ Y.take l)) (X.drop k) (Y.drop l) S _ mid en b W HN3.out.2.2.2.2.2.1 h1 h2 (Tr.pre_second HPRE.out (of_decide_eq_true HDA.out) (of_decide_eq_true HDD.out) HZ1.out.1 rfl (by rw [← Nat.add_assoc, HN3.out.1]; exact HN3.out.2.1) HN3.out.2.2.1)
            have HK2 := Stow.mk K2
            clear K2
            go_wp2_with fail
            refine (HK2.out _ (HC.out.keep _ _ HG.out HV3.out.2) HV3.out.1).mono ?_
            rintro e w4 ⟨rfl, L4, hr4, ⟨Z2, hL4, hz2, sz2⟩, ho4⟩
            subst hL4
            have HZ2 := Stow.mk (So.cut_merge HCUT.out HPRE.out.sX HPRE.out.sY HZ1.out.2.1 hz2 HZ1.out.2.2 sz2)
            have HEND : Stow (SymPost T P (X ++ Y) S B g N cap w (.returned (.tuple #[])) w4) := ⟨⟨rfl, _, hr4, ⟨⟨(X.take k ++ Y.take l) ++ Z2, by simp only [List.append_assoc], HZ2.out.1, HZ2.out.2⟩⟩, HV3.out.2.trans ho4⟩⟩
            clear hr4 hz2 sz2 ho4
            go_wp2_with fail
            first | go_end0 | refine bodyPost_ret (results_none rfl _ _ _) rfl ?_
            exact HEND.out
        · skip
          cases bD
          · skip
            have HV2 : Stow (IRow wr B (.slice (some ⟨g, 0, none⟩) N cap) (P ++ X.take k ++ Y.take l ++ (X.drop k ++ Y.drop l ++ S)) ∧ Only g w wr) := ⟨⟨Tr.rot_none HPRE.out hkx hly (no_both HDA.out HDB.out rfl) ▸ HW.out, HO.out⟩⟩
            have HV3 : Stow (IRow wr B (.slice (some ⟨g, 0, none⟩) N cap) (P ++ (X.take k ++ Y.take l) ++ (X.drop k ++ Y.drop l ++ S)) ∧ Only g w wr) := ⟨⟨by have := HV2.out.1; rw [List.append_assoc P]at this; exact this, HV2.out.2⟩⟩
            have HZ1 : Stow ((X.take k ++ Y.take l).length = k + l ∧ (X.take k ++ Y.take l).Perm (X.take k ++ Y.take l) ∧ So.Sorted (Tr.lt T) (X.take k ++ Y.take l)) := ⟨⟨by rw [List.length_append, List.length_take, List.length_take]; omega, List.Perm.refl _, Tr.first_none HPRE.out (no_both HDC.out HDB.out rfl)⟩⟩
            have HZ2 := Stow.mk (So.cut_merge HCUT.out HPRE.out.sX HPRE.out.sY HZ1.out.2.1 (List.Perm.refl _) HZ1.out.2.2 (Tr.second_none HPRE.out (no_both HDA.out HDD.out rfl)))
            have HEND : Stow (SymPost T P (X ++ Y) S B g N cap w (.returned (.tuple #[])) wr) := ⟨⟨rfl, _, HV3.out.1, ⟨⟨_, by simp only [List.append_assoc], HZ2.out.1, HZ2.out.2⟩⟩, HV3.out.2⟩⟩
            go_wp2_with fail
            first | go_end0 | refine bodyPost_ret (results_none rfl _ _ _) rfl ?_
            exact HEND.out
          · skip
            have HV2 : Stow (IRow wr B (.slice (some ⟨g, 0, none⟩) N cap) (P ++ X.take k ++ Y.take l ++ (X.drop k ++ Y.drop l ++ S)) ∧ Only g w wr) := ⟨⟨Tr.rot_none HPRE.out hkx hly (no_both HDA.out HDB.out rfl) ▸ HW.out, HO.out⟩⟩
            have HV3 : Stow (IRow wr B (.slice (some ⟨g, 0, none⟩) N cap) (P ++ (X.take k ++ Y.take l) ++ (X.drop k ++ Y.drop l ++ S)) ∧ Only g w wr) := ⟨⟨by have := HV2.out.1; rw [List.append_assoc P]at this; exact this, HV2.out.2⟩⟩
            have HZ1 : Stow ((X.take k ++ Y.take l).length = k + l ∧ (X.take k ++ Y.take l).Perm (X.take k ++ Y.take l) ∧ So.Sorted (Tr.lt T) (X.take k ++ Y.take l)) := ⟨⟨by rw [List.length_append, List.length_take, List.length_take]; omega, List.Perm.refl _, Tr.first_none HPRE.out (no_both HDC.out HDB.out rfl)⟩⟩
            have K2 := fun W h1 h2 => HIH.out (P ++ (X.take k ++ Y.take l)) (X.drop k) (Y.drop l) S _ mid en b W HN3.out.2.2.2.2.2.1 h1 h2 (Tr.pre_second HPRE.out (of_decide_eq_true HDA.out) (of_decide_eq_true HDD.out) HZ1.out.1 rfl (by rw [← Nat.add_assoc, HN3.out.1]; exact HN3.out.2.1) HN3.out.2.2.1)
            have HK2 := Stow.mk K2
            clear K2
            go_wp2_with fail
            refine (HK2.out _ (HC.out.keep _ _ HG.out HV3.out.2) HV3.out.1).mono ?_
            rintro e w4 ⟨rfl, L4, hr4, ⟨Z2, hL4, hz2, sz2⟩, ho4⟩
            subst hL4
            have HZ2 := Stow.mk (So.cut_merge HCUT.out HPRE.out.sX HPRE.out.sY HZ1.out.2.1 hz2 HZ1.out.2.2 sz2)
            have HEND : Stow (SymPost T P (X ++ Y) S B g N cap w (.returned (.tuple #[])) w4) := ⟨⟨rfl, _, hr4, ⟨⟨(X.take k ++ Y.take l) ++ Z2, by simp only [List.append_assoc], HZ2.out.1, HZ2.out.2⟩⟩, HV3.out.2.trans ho4⟩⟩
            clear hr4 hz2 sz2 ho4
            go_wp2_with fail
            first | go_end0 | refine bodyPost_ret (results_none rfl _ _ _) rfl ?_
            exact HEND.out
      · skip
        cases bC
        · skip
          cases bD
          · skip
            have KR := fun W h => rotate_any (P ++ X.take k ++ Y.take l ++ (X.drop k ++ Y.drop l ++ S)) L r m en (.func (.func 166) #[] #[c]) B g N cap W h (of_decide_eq_true hA) (of_decide_eq_true hB2) HN3.out.2.2.2.1 (by rw [HN3.out.2.2.2.2.2.2.1, HN3.out.2.2.2.2.2.2.2]; exact Tr.rot_pre HPRE.out hkx hly)
            have HKR := Stow.mk KR
            clear KR
            go_wp2_with fail
            refine (HKR.out _ HW.out).mono ?_
            rintro e w2 ⟨rfl, hr2, ho2⟩
            have HV2 : Stow (IRow w2 B (.slice (some ⟨g, 0, none⟩) N cap) (P ++ X.take k ++ Y.take l ++ (X.drop k ++ Y.drop l ++ S)) ∧ Only g w w2) := ⟨⟨hr2, HO.out.trans ho2⟩⟩
            clear hr2 ho2
            have HV3 : Stow (IRow w2 B (.slice (some ⟨g, 0, none⟩) N cap) (P ++ (X.take k ++ Y.take l) ++ (X.drop k ++ Y.drop l ++ S)) ∧ Only g w w2) := ⟨⟨by have := HV2.out.1; rw [List.append_assoc P]at this; exact this, HV2.out.2⟩⟩
            have HZ1 : Stow ((X.take k ++ Y.take l).length = k + l ∧ (X.take k ++ Y.take l).Perm (X.take k ++ Y.take l) ∧ So.Sorted (Tr.lt T) (X.take k ++ Y.take l)) := ⟨⟨by rw [List.length_append, List.length_take, List.length_take]; omega, List.Perm.refl _, Tr.first_none HPRE.out (no_both HDC.out HDB.out rfl)⟩⟩
            have HZ2 := Stow.mk (So.cut_merge HCUT.out HPRE.out.sX HPRE.out.sY HZ1.out.2.1 (List.Perm.refl _) HZ1.out.2.2 (Tr.second_none HPRE.out (no_both HDA.out HDD.out rfl)))
            have HEND : Stow (SymPost T P (X ++ Y) S B g N cap w (.returned (.tuple #[])) w2) := ⟨⟨rfl, _, HV3.out.1, ⟨⟨_, by simp only [List.append_assoc], HZ2.out.1, HZ2.out.2⟩⟩, HV3.out.2⟩⟩
            go_wp2_with fail
            first | go_end0 | refine bodyPost_ret (results_none rfl _ _ _) rfl ?_
            exact HEND.out
          · skip
            have KR := fun W h => rotate_any (P ++ X.take k ++ Y.take l ++ (X.drop k ++ Y.drop l ++ S)) L r m en (.func (.func 166) #[] #[c]) B g N cap W h (of_decide_eq_true hA) (of_decide_eq_true hB2) HN3.out.2.2.2.1 (by rw [HN3.out.2.2.2.2.2.2.1, HN3.out.2.2.2.2.2.2.2]; exact Tr.rot_pre HPRE.out hkx hly)
            have HKR := Stow.mk KR
            clear KR
            go_wp2_with fail
            refine (HKR.out _ HW.out).mono ?_
            rintro e w2 ⟨rfl, hr2, ho2⟩
            have HV2 : Stow (IRow w2 B (.slice (some ⟨g, 0, none⟩) N cap) (P ++ X.take k ++ Y.take l ++ (X.drop k ++ Y.drop l ++ S)) ∧ Only g w w2) := ⟨⟨hr2, HO.out.trans ho2⟩⟩
            clear hr2 ho2
            have HV3 : Stow (IRow w2 B (.slice (some ⟨g, 0, none⟩) N cap) (P ++ (X.take k ++ Y.take l) ++ (X.drop k ++ Y.drop l ++ S)) ∧ Only g w w2) := ⟨⟨by have := HV2.out.1; rw [List.append_assoc P]at this; exact this, HV2.out.2⟩⟩
            have HZ1 : Stow ((X.take k ++ Y.take l).length = k + l ∧ (X.take k ++ Y.take l).Perm (X.take k ++ Y.take l) ∧ So.Sorted (Tr.lt T) (X.take k ++ Y.take l)) := ⟨⟨by rw [List.length_append, List.length_take, List.length_take]; omega, List.Perm.refl _, Tr.first_none HPRE.out (no_both HDC.out HDB.out rfl)⟩⟩
            have K2 := fun W h1 h2 => HIH.out (P ++ (X.take k ++ Y.take l)) (X.drop k) (Y.drop l) S _ mid en b W HN3.out.2.2.2.2.2.1 h1 h2 (Tr.pre_second HPRE.out (of_decide_eq_true HDA.out) (of_decide_eq_true HDD.out) HZ1.out.1 rfl (by rw [← Nat.add_assoc, HN3.out.1]; exact HN3.out.2.1) HN3.out.2.2.1)
            have HK2 := Stow.mk K2
            clear K2
            go_wp2_with fail
            refine (HK2.out _ (HC.out.keep _ _ HG.out HV3.out.2) HV3.out.1).mono ?_
            rintro e w4 ⟨rfl, L4, hr4, ⟨Z2, hL4, hz2, sz2⟩, ho4⟩
            subst hL4
            have HZ2 := Stow.mk (So.cut_merge HCUT.out HPRE.out.sX HPRE.out.sY HZ1.out.2.1 hz2 HZ1.out.2.2 sz2)
            have HEND : Stow (SymPost T P (X ++ Y) S B g N cap w (.returned (.tuple #[])) w4) := ⟨⟨rfl, _, hr4, ⟨⟨(X.take k ++ Y.take l) ++ Z2, by simp only [List.append_assoc], HZ2.out.1, HZ2.out.2⟩⟩, HV3.out.2.trans ho4⟩⟩
            clear hr4 hz2 sz2 ho4
            go_wp2_with fail
            first | go_end0 | refine bodyPost_ret (results_none rfl _ _ _) rfl ?_
            exact HEND.out
        · skip
          cases bD
          · skip
            have KR := fun W h => rotate_any (P ++ X.take k ++ Y.take l ++ (X.drop k ++ Y.drop l ++ S)) L r m en (.func (.func 166) #[] #[c]) B g N cap W h (of_decide_eq_true hA) (of_decide_eq_true hB2) HN3.out.2.2.2.1 (by rw [HN3.out.2.2.2.2.2.2.1, HN3.out.2.2.2.2.2.2.2]; exact Tr.rot_pre HPRE.out hkx hly)
            have HKR := Stow.mk KR
            clear KR
            go_wp2_with fail
            refine (HKR.out _ HW.out).mono ?_
            rintro e w2 ⟨rfl, hr2, ho2⟩
            have HV2 : Stow (IRow w2 B (.slice (some ⟨g, 0, none⟩) N cap) (P ++ X.take k ++ Y.take l ++ (X.drop k ++ Y.drop l ++ S)) ∧ Only g w w2) := ⟨⟨hr2, HO.out.trans ho2⟩⟩
            clear hr2 ho2
            have K1 := fun W h1 h2 => HIH.out P (X.take k) (Y.take l) (X.drop k ++ Y.drop l ++ S) _ a r mid W HN3.out.2.2.2.2.1 h1 h2 (Tr.pre_first HPRE.out hkx hly (of_decide_eq_true HDC.out) (of_decide_eq_true HDB.out) rfl HN3.out.1 HN3.out.2.1)
            have HK1 := Stow.mk K1
            clear K1
            go_wp2_with fail
            refine (HK1.out _ (HC.out.keep _ _ HG.out HV2.out.2) HV2.out.1).mono ?_
            rintro e w3 ⟨rfl, L3, hr3, ⟨Z1, hL3, hz1, sz1⟩, ho3⟩
            subst hL3
            have HV3 : Stow (IRow w3 B (.slice (some ⟨g, 0, none⟩) N cap) (P ++ Z1 ++ (X.drop k ++ Y.drop l ++ S)) ∧ Only g w w3) := ⟨⟨hr3, HV2.out.2.trans ho3⟩⟩
            have HZ1 : Stow (Z1.length = k + l ∧ Z1.Perm (X.take k ++ Y.take l) ∧ So.Sorted (Tr.lt T) Z1) := ⟨⟨by rw [hz1.length_eq, List.length_append, List.length_take, List.length_take]; omega, hz1, sz1⟩⟩
            clear hr3 hz1 sz1 ho3
            have HZ2 := Stow.mk (So.cut_merge HCUT.out HPRE.out.sX HPRE.out.sY HZ1.out.2.1 (List.Perm.refl _) HZ1.out.2.2 (Tr.second_none HPRE.out (no_both HDA.out HDD.out rfl)))
            have HEND : Stow (SymPost T P (X ++ Y) S B g N cap w (.returned (.tuple #[])) w3) := ⟨⟨rfl, _, HV3.out.1, ⟨⟨_, by simp only [List.append_assoc], HZ2.out.1, HZ2.out.2⟩⟩, HV3.out.2⟩⟩
            go_wp2_with fail
            first | go_end0 | refine bodyPost_ret (results_none rfl _ _ _) rfl ?_
            exact HEND.out
          · skip
            have KR := fun W h => rotate_any (P ++ X.take k ++ Y.take l ++ (X.drop k ++ Y.drop l ++ S)) L r m en (.func (.func 166) #[] #[c]) B g N cap W h (of_decide_eq_true hA) (of_decide_eq_true hB2) HN3.out.2.2.2.1 (by rw [HN3.out.2.2.2.2.2.2.1, HN3.out.2.2.2.2.2.2.2]; exact Tr.rot_pre HPRE.out hkx hly)
            have HKR := Stow.mk KR
            clear KR
            go_wp2_with fail
            refine (HKR.out _ HW.out).mono ?_
            rintro e w2 ⟨rfl, hr2, ho2⟩
            have HV2 : Stow (IRow w2 B (.slice (some ⟨g, 0, none⟩) N cap) (P ++ X.take k ++ Y.take l ++ (X.drop k ++ Y.drop l ++ S)) ∧ Only g w w2) := ⟨⟨hr2, HO.out.trans ho2⟩⟩
            clear hr2 ho2
            have K1 := fun W h1 h2 => HIH.out P (X.take k) (Y.take l) (X.drop k ++ Y.drop l ++ S) _ a r mid W HN3.out.2.2.2.2.1 h1 h2 (Tr.pre_first HPRE.out hkx hly (of_decide_eq_true HDC.out) (of_decide_eq_true HDB.out) rfl HN3.out.1 HN3.out.2.1)
            have HK1 := Stow.mk K1
            clear K1
            go_wp2_with fail
            refine (HK1.out _ (HC.out.keep _ _ HG.out HV2.out.2) HV2.out.1).mono ?_
            rintro e w3 ⟨rfl, L3, hr3, ⟨Z1, hL3, hz1, sz1⟩, ho3⟩
            subst hL3
            have HV3 : Stow (IRow w3 B (.slice (some ⟨g, 0, none⟩) N cap) (P ++ Z1 ++ (X.drop k ++ Y.drop l ++ S)) ∧ Only g w w3) := ⟨⟨hr3, HV2.out.2.trans ho3⟩⟩
            have HZ1 : Stow (Z1.length = k + l ∧ Z1.Perm (X.take k ++ Y.take l) ∧ So.Sorted (Tr.lt T) Z1) := ⟨⟨by rw [hz1.length_eq, List.length_append, List.length_take, List.length_take]; omega, hz1, sz1⟩⟩
            clear hr3 hz1 sz1 ho3
            have K2 := fun W h1 h2 => HIH.out (P ++ Z1) (X.drop k) (Y.drop l) S _ mid en b W HN3.out.2.2.2.2.2.1 h1 h2 (Tr.pre_second HPRE.out (of_decide_eq_true HDA.out) (of_decide_eq_true HDD.out) HZ1.out.1 rfl (by rw [← Nat.add_assoc, HN3.out.1]; exact HN3.out.2.1) HN3.out.2.2.1)
            have HK2 := Stow.mk K2
            clear K2
            go_wp2_with fail
            refine (HK2.out _ (HC.out.keep _ _ HG.out HV3.out.2) HV3.out.1).mono ?_
            rintro e w4 ⟨rfl, L4, hr4, ⟨Z2, hL4, hz2, sz2⟩, ho4⟩
            subst hL4
            have HZ2 := Stow.mk (So.cut_merge HCUT.out HPRE.out.sX HPRE.out.sY HZ1.out.2.1 hz2 HZ1.out.2.2 sz2)
            have HEND : Stow (SymPost T P (X ++ Y) S B g N cap w (.returned (.tuple #[])) w4) := ⟨⟨rfl, _, hr4, ⟨⟨Z1 ++ Z2, by simp only [List.append_assoc], HZ2.out.1, HZ2.out.2⟩⟩, HV3.out.2.trans ho4⟩⟩
            clear hr4 hz2 sz2 ho4
            go_wp2_with fail
            first | go_end0 | refine bodyPost_ret (results_none rfl _ _ _) rfl ?_
            exact HEND.out
end Go.Proofs.YtfbhdkkmcfnghaaGreat
end
