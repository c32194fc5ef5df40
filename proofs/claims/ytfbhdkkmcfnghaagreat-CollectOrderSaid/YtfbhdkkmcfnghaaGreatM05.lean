/- Walks of slices.swapRangeCmpFunc and rotateCmpFunc at ints, in a row of the call's own. Conditions: places within the row.; Walk of slices.insertionSortCmpFunc at ints, with the comparison of tree.Kids. Conditions: places within the row; the comparison's captured slice.; Walk of slices.symMergeCmpFunc at ints where one side has one element. Conditions: places within the row; the comparison's captured slice.; Walk of slices.symMergeCmpFunc at ints where the second side has one element. Conditions: places within the row; the comparison's captured slice. -/
import Derived.Test.YtfbhdkkmcfnghaaGreatM04
import Derived.Test.YtfbhdkkmcfnghaaGreatProg
import Derived.BigRegion
import Derived.RegionTactic
import Derived.ChangeAlike

section
namespace Go.Proofs.YtfbhdkkmcfnghaaGreat
open Go.RowKit
set_option linter.unusedVariables false

/-- A row of ints of the call's own: what it holds; how long it may be. -/
abbrev IRow (w : World) (B : Nat) (v : Value) (L : List Nat) : Prop := NRow .i64 w B 3 v L
theorem IRow.cell {w : World} {B g n cap : Nat} {L : List Nat} (h : IRow w B (.slice (some ⟨g, 0, none⟩) n cap) L) {j x : Nat} (hj : L[j]? = some x) : w.cell? ⟨g, j, none⟩ = some (.int .i64 (x : Int)) := by
  have := World.ownsRow.cells h rfl j (.int .i64 (x : Int)) (by rw [List.getElem?_map, hj]; rfl)
  rwa [Addr.add_lit, Nat.zero_add] at this
theorem IRow.len {w : World} {B g n cap : Nat} {L : List Nat} (h : IRow w B (.slice (some ⟨g, 0, none⟩) n cap) L) : n = L.length := by
  rcases h.2 with ⟨h1, _⟩ | ⟨g', cap', cur, hv, _⟩
  · cases h1
  · simp only [Value.slice.injEq] at hv; exact hv.2.1
theorem IRow.free {w : World} {B g n cap : Nat} {L : List Nat} (h : IRow w B (.slice (some ⟨g, 0, none⟩) n cap) L) (j : Nat) : w.frozen? ⟨g, j, none⟩ = false := by
  obtain rfl := h.len
  exact World.ownsRow.frozenAt h j
theorem IRow.store {w : World} {B g n cap : Nat} {L : List Nat} (h : IRow w B (.slice (some ⟨g, 0, none⟩) n cap) L) (j x : Nat) : IRow (w.setCell ⟨g, j, none⟩ (.int .i64 (x : Int))) B (.slice (some ⟨g, 0, none⟩) n cap) (L.set j x) := by
  obtain rfl := h.len
  have := (World.ownsRow.stored h j (.int .i64 (x : Int))).1
  unfold IRow NRow
  rw [List.length_set, List.map_set]
  exact this
theorem IRow.lt {w : World} {B g n cap : Nat} {L : List Nat} (h : IRow w B (.slice (some ⟨g, 0, none⟩) n cap) L) : B ≤ g ∧ g < w.heap.size := World.ownsRow.lt h g rfl
theorem IRow.drewN {w : World} {B : Nat} {v : Value} {L : List Nat} (h : IRow w B v L) (n : Nat) : IRow (w.drewN n) B v L := h
theorem IRow.drew {w : World} {B : Nat} {v : Value} {L : List Nat} (h : IRow w B v L) : IRow w.drew B v L := h
theorem IRow.max {w : World} {B : Nat} {v : Value} {L : List Nat} (h : IRow w B v L) : L.length ≤ 9223372036854775807 := by
  rcases h.2 with ⟨_, h1⟩ | ⟨g, cap, cur, hv, _, _, h1, h2, _⟩
  · omega
  · unfold maxLen at h2; omega

set_option maxHeartbeats 2000000 in
set_option maxRecDepth 100000 in
theorem swapRange_any (P X M Y S L : List Nat) (a b n : Nat) (f : Value) (B g N cap : Nat) (w : World) (hR : IRow w B (.slice (some ⟨g, 0, none⟩) N cap) L) (hL : L = P ++ X ++ M ++ Y ++ S) (hx : X.length = n) (hy : Y.length = n) (ha : P.length = a) (hb : P.length + X.length + M.length = b) :
    Calls Tryz.prog 182 #[.slice (some ⟨g, 0, none⟩) N cap, .int .i64 (a : Int), .int .i64 (b : Int), .int .i64 (n : Int), f] w fun e w' => e = .returned (.tuple #[]) ∧ IRow w' B (.slice (some ⟨g, 0, none⟩) N cap) (P ++ Y ++ M ++ X ++ S) ∧ Only g w w' := by
  have hmax := hR.max
  have hN := hR.len
  have hl : L.length = a + n + M.length + n + S.length := by rw [hL]; simp only [List.length_append]; omega
  have hbn : b + n ≤ N := by rw [hN]; omega
  have han : a + n ≤ b := by omega
  have hNm : N ≤ 9223372036854775807 := by omega
  have HI := Stow.mk (So.swapInv_zero hL)
  have HR := Stow.mk hR
  have HF := Stow.mk (And.intro hx (And.intro hy (And.intro ha hb)))
  clear hR hL hx hy ha hb hl hN hmax
  go_enter Tryz.func182, Tryz.ntmps182
  go_wp2_with fail
  go_loopw [10] (fun v wr => ∃ (i : Nat) (L' : List Nat), v = .int .i64 i ∧ i ≤ n ∧ Stow (So.SwapInv P X M Y S i L') ∧ Stow (IRow wr B (.slice (some ⟨g, 0, none⟩) N cap) L') ∧ Only g w wr) (fun v _ => n - (intOf v).toNat)
  case atStart => exact ⟨0, L, rfl, by omega, HI, HR, Only.refl _ _⟩
  case round =>
    obtain ⟨i, L', rfl, hi, HJ, HW, ho⟩ := hrel
    have HO := Stow.mk ho
    clear ho
    by_cases hlt : i < n
    · obtain ⟨x, y, h1, h2, h3⟩ := So.swapInv_step HF.out.1 HF.out.2.1 HF.out.2.2.1 HF.out.2.2.2 hlt HJ.out
      have c1 := HW.out.cell h1
      have c2 := HW.out.cell h2
      have f1 := HW.out.free (a + i)
      have f2 := HW.out.free (b + i)
      have hii : (i : Int) < n := by omega
      have HS := Stow.mk h3
      have hab : (a + i == b + i) = false := by rw [beq_eq_false_iff_ne]; omega
      have hba : (b + i == a + i) = false := by rw [beq_eq_false_iff_ne]; omega
      clear h1 h2 h3
      go_wp2_with fail
      go_region
      go_wp2_with fail
      exact ⟨⟨i + 1, _, rfl, by omega, HS, ⟨((HW.out.store _ _).store _ _).drew⟩, (HO.out.trans ((Only.set g _ _ _).trans (Only.set g _ _ _))).trans (Only.drewN g _ 1)⟩, by simp [intOf]; omega⟩
    · obtain rfl : i = n := by omega
      have HE : Stow (L' = P ++ Y ++ M ++ X ++ S) := ⟨So.swapInv_end HF.out.1 HF.out.2.1 HJ.out⟩
      have hW := HW.out
      rw [HE.out] at hW
      have HWE := Stow.mk hW
      clear hW
      go_wp2_with fail
      first | go_end0 | refine bodyPost_ret (results_none rfl _ _ _) rfl ?_
      exact ⟨rfl, HWE.out, HO.out⟩

set_option maxHeartbeats 2000000 in
set_option maxRecDepth 100000 in
theorem rotate_any (G L : List Nat) (a m b : Nat) (f : Value) (B g N cap : Nat) (w : World) (hR : IRow w B (.slice (some ⟨g, 0, none⟩) N cap) L) (ham : a < m) (hmb : m < b) (hbN : b ≤ N) (hG : So.RotInv m (m - a) (b - m) L G) :
    Calls Tryz.prog 181 #[.slice (some ⟨g, 0, none⟩) N cap, .int .i64 (a : Int), .int .i64 (m : Int), .int .i64 (b : Int), f] w fun e w' => e = .returned (.tuple #[]) ∧ IRow w' B (.slice (some ⟨g, 0, none⟩) N cap) G ∧ Only g w w' := by
  have hmax := hR.max
  have hN := hR.len
  have hNm : N ≤ 9223372036854775807 := by omega
  have HR := Stow.mk hR
  have HG := Stow.mk hG
  clear hR hG hmax hN
  have e1 : (m : Int) - (a : Int) = ((m - a : Nat) : Int) := by omega
  have e2 : (b : Int) - (m : Int) = ((b - m : Nat) : Int) := by omega
  have h1 : m - a ≤ N := by omega
  have h2 : b - m ≤ N := by omega
  have h3 : 0 < m - a := by omega
  have h4 : 0 < b - m := by omega
  have h5 : m - a ≤ m := by omega
  have h6 : m + (b - m) ≤ N := by omega
  generalize m - a = i0 at *
  generalize b - m = j0 at *
  have HE1 := Stow.mk (And.intro e1 e2)
  go_enter Tryz.func181, Tryz.ntmps181
  go_wp2_with fail
  go_loopw [10, 11] (fun u v wr => ∃ (i j : Nat) (L' : List Nat), u = .int .i64 i ∧ v = .int .i64 j ∧ 0 < i ∧ 0 < j ∧ i ≤ m ∧ m + j ≤ N ∧ Stow (So.RotInv m i j L' G) ∧ Stow (IRow wr B (.slice (some ⟨g, 0, none⟩) N cap) L') ∧ Only g w wr) (fun u v _ => (intOf u).toNat + (intOf v).toNat)
  case atStart => exact ⟨i0, j0, L, rfl, rfl, h3, h4, h5, h6, HG, HR, Only.refl _ _⟩
  case round =>
    obtain ⟨i, j, L', rfl, rfl, hi, hj, him, hjm, HJ, HW, ho⟩ := hrel
    have HO := Stow.mk ho
    clear ho
    rcases Nat.lt_trichotomy j i with hlt | hlt | hlt
    · obtain ⟨P, X, M, Y, S, hL, hP, hX, hY, hM, hnext⟩ := So.rot_left HJ.out hlt
      have K := fun W h => swapRange_any P X M Y S L' (m - i) m j f B g N cap W h hL hX hY hP hM
      have HK := Stow.mk K
      have HN := Stow.mk hnext
      have hne : ((i : Int) != (j : Int)) = true := by rw [bne_iff_ne]; omega
      have hii : (j : Int) < i := by omega
      have e3 : (m : Int) - (i : Int) = ((m - i : Nat) : Int) := by omega
      have e4 : (i : Int) - (j : Int) = ((i - j : Nat) : Int) := by omega
      clear hL hP hX hY hM hnext K
      go_wp2_with fail
      refine (HK.out _ HW.out).mono ?_
      rintro e w1 ⟨rfl, hr1, ho1⟩
      have H1 := Stow.mk (And.intro hr1 (HO.out.trans ho1))
      clear hr1 ho1
      go_wp2_with fail
      exact ⟨⟨i - j, j, _, rfl, rfl, by omega, hj, by omega, hjm, HN, ⟨H1.out.1⟩, H1.out.2⟩, by simp [intOf]; omega⟩
    · subst hlt
      obtain ⟨P, X, M, Y, S, hL, hP, hX, hY, hM, hnext⟩ := So.rot_same HJ.out
      have K := fun W h => swapRange_any P X M Y S L' (m - j) m j f B g N cap W h hL hX hY hP hM
      rw [← hnext] at K
      have HK := Stow.mk K
      have e3 : (m : Int) - (j : Int) = ((m - j : Nat) : Int) := by omega
      clear hL hP hX hY hM hnext K
      go_wp2_with fail
      refine (HK.out _ HW.out).mono ?_
      rintro e w1 ⟨rfl, hr1, ho1⟩
      have H1 := Stow.mk (And.intro hr1 (HO.out.trans ho1))
      clear hr1 ho1
      go_wp2_with fail
      first | go_end0 | refine bodyPost_ret (results_none rfl _ _ _) rfl ?_
      exact ⟨rfl, H1.out.1, H1.out.2⟩
    · obtain ⟨P, X, M, Y, S, hL, hP, hX, hY, hM, hnext⟩ := So.rot_right HJ.out hlt
      have K := fun W h => swapRange_any P X M Y S L' (m - i) (m + j - i) i f B g N cap W h hL hX hY hP hM
      have HK := Stow.mk K
      have HN := Stow.mk hnext
      have hne : ((i : Int) != (j : Int)) = true := by rw [bne_iff_ne]; omega
      have hii : ¬ (j : Int) < i := by omega
      have e3 : (m : Int) - (i : Int) = ((m - i : Nat) : Int) := by omega
      have e4 : (j : Int) - (i : Int) = ((j - i : Nat) : Int) := by omega
      have e5 : (m : Int) + (j : Int) - (i : Int) = ((m + j - i : Nat) : Int) := by omega
      clear hL hP hX hY hM hnext K
      go_wp2_with fail
      refine (HK.out _ HW.out).mono ?_
      rintro e w1 ⟨rfl, hr1, ho1⟩
      have H1 := Stow.mk (And.intro hr1 (HO.out.trans ho1))
      clear hr1 ho1
      go_wp2_with fail
      exact ⟨⟨i, j - i, _, rfl, rfl, hi, by omega, him, by omega, HN, ⟨H1.out.1⟩, H1.out.2⟩, by simp [intOf]; omega⟩
end Go.Proofs.YtfbhdkkmcfnghaaGreat
end

section
namespace Go.Proofs.YtfbhdkkmcfnghaaGreat
open Go.RowKit
set_option linter.unusedVariables false

/-- What cmp.Compare gives. -/
def cv (a b : Int) : Int := if a < b then -1 else if b < a then 1 else 0
theorem cv_neg (a b : Int) : cv a b < 0 ↔ a < b := by
  unfold cv
  by_cases h1 : a < b
  · simp [h1]
  · by_cases h2 : b < a
    · simp [h1, h2]
    · simp [h1, h2]
/-- A comparison of places by Seq, in all worlds in which only block g may have turned. -/
structure CmpOK (T : List Sp) (c : Value) (g : Nat) (Good : World → Prop) : Prop where
  keep : ∀ W W', Good W → Only g W W' → Good W'
  call : ∀ W, Good W → ∀ x y : Nat, x < T.length → y < T.length → Calls Tryz.prog 166 #[.int .i64 (x : Int), .int .i64 (y : Int), c] W fun e w' => e = .returned (.int .i64 (cv (Tr.sp T x).sq (Tr.sp T y).sq)) ∧ ∃ n, w' = W.drewN n
namespace Tr
theorem lt_back {T : List Sp} {x y : Nat} (h : bf x y) : lt T y x ↔ (sp T y).sq < (sp T x).sq := by unfold lt bf at *; omega
end Tr

set_option maxHeartbeats 4000000 in
set_option maxRecDepth 100000 in
theorem insSort_any (T : List Sp) (c : Value) (Good : World → Prop) (P X S L : List Nat) (a b : Nat) (B g N cap : Nat) (w : World) (hC : CmpOK T c g Good) (hgood : Good w) (hR : IRow w B (.slice (some ⟨g, 0, none⟩) N cap) L) (hL : L = P ++ X ++ S) (ha : P.length = a) (hb : P.length + X.length = b) (hX : X.Pairwise Tr.bf) (hM : ∀ x ∈ X, x < T.length) (hNs : N ≤ 1000000) :
    Calls Tryz.prog 179 #[.slice (some ⟨g, 0, none⟩) N cap, .int .i64 (a : Int), .int .i64 (b : Int), .func (.func 166) #[] #[c]] w fun e w' => e = .returned (.tuple #[]) ∧ ∃ L', IRow w' B (.slice (some ⟨g, 0, none⟩) N cap) L' ∧ So.Mid (Tr.lt T) P X S L' ∧ Only g w w' := by
  have hmax := hR.max
  have hN := hR.len
  have hl : L.length = b + S.length := by rw [hL]; simp only [List.length_append]; omega
  have hbN : b ≤ N := by omega
  have hab : a ≤ b := by omega
  have HR := Stow.mk hR
  have HC := Stow.mk hC
  have HG := Stow.mk hgood
  have HX := Stow.mk (And.intro hX (And.intro hM (And.intro ha hb)))
  by_cases h0 : X.length = 0
  · obtain rfl := List.eq_nil_of_length_eq_zero h0
    have HE : Stow (So.Mid (Tr.lt T) P [] S L) := ⟨⟨[], by simpa using hL, List.Perm.refl _, by simp⟩⟩
    have hni : ¬ (a : Int) + 1 < (b : Int) := by simp at hb; omega
    clear hR hL ha hb hX hM hmax hN hl hC hgood h0
    go_enter Tryz.func179, Tryz.ntmps179
    go_wp2_with fail
    go_loopw [8, 9] (fun u v wr => u = .int .i64 ((a : Int) + 1) ∧ wr = w) (fun _ _ _ => 0)
    case atStart => exact ⟨rfl, rfl⟩
    case round =>
      obtain ⟨rfl, rfl⟩ := hrel
      go_wp2_with fail
      first | go_end0 | refine bodyPost_ret (results_none rfl _ _ _) rfl ?_
      exact ⟨rfl, L, HR.out, HE.out, Only.refl _ _⟩
  have hxl : X.length = b - a := by omega
  have hx1 : X.length ≤ N := by omega
  have HST : Stow (∃ Z, L = P ++ Z ++ (X.drop 1 ++ S) ∧ Z.Perm (X.take 1) ∧ So.Sorted (Tr.lt T) Z) := ⟨⟨X.take 1, by
    have e : X.take 1 ++ X.drop 1 = X := List.take_append_drop 1 X
    rw [hL]
    conv => lhs; rw [← e]
    simp only [List.append_assoc], List.Perm.refl _, by
    match X with
    | [] => simp
    | x :: t => simp⟩⟩
  clear hR hL ha hb hX hM hmax hN hl hC hgood
  go_enter Tryz.func179, Tryz.ntmps179
  go_wp2_with fail
  go_loopw [8] (fun v wr => ∃ (k : Nat) (L' : List Nat), v = .int .i64 ((a + k : Nat) : Int) ∧ 1 ≤ k ∧ k ≤ X.length ∧ Stow (∃ Z, L' = P ++ Z ++ (X.drop k ++ S) ∧ Z.Perm (X.take k) ∧ So.Sorted (Tr.lt T) Z) ∧ Stow (IRow wr B (.slice (some ⟨g, 0, none⟩) N cap) L') ∧ Only g w wr) (fun v _ => b - (intOf v).toNat)
  case atStart => exact ⟨1, L, by simp, by omega, by omega, HST, HR, Only.refl _ _⟩
  case round =>
    obtain ⟨k, L', rfl, hk1, hk, HJ, HW, ho⟩ := hrel
    have HO := Stow.mk ho
    clear ho
    by_cases hlt : k < X.length
    · obtain ⟨Z, hL', hZ, sZ⟩ := HJ.out
      have hzl : Z.length = k := by rw [hZ.length_eq, List.length_take]; omega
      have hdk : X.drop k = X[k] :: X.drop (k + 1) := List.drop_eq_getElem_cons hlt
      obtain ⟨x, hx⟩ : ∃ x, X[k] = x := ⟨_, rfl⟩
      have hxM : x < T.length := hx ▸ HX.out.2.1 _ (List.getElem_mem hlt)
      have hXp : X = X.take k ++ X.drop k := (List.take_append_drop k X).symm
      have hpw := HX.out.1
      rw [hXp, hdk, hx] at hpw
      have HA : Stow (So.Ahead Tr.bf Z [x]) := ⟨fun z hz y hy => by
        simp at hy; subst hy
        exact (List.pairwise_append.1 hpw).2.2 z (hZ.mem_iff.1 hz) y (by simp)⟩
      have HZM : Stow (∀ z ∈ Z, z < T.length) := ⟨fun z hz => HX.out.2.1 z (List.mem_of_mem_take (hZ.mem_iff.1 hz))⟩
      have HZP : Stow ((Z ++ [x]).Perm (X.take (k + 1))) := ⟨by
        rw [List.take_succ_eq_append_getElem hlt, hx]
        exact List.Perm.append_right _ hZ⟩
      have HSZ := Stow.mk sZ
      have HM0 : Stow (So.MvL P Z (X.drop (k + 1) ++ S) x k L' ∧ ∀ z ∈ Z.drop k, Tr.lt T x z) := ⟨by
        unfold So.MvL
        rw [List.take_of_length_le (by omega), List.drop_eq_nil_of_le (by omega), hL', hdk, hx]
        simp, by rw [List.drop_eq_nil_of_le (by omega)]; simp⟩
      have hkb : a + k < b := by omega
      have hkbi : ((a + k : Nat) : Int) < (b : Int) := by omega
      obtain ⟨j0, hj0⟩ : ∃ j0, a + k = j0 := ⟨_, rfl⟩
      rw [hj0] at hkbi
      rw [hj0]
      have HJ0 := Stow.mk hj0
      have hj0a : a ≤ j0 := by omega
      have hj0b : j0 < b := by omega
      have HZL := Stow.mk hzl
      have HGR := Stow.mk (HC.out.keep _ _ HG.out HO.out)
      clear hL' hZ sZ hzl hdk hx hXp hpw hj0 HJ hkb hxl
      go_wp2_with fail
      go_loopw [9] (fun v wi => ∃ (j : Nat) (L2 : List Nat), v = .int .i64 (j : Int) ∧ a ≤ j ∧ j ≤ j0 ∧ Stow (So.MvL P Z (X.drop (k + 1) ++ S) x (j - a) L2 ∧ ∀ z ∈ Z.drop (j - a), Tr.lt T x z) ∧ Stow (IRow wi B (.slice (some ⟨g, 0, none⟩) N cap) L2) ∧ Only g wr wi) (fun v _ => (intOf v).toNat)
      case atStart => exact ⟨j0, L', rfl, hj0a, Nat.le_refl _, by have := HJ0.out; rw [show j0 - a = k by omega]; exact HM0, HW, Only.refl _ _⟩
      case round =>
        obtain ⟨j, L2, rfl, hja, hjb, HK, HV, ho2⟩ := hrel
        have HO2 := Stow.mk ho2
        have HG2 := Stow.mk (HC.out.keep _ _ HGR.out ho2)
        clear ho2
        by_cases hjl : a < j
        rotate_left
        · obtain rfl : j = a := by omega
          have hjd : decide (j < j) = false := by simp
          have HE : Stow (∃ Z', L2 = P ++ Z' ++ (X.drop (k + 1) ++ S) ∧ Z'.Perm (X.take (k + 1)) ∧ So.Sorted (Tr.lt T) Z') := ⟨by
            have he := So.ins_end (Tr.ord T) HSZ.out HA.out (t := j - j) (by omega) HK.out.2 (fun z h0 _ => by omega)
            refine ⟨_, ?_, he.1.trans HZP.out, he.2⟩
            have := HK.out.1
            unfold So.MvL at this
            rw [this]; simp only [List.append_assoc, List.cons_append]⟩
          go_wp2_with fail
          go_quiet (fail)
          go_wp2_with fail
          exact ⟨⟨k + 1, L2, by have := HJ0.out; first | rfl | (simp; omega), by omega, by omega, HE, ⟨HV.out.drewN _⟩, (HO.out.trans HO2.out).trans (Only.drewN g _ _)⟩, by have := HJ0.out; simp [intOf]; omega⟩
        have hjd : decide (a < j) = true := by simp; omega
        have hjk : j - a ≤ Z.length := by have := HJ0.out; have := HZL.out; omega
        obtain ⟨z, g1, g2, g3, HNX⟩ := So.mvR_step (S := X.drop (k + 1) ++ S) HX.out.2.2.1 (k := j) (t := j - a) (by omega) (by omega) hjk HK.out.1
        have hzM : z < T.length := HZM.out z (List.mem_of_getElem? g3)
        have c1 := HV.out.cell g1
        have c2 := HV.out.cell g2
        have f1 := HV.out.free j
        have f2 := HV.out.free (j - 1)
        have hj1 : (j : Int) - 1 = ((j - 1 : Nat) : Int) := by omega
        have hjN : (j : Int) < N := by omega
        have hj1N : j - 1 < N := by omega
        have HG3 := Stow.mk g3
        have HN3 := Stow.mk HNX
        have KC := fun n => HC.out.call _ (HC.out.keep _ _ HG2.out (Only.drewN g _ n)) x z hxM hzM
        have hbfz : Tr.bf z x := HA.out z (List.mem_of_getElem? g3) x (by simp)
        have hltb := Tr.lt_back (T := T) hbfz
        obtain ⟨d, hd⟩ : ∃ d, cv (Tr.sp T x).sq (Tr.sp T z).sq = d := ⟨_, rfl⟩
        have hdn := cv_neg (Tr.sp T x).sq (Tr.sp T z).sq
        rw [hd] at hdn
        rw [hd] at KC
        have HKC := Stow.mk KC
        clear g1 g2 g3 HNX KC hbfz hd
        by_cases hq : Tr.lt T x z
        · have hd0 : decide (d < 0) = true := by simp; exact hdn.2 (hltb.1 hq)
          have HDL : Stow (∀ y ∈ Z.drop (j - a - 1), Tr.lt T x y) := ⟨So.drop_pred (by omega) HG3.out hq HK.out.2⟩
          clear hdn hltb hq
          go_wp2_with fail
          go_quiet ((go_at_call 166; exact Calls.quiet_of (HKC.out _)))
          go_wp2_with fail
          go_region
          go_wp2_with fail
          exact ⟨⟨j - 1, _, rfl, by omega, by omega, ⟨by rw [show j - 1 - a = j - a - 1 by omega]; exact HN3.out, by rw [show j - 1 - a = j - a - 1 by omega]; exact HDL.out⟩, ⟨((HV.out.drewN _).store _ _).store _ _⟩, (HO2.out.trans (Only.drewN g _ _)).trans ((Only.set g _ _ _).trans (Only.set g _ _ _))⟩, by simp [intOf]; omega⟩
        · have hd0 : decide (d < 0) = false := by simp; exact Int.not_lt.1 fun h => hq (hltb.2 (hdn.1 h))
          have HE : Stow (∃ Z', L2 = P ++ Z' ++ (X.drop (k + 1) ++ S) ∧ Z'.Perm (X.take (k + 1)) ∧ So.Sorted (Tr.lt T) Z') := ⟨by
            have he := So.ins_end (Tr.ord T) HSZ.out HA.out (t := j - a) hjk HK.out.2 (fun z' _ hz' => by
              rw [HG3.out] at hz'
              obtain rfl := Option.some.inj hz'
              exact hq)
            refine ⟨_, ?_, he.1.trans HZP.out, he.2⟩
            have := HK.out.1
            unfold So.MvL at this
            rw [this]; simp only [List.append_assoc, List.cons_append]⟩
          clear hdn hltb hq
          go_wp2_with fail
          go_quiet ((go_at_call 166; exact Calls.quiet_of (HKC.out _)))
          go_wp2_with fail
          exact ⟨⟨k + 1, L2, by have := HJ0.out; first | rfl | (simp; omega), by omega, by omega, HE, ⟨HV.out.drewN _⟩, (HO.out.trans HO2.out).trans (Only.drewN g _ _)⟩, by have := HJ0.out; simp [intOf]; omega⟩
    · obtain rfl : k = X.length := by omega
      have HE : Stow (So.Mid (Tr.lt T) P X S L') := ⟨by
        obtain ⟨Z, h1, h2, h3⟩ := HJ.out
        rw [List.take_length] at h2
        rw [List.drop_length, List.nil_append] at h1
        exact ⟨⟨Z, h1, h2, h3⟩⟩⟩
      have hbe : a + X.length = b := by omega
      rw [hbe]
      have hbi : ¬ (b : Int) < b := by omega
      clear hbe hxl
      go_wp2_with fail
      first | go_end0 | refine bodyPost_ret (results_none rfl _ _ _) rfl ?_
      exact ⟨rfl, L', HW.out, HE.out, HO.out⟩
end Go.Proofs.YtfbhdkkmcfnghaaGreat
end

section
namespace Go.Proofs.YtfbhdkkmcfnghaaGreat
open Go.RowKit
set_option linter.unusedVariables false

/-- What a merge gives. -/
def SymPost (T : List Sp) (P X S : List Nat) (B g N cap : Nat) (w : World) (e : Ending) (w' : World) : Prop :=
  e = .returned (.tuple #[]) ∧ ∃ L', IRow w' B (.slice (some ⟨g, 0, none⟩) N cap) L' ∧ So.Mid (Tr.lt T) P X S L' ∧ Only g w w'

set_option maxHeartbeats 4000000 in
set_option maxRecDepth 100000 in
theorem symOneL_any (T : List Sp) (c : Value) (Good : World → Prop) (P Y S L : List Nat) (x0 a m b : Nat) (B g N cap : Nat) (w : World) (hC : CmpOK T c g Good) (hgood : Good w) (hR : IRow w B (.slice (some ⟨g, 0, none⟩) N cap) L) (hL : L = P ++ [x0] ++ Y ++ S) (ha : P.length = a) (hm : a + 1 = m) (hb : m + Y.length = b)
    (sY : So.Sorted (Tr.lt T) Y) (hA : So.Ahead Tr.bf [x0] Y) (hM : ∀ x ∈ [x0] ++ Y, x < T.length) (hNs : N ≤ 1000000) :
    Calls Tryz.prog 180 #[.slice (some ⟨g, 0, none⟩) N cap, .int .i64 (a : Int), .int .i64 (m : Int), .int .i64 (b : Int), .func (.func 166) #[] #[c]] w (SymPost T P ([x0] ++ Y) S B g N cap w) := by
  have hmax := hR.max
  have hN := hR.len
  have hl : L.length = b + S.length := by rw [hL]; simp only [List.length_append, List.length_cons, List.length_nil]; omega
  have hbN : b ≤ N := by omega
  have hmb : m ≤ b := by omega
  have hma : (m : Int) - (a : Int) = 1 := by omega
  have HR := Stow.mk hR
  have HC := Stow.mk hC
  have HG := Stow.mk hgood
  have HX := Stow.mk (And.intro hL (And.intro ha (And.intro hm hb)))
  have HS := Stow.mk (And.intro sY (And.intro hA hM))
  have HMO := Stow.mk (So.QL_mono (Tr.ord T) hL ha hm hb sY)
  have HL0 : Stow (L[a]? = some x0) := ⟨by rw [hL, List.append_assoc, List.append_assoc]; exact So.get_at ha⟩
  have hx0 : x0 < T.length := hM x0 (by simp)
  have HMA := Stow.mk (And.intro hma hm)
  clear hR hL ha hb hm hmax hN hl hC hgood sY hA hM
  go_enter Tryz.func180, Tryz.ntmps180
  go_wp2_with fail
  go_loopw [10, 11] (fun u v wr => ∃ (i j : Nat), u = .int .i64 (i : Int) ∧ v = .int .i64 (j : Int) ∧ m ≤ i ∧ i ≤ j ∧ j ≤ b ∧ Stow (So.Srch (So.QL (Tr.lt T) x0 L) m b i j) ∧ Stow (IRow wr B (.slice (some ⟨g, 0, none⟩) N cap) L) ∧ Only g w wr) (fun u v _ => (intOf v).toNat - (intOf u).toNat)
  case atStart => exact ⟨m, b, rfl, rfl, Nat.le_refl _, hmb, Nat.le_refl _, ⟨So.Srch.start hmb⟩, HR, Only.refl _ _⟩
  case round =>
    obtain ⟨i, j, rfl, rfl, hmi, hij, hjb, HJ, HW, ho⟩ := hrel
    have HO := Stow.mk ho
    have HG2 := Stow.mk (HC.out.keep _ _ HG.out ho)
    clear ho
    by_cases hlt : i < j
    · have hii : (i : Int) < j := by omega
      obtain ⟨h, hh⟩ : ∃ h, (i + j) / 2 = h := ⟨_, rfl⟩
      have hh1 : i ≤ h := by omega
      have hh2 : h < j := by omega
      have hhe : ((i : Int) + (j : Int)) / 2 = (h : Int) := by omega
      have ey := So.at_y (X := [x0]) HX.out.1 HX.out.2.1 HX.out.2.2.1 (t := h) (by omega) (by have := HX.out.2.2.2; omega)
      obtain ⟨y, hy⟩ : ∃ y, Y[h - m]'(by have := HX.out.2.2.2; omega) = y := ⟨_, rfl⟩
      have hyY : y ∈ Y := hy ▸ List.getElem_mem _
      rw [hy] at ey
      have hyM : y < T.length := HS.out.2.2 y (by simp [hyY])
      have c1 := HW.out.cell ey
      have c2 := HW.out.cell HL0.out
      have KC := fun n => HC.out.call _ (HC.out.keep _ _ HG2.out (Only.drewN g _ n)) y x0 hyM hx0
      have hltb := Tr.lt_back (T := T) (HS.out.2.1 x0 (by simp) y hyY)
      obtain ⟨d, hd⟩ : ∃ d, cv (Tr.sp T y).sq (Tr.sp T x0).sq = d := ⟨_, rfl⟩
      have hdn := cv_neg (Tr.sp T y).sq (Tr.sp T x0).sq
      rw [hd] at hdn KC
      have HKC := Stow.mk KC
      have HEY := Stow.mk ey
      have hhN : h < N := by omega
      have haN : a < N := by have := HX.out.2.2.1; omega
      clear KC hd ey hy hh
      by_cases hq : Tr.lt T y x0
      · have hd0 : decide (d < 0) = true := by simp; exact hdn.2 (hltb.1 hq)
        have HNX : Stow (So.Srch (So.QL (Tr.lt T) x0 L) m b (h + 1) j) := ⟨HJ.out.right HMO.out hh1 hh2 fun z hz => by
          rw [HEY.out] at hz
          obtain rfl := Option.some.inj hz
          exact hq⟩
        clear hdn hltb hq
        go_wp2_with fail
        go_quiet ((go_at_call 166; exact Calls.quiet_of (HKC.out _)))
        go_wp2_with fail
        exact ⟨⟨h + 1, j, rfl, rfl, by omega, by omega, hjb, HNX, ⟨HW.out.drewN _⟩, HO.out.trans (Only.drewN g _ _)⟩, by simp [intOf]; omega⟩
      · have hd0 : decide (d < 0) = false := by simp; exact Int.not_lt.1 fun h => hq (hltb.2 (hdn.1 h))
        have HNX : Stow (So.Srch (So.QL (Tr.lt T) x0 L) m b i h) := ⟨HJ.out.left HMO.out hh1 hh2 fun hz => hq (hz y HEY.out)⟩
        clear hdn hltb hq
        go_wp2_with fail
        go_quiet ((go_at_call 166; exact Calls.quiet_of (HKC.out _)))
        go_wp2_with fail
        exact ⟨⟨i, h, rfl, rfl, hmi, hh1, by omega, HNX, ⟨HW.out.drewN _⟩, HO.out.trans (Only.drewN g _ _)⟩, by simp [intOf]; omega⟩
    · obtain rfl : j = i := by omega
      have HE := Stow.mk (So.left_end (Tr.ord T) HX.out.1 HX.out.2.1 HX.out.2.2.1 HX.out.2.2.2 HS.out.1 HS.out.2.1 HJ.out)
      have HMV : Stow (So.MvL P Y S x0 0 L) := ⟨by unfold So.MvL; rw [HX.out.1]; simp⟩
      have hj1 : (j : Int) - 1 = ((j - 1 : Nat) : Int) := by omega
      have haj : a ≤ j - 1 := by have := HX.out.2.2.1; omega
      have hjN : j - 1 < N := by omega
      have HGO := Stow.mk (HO.out)
      go_wp2_with fail
      go_loopw [13] (fun v wi => ∃ (k : Nat) (L2 : List Nat), v = .int .i64 (k : Int) ∧ a ≤ k ∧ k ≤ j - 1 ∧ Stow (So.MvL P Y S x0 (k - a) L2) ∧ Stow (IRow wi B (.slice (some ⟨g, 0, none⟩) N cap) L2) ∧ Only g w wi) (fun v _ => j - (intOf v).toNat)
      case atStart => exact ⟨a, L, rfl, Nat.le_refl _, haj, by rw [Nat.sub_self]; exact HMV, HW, HO.out⟩
      case round =>
        obtain ⟨k, L2, rfl, hka, hkj, HK, HV, ho2⟩ := hrel
        have HO2 := Stow.mk ho2
        clear ho2
        by_cases hkl : k < j - 1
        · obtain ⟨y, g1, g2, HNX⟩ := So.mvL_step HX.out.2.1 (k := k) (t := k - a) (by omega) (by have := HX.out.2.2.1; have := HX.out.2.2.2; omega) HK.out
          have c1 := HV.out.cell g1
          have c2 := HV.out.cell g2
          have f1 := HV.out.free k
          have f2 := HV.out.free (k + 1)
          have HNX' := Stow.mk HNX
          have hkN : k + 1 < N := by omega
          have hkji : (k : Int) < ((j - 1 : Nat) : Int) := by omega
          clear g1 g2 HNX
          go_wp2_with fail
          go_region
          go_wp2_with fail
          exact ⟨⟨k + 1, _, rfl, by omega, by omega, by rw [show k + 1 - a = k - a + 1 by omega]; exact HNX', ⟨((HV.out.store _ _).store _ _).drew⟩, (HO2.out.trans ((Only.set g _ _ _).trans (Only.set g _ _ _))).trans (Only.drewN g _ 1)⟩, by simp [intOf]; omega⟩
        · obtain rfl : k = j - 1 := by omega
          have HP : Stow (SymPost T P ([x0] ++ Y) S B g N cap w (.returned (.tuple #[])) _) := ⟨⟨rfl, L2, HV.out, ⟨⟨_, by
            have := HK.out
            unfold So.MvL at this
            rw [show j - 1 - a = j - m by have := HX.out.2.2.1; omega] at this
            rw [this]
            simp only [List.append_assoc, List.cons_append], HE.out.1, HE.out.2⟩⟩, HO2.out⟩⟩
          have hni : ¬ ((j - 1 : Nat) : Int) < ((j - 1 : Nat) : Int) := by omega
          go_wp2_with fail
          first | go_end0 | refine bodyPost_ret (results_none rfl _ _ _) rfl ?_
          exact HP.out
end Go.Proofs.YtfbhdkkmcfnghaaGreat
end

section
namespace Go.Proofs.YtfbhdkkmcfnghaaGreat
open Go.RowKit
set_option linter.unusedVariables false

set_option maxHeartbeats 4000000 in
set_option maxRecDepth 100000 in
theorem symOneR_any (T : List Sp) (c : Value) (Good : World → Prop) (P X S L : List Nat) (y0 a m b : Nat) (B g N cap : Nat) (w : World) (hC : CmpOK T c g Good) (hgood : Good w) (hR : IRow w B (.slice (some ⟨g, 0, none⟩) N cap) L) (hL : L = P ++ X ++ [y0] ++ S) (ha : P.length = a) (hm : a + X.length = m) (hb : m + 1 = b) (hx1 : ¬ m = a + 1)
    (sX : So.Sorted (Tr.lt T) X) (hA : So.Ahead Tr.bf X [y0]) (hM : ∀ x ∈ X ++ [y0], x < T.length) (hNs : N ≤ 1000000) :
    Calls Tryz.prog 180 #[.slice (some ⟨g, 0, none⟩) N cap, .int .i64 (a : Int), .int .i64 (m : Int), .int .i64 (b : Int), .func (.func 166) #[] #[c]] w (SymPost T P (X ++ [y0]) S B g N cap w) := by
  have hmax := hR.max
  have hN := hR.len
  have hl : L.length = b + S.length := by rw [hL]; simp only [List.length_append, List.length_cons, List.length_nil]; omega
  have hbN : b ≤ N := by omega
  have ham : a ≤ m := by omega
  have hma : (((m : Int) - (a : Int)) == 1) = false := by rw [beq_eq_false_iff_ne]; omega
  have hbm : (b : Int) - (m : Int) = 1 := by omega
  have HR := Stow.mk hR
  have HC := Stow.mk hC
  have HG := Stow.mk hgood
  have HX := Stow.mk (And.intro hL (And.intro ha (And.intro hm hb)))
  have HS := Stow.mk (And.intro sX (And.intro hA hM))
  have HMO := Stow.mk (So.QR_mono (Tr.ord T) hL ha hm sX hA)
  have HL0 : Stow (L[m]? = some y0) := ⟨by rw [hL, List.append_assoc]; exact So.get_at (by rw [List.length_append]; omega)⟩
  have hy0 : y0 < T.length := hM y0 (by simp)
  have hmN : m < N := by omega
  clear hR hL ha hm hb hmax hN hl hC hgood sX hA hM
  go_enter Tryz.func180, Tryz.ntmps180
  go_wp2_with fail
  go_loopw [14, 15] (fun u v wr => ∃ (i j : Nat), u = .int .i64 (i : Int) ∧ v = .int .i64 (j : Int) ∧ a ≤ i ∧ i ≤ j ∧ j ≤ m ∧ Stow (So.Srch (So.QR (Tr.lt T) y0 L) a m i j) ∧ Stow (IRow wr B (.slice (some ⟨g, 0, none⟩) N cap) L) ∧ Only g w wr) (fun u v _ => (intOf v).toNat - (intOf u).toNat)
  case atStart => exact ⟨a, m, rfl, rfl, Nat.le_refl _, ham, Nat.le_refl _, ⟨So.Srch.start ham⟩, HR, Only.refl _ _⟩
  case round =>
    obtain ⟨i, j, rfl, rfl, hmi, hij, hjb, HJ, HW, ho⟩ := hrel
    have HO := Stow.mk ho
    have HG2 := Stow.mk (HC.out.keep _ _ HG.out ho)
    clear ho
    by_cases hlt : i < j
    · have hii : (i : Int) < j := by omega
      obtain ⟨h, hh⟩ : ∃ h, (i + j) / 2 = h := ⟨_, rfl⟩
      have hh1 : i ≤ h := by omega
      have hh2 : h < j := by omega
      have hhe : ((i : Int) + (j : Int)) / 2 = (h : Int) := by omega
      have ey := So.at_x (Y := [y0]) HX.out.1 HX.out.2.1 (t := h) (by omega) (by have := HX.out.2.2.1; omega)
      obtain ⟨x, hx⟩ : ∃ x, X[h - a]'(by have := HX.out.2.2.1; omega) = x := ⟨_, rfl⟩
      have hxX : x ∈ X := hx ▸ List.getElem_mem _
      rw [hx] at ey
      have hxM : x < T.length := HS.out.2.2 x (by simp [hxX])
      have c1 := HW.out.cell ey
      have c2 := HW.out.cell HL0.out
      have KC := fun n => HC.out.call _ (HC.out.keep _ _ HG2.out (Only.drewN g _ n)) y0 x hy0 hxM
      have hltb := Tr.lt_back (T := T) (HS.out.2.1 x hxX y0 (by simp))
      obtain ⟨d, hd⟩ : ∃ d, cv (Tr.sp T y0).sq (Tr.sp T x).sq = d := ⟨_, rfl⟩
      have hdn := cv_neg (Tr.sp T y0).sq (Tr.sp T x).sq
      rw [hd] at hdn KC
      have HKC := Stow.mk KC
      have HEY := Stow.mk ey
      have hhN : h < N := by omega
      clear KC hd ey hx hh
      by_cases hq : Tr.lt T y0 x
      · have hd0 : decide (d < 0) = true := by simp; exact hdn.2 (hltb.1 hq)
        have HNX : Stow (So.Srch (So.QR (Tr.lt T) y0 L) a m i h) := ⟨HJ.out.left HMO.out hh1 hh2 fun hz => hz x HEY.out hq⟩
        clear hdn hltb hq
        go_wp2_with fail
        go_quiet ((go_at_call 166; exact Calls.quiet_of (HKC.out _)))
        go_wp2_with fail
        exact ⟨⟨i, h, rfl, rfl, hmi, hh1, by omega, HNX, ⟨HW.out.drewN _⟩, HO.out.trans (Only.drewN g _ _)⟩, by simp [intOf]; omega⟩
      · have hd0 : decide (d < 0) = false := by simp; exact Int.not_lt.1 fun h => hq (hltb.2 (hdn.1 h))
        have HNX : Stow (So.Srch (So.QR (Tr.lt T) y0 L) a m (h + 1) j) := ⟨HJ.out.right HMO.out hh1 hh2 fun z hz => by
          rw [HEY.out] at hz
          obtain rfl := Option.some.inj hz
          exact hq⟩
        clear hdn hltb hq
        go_wp2_with fail
        go_quiet ((go_at_call 166; exact Calls.quiet_of (HKC.out _)))
        go_wp2_with fail
        exact ⟨⟨h + 1, j, rfl, rfl, by omega, by omega, hjb, HNX, ⟨HW.out.drewN _⟩, HO.out.trans (Only.drewN g _ _)⟩, by simp [intOf]; omega⟩
    · obtain rfl : j = i := by omega
      have HE := Stow.mk (So.right_end (Tr.ord T) HX.out.1 HX.out.2.1 HX.out.2.2.1 HS.out.1 HS.out.2.1 HJ.out)
      have HMV : Stow (So.MvL P X S y0 (m - a) L) := ⟨by
        unfold So.MvL
        have e : m - a = X.length := by have := HX.out.2.2.1; omega
        rw [HX.out.1, e, List.take_length, List.drop_length]; simp⟩
      go_wp2_with fail
      go_loopw [17] (fun v wi => ∃ (k : Nat) (L2 : List Nat), v = .int .i64 (k : Int) ∧ j ≤ k ∧ k ≤ m ∧ Stow (So.MvL P X S y0 (k - a) L2) ∧ Stow (IRow wi B (.slice (some ⟨g, 0, none⟩) N cap) L2) ∧ Only g w wi) (fun v _ => (intOf v).toNat)
      case atStart => exact ⟨m, L, rfl, hjb, Nat.le_refl _, HMV, HW, HO.out⟩
      case round =>
        obtain ⟨k, L2, rfl, hka, hkj, HK, HV, ho2⟩ := hrel
        have HO2 := Stow.mk ho2
        clear ho2
        by_cases hkl : j < k
        · obtain ⟨y, g1, g2, _, HNX⟩ := So.mvR_step (S := S) HX.out.2.1 (k := k) (t := k - a) (by omega) (by omega) (by have := HX.out.2.2.1; omega) HK.out
          have c1 := HV.out.cell g1
          have c2 := HV.out.cell g2
          have f1 := HV.out.free k
          have f2 := HV.out.free (k - 1)
          have HNX' := Stow.mk HNX
          have hkN : k < N := by omega
          have hk1N : k - 1 < N := by omega
          have hk1 : (k : Int) - 1 = ((k - 1 : Nat) : Int) := by omega
          have hkji : (j : Int) < (k : Int) := by omega
          clear g1 g2 HNX
          go_wp2_with fail
          go_region
          go_wp2_with fail
          exact ⟨⟨k - 1, _, rfl, by omega, by omega, by rw [show k - 1 - a = k - a - 1 by omega]; exact HNX', ⟨((HV.out.store _ _).store _ _).drew⟩, (HO2.out.trans ((Only.set g _ _ _).trans (Only.set g _ _ _))).trans (Only.drewN g _ 1)⟩, by simp [intOf]; omega⟩
        · obtain rfl : k = j := by omega
          have HP : Stow (SymPost T P (X ++ [y0]) S B g N cap w (.returned (.tuple #[])) _) := ⟨⟨rfl, L2, HV.out, ⟨⟨_, by
            have := HK.out
            unfold So.MvL at this
            rw [this]
            simp only [List.append_assoc, List.cons_append], HE.out.1, HE.out.2⟩⟩, HO2.out⟩⟩
          have hni : ¬ (k : Int) < (k : Int) := by omega
          go_wp2_with fail
          first | go_end0 | refine bodyPost_ret (results_none rfl _ _ _) rfl ?_
          exact HP.out
end Go.Proofs.YtfbhdkkmcfnghaaGreat
end
