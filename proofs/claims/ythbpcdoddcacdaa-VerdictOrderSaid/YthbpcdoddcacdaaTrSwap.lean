/- Walks of slices.swapRangeCmpFunc and rotateCmpFunc at ints, in a row of the call's own. Conditions: places within the row. -/
import Derived.Test.YthbpcdoddcacdaaTrSpec
import Derived.Test.YthbpcdoddcacdaaProg
import Derived.BigRegion
import Derived.RegionTactic
import Derived.ChangeAlike
namespace Go.Proofs.Ythbpcdoddcacdaa
open Go.RowKit
set_option linter.unusedVariables false

/-- A row of ints of the call's own: what it holds; how long it may be. -/
abbrev IRow (w : World) (B : Nat) (v : Value) (L : List Nat) : Prop := NRow .i64 w B 3 v L
theorem IRow.cell {w : World} {B g n cap : Nat} {L : List Nat} (h : IRow w B (.slice (some ⟨g, 0, none⟩) n cap) L) {j x : Nat} (hj : L[j]? = some x) : w.cell? ⟨g, j, none⟩ = some (.int .i64 (x : Int)) := by
  have := World.ownsRow.cells h rfl j (.int .i64 (x : Int)) (by rw [List.getElem?_map, hj]; rfl)
  rwa [Addr.add_lit, Nat.zero_add] at this
theorem IRow.len {w : World} {B g n cap : Nat} {L : List Nat} (h : IRow w B (.slice (some ⟨g, 0, none⟩) n cap) L) : n = L.length := by
  rcases h.2 with ⟨h1, _⟩ | ⟨g', cap', cur, hv, _⟩
  · cases h1
  · simp only [Value.slice.injEq] at hv; exact hv.2.1
theorem IRow.free {w : World} {B g n cap : Nat} {L : List Nat} (h : IRow w B (.slice (some ⟨g, 0, none⟩) n cap) L) (j : Nat) : w.frozen? ⟨g, j, none⟩ = false := by
  obtain rfl := h.len
  exact World.ownsRow.frozenAt h j
theorem IRow.store {w : World} {B g n cap : Nat} {L : List Nat} (h : IRow w B (.slice (some ⟨g, 0, none⟩) n cap) L) (j x : Nat) : IRow (w.setCell ⟨g, j, none⟩ (.int .i64 (x : Int))) B (.slice (some ⟨g, 0, none⟩) n cap) (L.set j x) := by
  obtain rfl := h.len
  have := (World.ownsRow.stored h j (.int .i64 (x : Int))).1
  unfold IRow NRow
  rw [List.length_set, List.map_set]
  exact this
theorem IRow.lt {w : World} {B g n cap : Nat} {L : List Nat} (h : IRow w B (.slice (some ⟨g, 0, none⟩) n cap) L) : B ≤ g ∧ g < w.heap.size := World.ownsRow.lt h g rfl
theorem IRow.drewN {w : World} {B : Nat} {v : Value} {L : List Nat} (h : IRow w B v L) (n : Nat) : IRow (w.drewN n) B v L := h
theorem IRow.drew {w : World} {B : Nat} {v : Value} {L : List Nat} (h : IRow w B v L) : IRow w.drew B v L := h
theorem IRow.max {w : World} {B : Nat} {v : Value} {L : List Nat} (h : IRow w B v L) : L.length ≤ 9223372036854775807 := by
  rcases h.2 with ⟨_, h1⟩ | ⟨g, cap, cur, hv, _, _, h1, h2, _⟩
  · omega
  · unfold maxLen at h2; omega

set_option maxHeartbeats 2000000 in
set_option maxRecDepth 100000 in
theorem swapRange_any (P X M Y S L : List Nat) (a b n : Nat) (f : Value) (B g N cap : Nat) (w : World) (hR : IRow w B (.slice (some ⟨g, 0, none⟩) N cap) L) (hL : L = P ++ X ++ M ++ Y ++ S) (hx : X.length = n) (hy : Y.length = n) (ha : P.length = a) (hb : P.length + X.length + M.length = b) :
    Calls Try.prog 140 #[.slice (some ⟨g, 0, none⟩) N cap, .int .i64 (a : Int), .int .i64 (b : Int), .int .i64 (n : Int), f] w fun e w' => e = .returned (.tuple #[]) ∧ IRow w' B (.slice (some ⟨g, 0, none⟩) N cap) (P ++ Y ++ M ++ X ++ S) ∧ Only g w w' := by
  have hmax := hR.max
  have hN := hR.len
  have hl : L.length = a + n + M.length + n + S.length := by rw [hL]; simp only [List.length_append]; omega
  have hbn : b + n ≤ N := by rw [hN]; omega
  have han : a + n ≤ b := by omega
  have hNm : N ≤ 9223372036854775807 := by omega
  have HI := Stow.mk (So.swapInv_zero hL)
  have HR := Stow.mk hR
  have HF := Stow.mk (And.intro hx (And.intro hy (And.intro ha hb)))
  clear hR hL hx hy ha hb hl hN hmax
  go_enter Try.func140, Try.ntmps140
  go_wp2_with fail
  go_loopw [10] (fun v wr => ∃ (i : Nat) (L' : List Nat), v = .int .i64 i ∧ i ≤ n ∧ Stow (So.SwapInv P X M Y S i L') ∧ Stow (IRow wr B (.slice (some ⟨g, 0, none⟩) N cap) L') ∧ Only g w wr) (fun v _ => n - (intOf v).toNat)
  case atStart => exact ⟨0, L, rfl, by omega, HI, HR, Only.refl _ _⟩
  case round =>
    obtain ⟨i, L', rfl, hi, HJ, HW, ho⟩ := hrel
    have HO := Stow.mk ho
    clear ho
    by_cases hlt : i < n
    · obtain ⟨x, y, h1, h2, h3⟩ := So.swapInv_step HF.out.1 HF.out.2.1 HF.out.2.2.1 HF.out.2.2.2 hlt HJ.out
      have c1 := HW.out.cell h1
      have c2 := HW.out.cell h2
      have f1 := HW.out.free (a + i)
      have f2 := HW.out.free (b + i)
      have hii : (i : Int) < n := by omega
      have HS := Stow.mk h3
      have hab : (a + i == b + i) = false := by rw [beq_eq_false_iff_ne]; omega
      have hba : (b + i == a + i) = false := by rw [beq_eq_false_iff_ne]; omega
      clear h1 h2 h3
      go_wp2_with fail
      go_region
      go_wp2_with fail
      exact ⟨⟨i + 1, _, rfl, by omega, HS, ⟨((HW.out.store _ _).store _ _).drew⟩, (HO.out.trans ((Only.set g _ _ _).trans (Only.set g _ _ _))).trans (Only.drewN g _ 1)⟩, by simp [intOf]; omega⟩
    · obtain rfl : i = n := by omega
      have HE : Stow (L' = P ++ Y ++ M ++ X ++ S) := ⟨So.swapInv_end HF.out.1 HF.out.2.1 HJ.out⟩
      have hW := HW.out
      rw [HE.out] at hW
      have HWE := Stow.mk hW
      clear hW
      go_wp2_with fail
      first | go_end0 | refine bodyPost_ret (results_none rfl _ _ _) rfl ?_
      exact ⟨rfl, HWE.out, HO.out⟩

set_option maxHeartbeats 2000000 in
set_option maxRecDepth 100000 in
theorem rotate_any (G L : List Nat) (a m b : Nat) (f : Value) (B g N cap : Nat) (w : World) (hR : IRow w B (.slice (some ⟨g, 0, none⟩) N cap) L) (ham : a < m) (hmb : m < b) (hbN : b ≤ N) (hG : So.RotInv m (m - a) (b - m) L G) :
    Calls Try.prog 123 #[.slice (some ⟨g, 0, none⟩) N cap, .int .i64 (a : Int), .int .i64 (m : Int), .int .i64 (b : Int), f] w fun e w' => e = .returned (.tuple #[]) ∧ IRow w' B (.slice (some ⟨g, 0, none⟩) N cap) G ∧ Only g w w' := by
  have hmax := hR.max
  have hN := hR.len
  have hNm : N ≤ 9223372036854775807 := by omega
  have HR := Stow.mk hR
  have HG := Stow.mk hG
  clear hR hG hmax hN
  have e1 : (m : Int) - (a : Int) = ((m - a : Nat) : Int) := by omega
  have e2 : (b : Int) - (m : Int) = ((b - m : Nat) : Int) := by omega
  have h1 : m - a ≤ N := by omega
  have h2 : b - m ≤ N := by omega
  have h3 : 0 < m - a := by omega
  have h4 : 0 < b - m := by omega
  have h5 : m - a ≤ m := by omega
  have h6 : m + (b - m) ≤ N := by omega
  generalize m - a = i0 at *
  generalize b - m = j0 at *
  have HE1 := Stow.mk (And.intro e1 e2)
  go_enter Try.func123, Try.ntmps123
  go_wp2_with fail
  go_loopw [10, 11] (fun u v wr => ∃ (i j : Nat) (L' : List Nat), u = .int .i64 i ∧ v = .int .i64 j ∧ 0 < i ∧ 0 < j ∧ i ≤ m ∧ m + j ≤ N ∧ Stow (So.RotInv m i j L' G) ∧ Stow (IRow wr B (.slice (some ⟨g, 0, none⟩) N cap) L') ∧ Only g w wr) (fun u v _ => (intOf u).toNat + (intOf v).toNat)
  case atStart => exact ⟨i0, j0, L, rfl, rfl, h3, h4, h5, h6, HG, HR, Only.refl _ _⟩
  case round =>
    obtain ⟨i, j, L', rfl, rfl, hi, hj, him, hjm, HJ, HW, ho⟩ := hrel
    have HO := Stow.mk ho
    clear ho
    rcases Nat.lt_trichotomy j i with hlt | hlt | hlt
    · obtain ⟨P, X, M, Y, S, hL, hP, hX, hY, hM, hnext⟩ := So.rot_left HJ.out hlt
      have K := fun W h => swapRange_any P X M Y S L' (m - i) m j f B g N cap W h hL hX hY hP hM
      have HK := Stow.mk K
      have HN := Stow.mk hnext
      have hne : ((i : Int) != (j : Int)) = true := by rw [bne_iff_ne]; omega
      have hii : (j : Int) < i := by omega
      have e3 : (m : Int) - (i : Int) = ((m - i : Nat) : Int) := by omega
      have e4 : (i : Int) - (j : Int) = ((i - j : Nat) : Int) := by omega
      clear hL hP hX hY hM hnext K
      go_wp2_with fail
      refine (HK.out _ HW.out).mono ?_
      rintro e w1 ⟨rfl, hr1, ho1⟩
      have H1 := Stow.mk (And.intro hr1 (HO.out.trans ho1))
      clear hr1 ho1
      go_wp2_with fail
      exact ⟨⟨i - j, j, _, rfl, rfl, by omega, hj, by omega, hjm, HN, ⟨H1.out.1⟩, H1.out.2⟩, by simp [intOf]; omega⟩
    · subst hlt
      obtain ⟨P, X, M, Y, S, hL, hP, hX, hY, hM, hnext⟩ := So.rot_same HJ.out
      have K := fun W h => swapRange_any P X M Y S L' (m - j) m j f B g N cap W h hL hX hY hP hM
      rw [← hnext] at K
      have HK := Stow.mk K
      have e3 : (m : Int) - (j : Int) = ((m - j : Nat) : Int) := by omega
      clear hL hP hX hY hM hnext K
      go_wp2_with fail
      refine (HK.out _ HW.out).mono ?_
      rintro e w1 ⟨rfl, hr1, ho1⟩
      have H1 := Stow.mk (And.intro hr1 (HO.out.trans ho1))
      clear hr1 ho1
      go_wp2_with fail
      first | go_end0 | refine bodyPost_ret (results_none rfl _ _ _) rfl ?_
      exact ⟨rfl, H1.out.1, H1.out.2⟩
    · obtain ⟨P, X, M, Y, S, hL, hP, hX, hY, hM, hnext⟩ := So.rot_right HJ.out hlt
      have K := fun W h => swapRange_any P X M Y S L' (m - i) (m + j - i) i f B g N cap W h hL hX hY hP hM
      have HK := Stow.mk K
      have HN := Stow.mk hnext
      have hne : ((i : Int) != (j : Int)) = true := by rw [bne_iff_ne]; omega
      have hii : ¬ (j : Int) < i := by omega
      have e3 : (m : Int) - (i : Int) = ((m - i : Nat) : Int) := by omega
      have e4 : (j : Int) - (i : Int) = ((j - i : Nat) : Int) := by omega
      have e5 : (m : Int) + (j : Int) - (i : Int) = ((m + j - i : Nat) : Int) := by omega
      clear hL hP hX hY hM hnext K
      go_wp2_with fail
      refine (HK.out _ HW.out).mono ?_
      rintro e w1 ⟨rfl, hr1, ho1⟩
      have H1 := Stow.mk (And.intro hr1 (HO.out.trans ho1))
      clear hr1 ho1
      go_wp2_with fail
      exact ⟨⟨i, j - i, _, rfl, rfl, hi, by omega, him, by omega, HN, ⟨H1.out.1⟩, H1.out.2⟩, by simp [intOf]; omega⟩
end Go.Proofs.Ythbpcdoddcacdaa
