/- Walk of slices.Reverse at ints. Condition: a row of the call's own. -/
import Derived.Test.YthbpcdoddcacdaaTrKids
namespace Go.Proofs.Ythbpcdoddcacdaa
open Go.RowKit
set_option linter.unusedVariables false

namespace Tr
/-- A list that is turned round, so far. -/
def RevInv (L : List Nat) (i : Nat) (cur : List Nat) : Prop := ∃ A M C : List Nat, L = A ++ M ++ C ∧ A.length = i ∧ C.length = i ∧ cur = C.reverse ++ M ++ A.reverse
theorem rev_zero (L : List Nat) : RevInv L 0 L := ⟨[], L, [], by simp, rfl, rfl, by simp⟩
theorem rev_end {L cur : List Nat} {i : Nat} (h : RevInv L i cur) (hi : L.length ≤ 2 * i + 1) : cur = L.reverse := by
  obtain ⟨A, M, C, hL, hA, hC, hc⟩ := h
  have hm : M.length ≤ 1 := by have := congrArg List.length hL; simp only [List.length_append] at this; omega
  have hr : M.reverse = M := by
    match M, hm with
    | [], _ => rfl
    | [x], _ => rfl
  rw [hc, hL, List.reverse_append, List.reverse_append, hr]
  simp
theorem rev_step {L cur : List Nat} {i j : Nat} (h : RevInv L i cur) (hj : i + j + 1 = L.length) (hij : i < j) : ∃ x y, cur[i]? = some x ∧ cur[j]? = some y ∧ RevInv L (i + 1) ((cur.set i y).set j x) := by
  obtain ⟨A, M, C, hL, hA, hC, hc⟩ := h
  have hm : M.length = j - i + 1 := by have := congrArg List.length hL; simp only [List.length_append] at this; omega
  obtain ⟨x, M1, hM1⟩ : ∃ x M1, M = x :: M1 := by
    match M, hm with
    | x :: M1, _ => exact ⟨x, M1, rfl⟩
  have hm1 : M1 ≠ [] := by intro h; rw [hM1, h] at hm; simp at hm; omega
  have hM2 : M1 = M1.dropLast ++ [M1.getLast hm1] := (List.dropLast_concat_getLast hm1).symm
  have hdl : M1.dropLast.length = j - i - 1 := by rw [List.length_dropLast]; rw [hM1] at hm; simp at hm; omega
  obtain ⟨h1, h2, h3⟩ := So.swap_two (A := C.reverse) (B := M1.dropLast) (C := A.reverse) (x := x) (y := M1.getLast hm1) (i := i) (j := j) (L := cur) (by simp [hC]) (by omega) (by
    rw [hc, hM1]
    conv => lhs; rw [hM2]
    simp only [List.append_assoc, List.cons_append, List.nil_append])
  refine ⟨x, M1.getLast hm1, h1, h2, A ++ [x], M1.dropLast, M1.getLast hm1 :: C, ?_, by simp [hA], by simp [hC], ?_⟩
  · rw [hL, hM1]
    conv => lhs; rw [hM2]
    simp only [List.append_assoc, List.cons_append, List.nil_append]
  · rw [h3]
    simp
end Tr

set_option maxHeartbeats 2000000 in
set_option maxRecDepth 100000 in
theorem reverse_any (L : List Nat) (B g N cap : Nat) (w : World) (hR : IRow w B (.slice (some ⟨g, 0, none⟩) N cap) L) :
    Calls Try.prog 103 #[.slice (some ⟨g, 0, none⟩) N cap] w fun e w' => e = .returned (.tuple #[]) ∧ IRow w' B (.slice (some ⟨g, 0, none⟩) N cap) L.reverse ∧ Only g w w' := by
  have hmax := hR.max
  have hN := hR.len
  have HR := Stow.mk hR
  have HI := Stow.mk (Tr.rev_zero L)
  have HN := Stow.mk hN
  have hNm : N ≤ 9223372036854775807 := by omega
  clear hR hmax hN
  by_cases h0 : N = 0
  · have HE : Stow (L.reverse = L) := ⟨by rw [show L = [] from List.eq_nil_of_length_eq_zero (by have := HN.out; omega)]; rfl⟩
    subst h0
    rw [HE.out]
    go_enter Try.func103, Try.ntmps103
    go_wp2_with fail
    go_loopw [2, 3] (fun u v wr => u = .int .i64 0 ∧ v = .int .i64 (-1) ∧ wr = w) (fun _ _ _ => 0)
    case atStart => exact ⟨rfl, rfl, rfl⟩
    case round =>
      obtain ⟨rfl, rfl, rfl⟩ := hrel
      go_wp2_with fail
      first | go_end0 | refine bodyPost_ret (results_none rfl _ _ _) rfl ?_
      exact ⟨rfl, HR.out, Only.refl _ _⟩
  have hN1 : (N : Int) - 1 = ((N - 1 : Nat) : Int) := by omega
  go_enter Try.func103, Try.ntmps103
  go_wp2_with fail
  go_loopw [2, 3] (fun u v wr => ∃ (i : Nat) (L' : List Nat), u = .int .i64 (i : Int) ∧ v = .int .i64 ((N : Int) - 1 - i) ∧ 2 * i ≤ N ∧ Stow (Tr.RevInv L i L') ∧ Stow (IRow wr B (.slice (some ⟨g, 0, none⟩) N cap) L') ∧ Only g w wr) (fun u _ _ => N - (intOf u).toNat)
  case atStart => exact ⟨0, L, rfl, by simp; omega, by omega, HI, HR, Only.refl _ _⟩
  case round =>
    obtain ⟨i, L', rfl, rfl, hi, HJ, HW, ho⟩ := hrel
    have HO := Stow.mk ho
    clear ho
    by_cases hlt : 2 * i + 1 < N
    · have hij : (i : Int) < (N : Int) - 1 - i := by omega
      obtain ⟨j, hj⟩ : ∃ j, N - 1 - i = j := ⟨_, rfl⟩
      have hje : ((N - 1 : Nat) : Int) - (i : Int) = (j : Int) := by omega
      have hje' : (N : Int) - 1 - (i : Int) = (j : Int) := by omega
      rw [hje'] at hij ⊢
      obtain ⟨x, y, h1, h2, h3⟩ := Tr.rev_step HJ.out (j := j) (by have := HN.out; omega) (by omega)
      have c1 := HW.out.cell h1
      have c2 := HW.out.cell h2
      have f1 := HW.out.free i
      have f2 := HW.out.free j
      have HS := Stow.mk h3
      have hjN : j < N := by omega
      have HJE := Stow.mk (And.intro hj hje')
      clear h1 h2 h3 hj hje'
      go_wp2_with fail
      go_region
      go_wp2_with fail
      have hj2 := HJE.out.1
      exact ⟨⟨i + 1, _, rfl, by have := HJE.out.2; congr 1; omega, by omega, HS, ⟨((HW.out.store _ _).store _ _).drew⟩, (HO.out.trans ((Only.set g _ _ _).trans (Only.set g _ _ _))).trans (Only.drewN g _ 1)⟩, by simp [intOf]; omega⟩
    · have hij : ¬ (i : Int) < (N : Int) - 1 - i := by omega
      have HE : Stow (L' = L.reverse) := ⟨Tr.rev_end HJ.out (by have := HN.out; omega)⟩
      have hW := HW.out
      rw [HE.out] at hW
      have HWE := Stow.mk hW
      clear hW
      obtain ⟨j, hj⟩ : ∃ j : Int, (N : Int) - 1 - i = j := ⟨_, rfl⟩
      rw [hj] at hij ⊢
      clear hj
      go_wp2_with fail
      first | go_end0 | refine bodyPost_ret (results_none rfl _ _ _) rfl ?_
      exact ⟨rfl, HWE.out, HO.out⟩
set_option maxHeartbeats 2000000 in
set_option maxRecDepth 100000 in
theorem reverseNil_any (w : World) : Calls Try.prog 103 #[.slice none 0 0] w fun e w' => e = .returned (.tuple #[]) ∧ w' = w := by
  go_enter Try.func103, Try.ntmps103
  go_wp2_with fail
  go_loopw [2, 3] (fun u v wr => u = .int .i64 0 ∧ v = .int .i64 (-1) ∧ wr = w) (fun _ _ _ => 0)
  case atStart => exact ⟨rfl, rfl, rfl⟩
  case round =>
    obtain ⟨rfl, rfl, rfl⟩ := hrel
    go_wp2_with fail
    first | go_end0 | refine bodyPost_ret (results_none rfl _ _ _) rfl ?_
    exact ⟨rfl, rfl⟩
end Go.Proofs.Ythbpcdoddcacdaa
