/- Walks of the reference's Same at nodes, and of the law's known. Conditions: slices' own. -/
import Derived.Test.YthbpcdoddcacdaaTrRefA
namespace Go.Proofs.Ythbpcdoddcacdaa
open Go.RowKit
set_option linter.unusedVariables false

theorem sl_held {w : World} {g c : Nat} {L : List (List Value)} {cs : List Value} (h : Held w g cs) (hcs : cs = L.flatten) (hL : ∀ x ∈ L, x.length = c) (hm : L.length ≤ 1000000) : SlR w c (.slice (some ⟨g, 0, none⟩) L.length L.length) L := by
  subst hcs
  refine ⟨_, L.length, rfl, Nat.le_refl _, by unfold maxLen; omega, fun _ => ⟨g, 0, rfl, h.lt, fun i x hi j u hu => ?_⟩⟩
  rw [Nat.zero_add]
  exact h.cell (flat_at hL i x hi j u hu)
/-- A node. -/
structure Nv where
  d : Nat
  name : List UInt8
  st : Int
  sh : Bool
def Nv.cells (x : Nv) : List Value := [.int .i64 (x.d : Nat), .string (bs x.name), .int .i64 x.st, .bool x.sh]
namespace Tr
def node (L : List Sp) (p : Nat × Nat) : Nv := ⟨p.2, (sp L p.1).name, (sp L p.1).st, (sp L p.1).sh⟩
def nodes (L : List Sp) (at_ : Nat) : List Nv := (walk L at_).map (node L)
end Tr
abbrev NvR (w : World) (A : Option Addr) (cap : Nat) (M : List Nv) : Prop := SlR w 4 (.slice A M.length cap) (M.map Nv.cells)
theorem drow_nvr {L : List Sp} {w : World} {B : Nat} {A : Option Addr} {n cap : Nat} {R : List (Nat × Nat)} (h : DRow L w B (.slice A n cap) R) : NvR w A cap (R.map (Tr.node L)) ∧ n = R.length := by
  have hn : n = R.length := by
    rcases h.2 with ⟨h1, h2⟩ | ⟨g, cp, cur, hv, _⟩
    · simp only [Value.slice.injEq] at h1; omega
    · simp only [Value.slice.injEq] at hv; exact hv.2.1
  subst hn
  refine ⟨?_, rfl⟩
  have e : (R.map (Tr.node L)).length = R.length := by simp
  rw [NvR, e]
  refine SlR.of_own h (by simp) fun i x hi j u hu => ?_
  have e2 : R.flatMap (ndc L) = ((R.map (Tr.node L)).map Nv.cells).flatten := by rw [List.map_map, List.flatMap_def]; rfl
  rw [e2]
  exact flat_at (c := 4) (fun x hx => by obtain ⟨m, _, rfl⟩ := List.mem_map.1 hx; rfl) i x hi j u hu

set_option maxHeartbeats 1000000 in
set_option maxRecDepth 100000 in
theorem ndSame_any (M : List Nv) (A A' : Option Addr) (cap cap' : Nat) (w : World) (hS : NvR w A cap M) (hS' : NvR w A' cap' M) :
    Calls Try.prog 34 #[.slice A M.length cap, .slice A' M.length cap'] w fun e w' => e = .returned (.bool true) ∧ Below w.heap.size w w' := by
  have HS := Stow.mk hS
  have HS' := Stow.mk hS'
  have hlen := hS.len
  simp only [List.length_map] at hlen
  clear hS hS'
  go_enter Try.func34, Try.ntmps34
  go_wp2_with fail
  go_loopw [5] (fun v wr => ∃ j : Nat, v = .int .i64 j ∧ j ≤ M.length ∧ Below w.heap.size w wr) (fun v _ => M.length - (intOf v).toNat)
  case atStart => exact ⟨0, rfl, by omega, Below.self _⟩
  case round =>
    obtain ⟨j, rfl, hj, hbr⟩ := hrel
    by_cases hlt : j < M.length
    · have hS1 := HS.out.keep hbr
      have hS2 := HS'.out.keep hbr
      obtain ⟨b, off, rfl, hb, _⟩ := hS1.open (by simp; omega)
      obtain ⟨b', off', rfl, hb', _⟩ := hS2.open (by simp; omega)
      have hi : (M.map Nv.cells)[j]? = some (M[j].cells) := by rw [List.getElem?_map, List.getElem?_eq_getElem hlt]; rfl
      obtain ⟨_, c1⟩ := hS1.cells hi
      obtain ⟨_, c2⟩ := hS2.cells hi
      obtain ⟨s, hs⟩ : ∃ s, M[j] = s := ⟨_, rfl⟩
      rw [hs] at c1 c2
      obtain ⟨x, y, z, t⟩ := s
      have q0 := c1 0 _ rfl
      have q1 := c1 1 _ rfl
      have q2 := c1 2 _ rfl
      have q3 := c1 3 _ rfl
      have p0 := c2 0 _ rfl
      have p1 := c2 1 _ rfl
      have p2 := c2 2 _ rfl
      have p3 := c2 3 _ rfl
      simp only [Nat.add_zero] at q0 p0
      have hji : (j : Int) < M.length := by omega
      clear c1 c2 hi hs hS1 hS2
      go_wp2_with fail
      go_quiet (fail)
      go_wp2_with fail
      exact ⟨⟨j + 1, rfl, by omega, Below.drewN' hbr _⟩, by simp [intOf]; omega⟩
    · obtain rfl : j = M.length := by omega
      go_wp2_with fail
      go_ret
      exact ⟨rfl, hbr⟩

def k31 : List Sp := [⟨0, 0, 2, 1, [98], 0, 1, 0, false, 0, 0⟩, ⟨0, 0, 1, 0, [97], 0, 0, 0, false, 0, 0⟩, ⟨0, 0, 3, 1, [99], 0, 0, 0, false, 0, 0⟩, ⟨0, 0, 4, 9, [], 0, 0, 0, false, 0, 0⟩, ⟨0, 0, 5, 5, [], 0, 0, 0, false, 0, 0⟩, ⟨0, 0, 6, 2, [100], 0, 0, 0, false, 0, 0⟩]
theorem k31r : Tr.roots k31 = [1] := by decide +kernel
theorem k31k : Tr.kids k31 1 = [2, 0] := by decide +kernel
theorem k31o : Tr.orphans k31 = [3] := by decide +kernel
theorem k31w : Tr.walk k31 1 = [(1, 0), (2, 1), (0, 1), (5, 2)] := by decide +kernel
theorem k31l : Tr.lost k31 = [4] := by decide +kernel
def k31m : List Nv := [⟨0, [97], 0, false⟩, ⟨1, [99], 0, false⟩, ⟨1, [98], 0, false⟩, ⟨2, [100], 0, false⟩]
theorem k31me : [(1, 0), (2, 1), (0, 1), (5, 2)].map (Tr.node k31) = k31m := rfl
theorem k31n : Tr.walk k31 9 = [] := by decide +kernel
theorem ir_lit (w : World) (L : List Nat) (hL : L.length ≤ 1000000) : IR (w.alloc (.cells (L.map fun n : Nat => Value.int .i64 (n : Int)).toArray 3)) (some ⟨w.heap.size, 0, none⟩) L.length L := by
  have h := sl_held (c := 1) (L := L.map fun n : Nat => [Value.int .i64 (n : Int)]) (Held.made w (L.map fun n : Nat => Value.int .i64 (n : Int)) 3) (by
    induction L with
    | nil => rfl
    | cons a t ih => simp only [List.map_cons, List.flatten_cons]; rw [ih (by simp at hL; omega)]; rfl) (by intro x hx; obtain ⟨m, _, rfl⟩ := List.mem_map.1 hx; rfl) (by simpa using hL)
  unfold IR
  simpa using h

set_option maxHeartbeats 4000000 in
set_option maxRecDepth 100000 in
theorem known31_any (w : World) : Calls Try.prog 22 #[] w fun e w' => e = .returned (.bool true) ∧ Below w.heap.size w w' := by
  have HS : Stow (SpR (w.alloc (.cells (k31.map Sp.cells).flatten.toArray 66)) (some ⟨w.heap.size, 0, none⟩) 6 k31) := ⟨sl_held (L := k31.map Sp.cells) (Held.made w _ _) rfl (by intro x hx; obtain ⟨m, _, rfl⟩ := List.mem_map.1 hx; rfl) (by decide)⟩
  have HB : Stow (Below w.heap.size w (w.alloc (.cells (k31.map Sp.cells).flatten.toArray 66))) := ⟨Below.alloc' (Below.self w) _⟩
  have h6 : k31.length = 6 := rfl
  have KR := fun W h => trRoots_any (some ⟨w.heap.size, 0, none⟩) 6 k31 W h (by decide)
  have KK := fun W h => trKids_any (some ⟨w.heap.size, 0, none⟩) 6 k31 1 W h (by decide)
  have KO := fun W h => trOrphans_any (some ⟨w.heap.size, 0, none⟩) 6 k31 W h (by decide)
  have KW := fun W h => trWalkW_any (some ⟨w.heap.size, 0, none⟩) 6 k31 1 W h (by decide)
  have KL := fun W h => trLost_any (some ⟨w.heap.size, 0, none⟩) 6 k31 W h (by decide)
  have KN := fun W h => trNodes_any (some ⟨w.heap.size, 0, none⟩) 6 k31 1 W h (by decide)
  have K9 := fun W h => trWalkW_any (some ⟨w.heap.size, 0, none⟩) 6 k31 9 W h (by decide)
  have HKR := Stow.mk KR
  have HKK := Stow.mk KK
  have HKO := Stow.mk KO
  have HKW := Stow.mk KW
  have HKL := Stow.mk KL
  have HKN := Stow.mk KN
  have HK9 := Stow.mk K9
  clear KR KK KO KW KL KN K9 h6
  go_enter Try.func22, Try.ntmps22
  go_wp2_with fail
  refine (HKR.out _ HS.out).mono ?_
  rintro e wa ⟨va, rfl, hra, hba⟩
  rw [k31r] at hra
  obtain ⟨Aa, ca, rfl⟩ := own_form hra
  have hSa := HS.out.keep hba
  have HI1 := Stow.mk (IRow.ir hra)
  have HBa := Stow.mk (HB.out.trans (hba.mono HB.out.size))
  have HSa := Stow.mk hSa
  clear hra hba hSa HS HB
  have HI2 := Stow.mk (ir_lit wa [1] (by decide))
  have HI3 : Stow (IR (wa.alloc (.cells (([1] : List Nat).map fun n : Nat => Value.int .i64 (n : Int)).toArray 3)) Aa ca [1]) := ⟨SlR.alloc HI1.out _⟩
  have HB2 : Stow (Below w.heap.size w (wa.alloc (.cells (([1] : List Nat).map fun n : Nat => Value.int .i64 (n : Int)).toArray 3))) := ⟨HBa.out.alloc HBa.out.size _⟩
  have HS2 : Stow (SpR (wa.alloc (.cells (([1] : List Nat).map fun n : Nat => Value.int .i64 (n : Int)).toArray 3)) (some ⟨w.heap.size, 0, none⟩) 6 k31) := ⟨SlR.alloc HSa.out _⟩
  clear HI1 HBa HSa
  go_wp2_with fail
  refine (ints_any [1] Aa (some ⟨wa.heap.size, 0, none⟩) ca _ _ HI3.out HI2.out).mono ?_
  rintro e wb ⟨rfl, hbb⟩
  have HS := Stow.mk (HS2.out.keep hbb)
  have HB := Stow.mk (HB2.out.trans (hbb.mono HB2.out.size))
  clear HI2 HI3 HB2 HS2 hbb
  go_wp2_with fail
  refine (HKK.out _ HS.out).mono ?_
  rintro e wa ⟨va, rfl, hra, hba⟩
  rw [k31k] at hra
  obtain ⟨Aa, ca, rfl⟩ := own_form hra
  have hSa := HS.out.keep hba
  have HI1 := Stow.mk (IRow.ir hra)
  have HBa := Stow.mk (HB.out.trans (hba.mono HB.out.size))
  have HSa := Stow.mk hSa
  clear hra hba hSa HS HB
  have HI2 := Stow.mk (ir_lit wa [2, 0] (by decide))
  have HI3 : Stow (IR (wa.alloc (.cells (([2, 0] : List Nat).map fun n : Nat => Value.int .i64 (n : Int)).toArray 3)) Aa ca [2, 0]) := ⟨SlR.alloc HI1.out _⟩
  have HB2 : Stow (Below w.heap.size w (wa.alloc (.cells (([2, 0] : List Nat).map fun n : Nat => Value.int .i64 (n : Int)).toArray 3))) := ⟨HBa.out.alloc HBa.out.size _⟩
  have HS2 : Stow (SpR (wa.alloc (.cells (([2, 0] : List Nat).map fun n : Nat => Value.int .i64 (n : Int)).toArray 3)) (some ⟨w.heap.size, 0, none⟩) 6 k31) := ⟨SlR.alloc HSa.out _⟩
  clear HI1 HBa HSa
  go_wp2_with fail
  refine (ints_any [2, 0] Aa (some ⟨wa.heap.size, 0, none⟩) ca _ _ HI3.out HI2.out).mono ?_
  rintro e wb ⟨rfl, hbb⟩
  have HS := Stow.mk (HS2.out.keep hbb)
  have HB := Stow.mk (HB2.out.trans (hbb.mono HB2.out.size))
  clear HI2 HI3 HB2 HS2 hbb
  go_wp2_with fail
  refine (HKO.out _ HS.out).mono ?_
  rintro e wa ⟨va, rfl, hra, hba⟩
  rw [k31o] at hra
  obtain ⟨Aa, ca, rfl⟩ := own_form hra
  have hSa := HS.out.keep hba
  have HI1 := Stow.mk (IRow.ir hra)
  have HBa := Stow.mk (HB.out.trans (hba.mono HB.out.size))
  have HSa := Stow.mk hSa
  clear hra hba hSa HS HB
  have HI2 := Stow.mk (ir_lit wa [3] (by decide))
  have HI3 : Stow (IR (wa.alloc (.cells (([3] : List Nat).map fun n : Nat => Value.int .i64 (n : Int)).toArray 3)) Aa ca [3]) := ⟨SlR.alloc HI1.out _⟩
  have HB2 : Stow (Below w.heap.size w (wa.alloc (.cells (([3] : List Nat).map fun n : Nat => Value.int .i64 (n : Int)).toArray 3))) := ⟨HBa.out.alloc HBa.out.size _⟩
  have HS2 : Stow (SpR (wa.alloc (.cells (([3] : List Nat).map fun n : Nat => Value.int .i64 (n : Int)).toArray 3)) (some ⟨w.heap.size, 0, none⟩) 6 k31) := ⟨SlR.alloc HSa.out _⟩
  clear HI1 HBa HSa
  go_wp2_with fail
  refine (ints_any [3] Aa (some ⟨wa.heap.size, 0, none⟩) ca _ _ HI3.out HI2.out).mono ?_
  rintro e wb ⟨rfl, hbb⟩
  have HS := Stow.mk (HS2.out.keep hbb)
  have HB := Stow.mk (HB2.out.trans (hbb.mono HB2.out.size))
  clear HI2 HI3 HB2 HS2 hbb
  go_wp2_with fail
  refine (HKW.out _ HS.out).mono ?_
  rintro e wa ⟨va, rfl, hra, hba⟩
  rw [show (Tr.walk k31 1).map Prod.fst = [1, 2, 0, 5] by rw [k31w]; rfl] at hra
  obtain ⟨Aa, ca, rfl⟩ := own_form hra
  have hSa := HS.out.keep hba
  have HI1 := Stow.mk (IRow.ir hra)
  have HBa := Stow.mk (HB.out.trans (hba.mono HB.out.size))
  have HSa := Stow.mk hSa
  clear hra hba hSa HS HB
  have HI2 := Stow.mk (ir_lit wa [1, 2, 0, 5] (by decide))
  have HI3 : Stow (IR (wa.alloc (.cells (([1, 2, 0, 5] : List Nat).map fun n : Nat => Value.int .i64 (n : Int)).toArray 3)) Aa ca [1, 2, 0, 5]) := ⟨SlR.alloc HI1.out _⟩
  have HB2 : Stow (Below w.heap.size w (wa.alloc (.cells (([1, 2, 0, 5] : List Nat).map fun n : Nat => Value.int .i64 (n : Int)).toArray 3))) := ⟨HBa.out.alloc HBa.out.size _⟩
  have HS2 : Stow (SpR (wa.alloc (.cells (([1, 2, 0, 5] : List Nat).map fun n : Nat => Value.int .i64 (n : Int)).toArray 3)) (some ⟨w.heap.size, 0, none⟩) 6 k31) := ⟨SlR.alloc HSa.out _⟩
  clear HI1 HBa HSa
  go_wp2_with fail
  refine (ints_any [1, 2, 0, 5] Aa (some ⟨wa.heap.size, 0, none⟩) ca _ _ HI3.out HI2.out).mono ?_
  rintro e wb ⟨rfl, hbb⟩
  have HS := Stow.mk (HS2.out.keep hbb)
  have HB := Stow.mk (HB2.out.trans (hbb.mono HB2.out.size))
  clear HI2 HI3 HB2 HS2 hbb
  go_wp2_with fail
  refine (HKL.out _ HS.out).mono ?_
  rintro e wa ⟨va, rfl, hra, hba⟩
  rw [k31l] at hra
  obtain ⟨Aa, ca, rfl⟩ := own_form hra
  have hSa := HS.out.keep hba
  have HI1 := Stow.mk (IRow.ir hra)
  have HBa := Stow.mk (HB.out.trans (hba.mono HB.out.size))
  have HSa := Stow.mk hSa
  clear hra hba hSa HS HB
  have HI2 := Stow.mk (ir_lit wa [4] (by decide))
  have HI3 : Stow (IR (wa.alloc (.cells (([4] : List Nat).map fun n : Nat => Value.int .i64 (n : Int)).toArray 3)) Aa ca [4]) := ⟨SlR.alloc HI1.out _⟩
  have HB2 : Stow (Below w.heap.size w (wa.alloc (.cells (([4] : List Nat).map fun n : Nat => Value.int .i64 (n : Int)).toArray 3))) := ⟨HBa.out.alloc HBa.out.size _⟩
  have HS2 : Stow (SpR (wa.alloc (.cells (([4] : List Nat).map fun n : Nat => Value.int .i64 (n : Int)).toArray 3)) (some ⟨w.heap.size, 0, none⟩) 6 k31) := ⟨SlR.alloc HSa.out _⟩
  clear HI1 HBa HSa
  go_wp2_with fail
  refine (ints_any [4] Aa (some ⟨wa.heap.size, 0, none⟩) ca _ _ HI3.out HI2.out).mono ?_
  rintro e wb ⟨rfl, hbb⟩
  have HS := Stow.mk (HS2.out.keep hbb)
  have HB := Stow.mk (HB2.out.trans (hbb.mono HB2.out.size))
  clear HI2 HI3 HB2 HS2 hbb
  go_wp2_with fail
  refine (HKN.out _ HS.out).mono ?_
  rintro e wa ⟨va, rfl, hra, hba⟩
  rw [k31w] at hra
  obtain ⟨Aa, ca, rfl⟩ := own_form hra
  have hND := (drow_nvr hra).1
  rw [k31me] at hND
  have HN1 := Stow.mk hND
  have HBa := Stow.mk (HB.out.trans (hba.mono HB.out.size))
  have HSa := Stow.mk (HS.out.keep hba)
  clear hra hba HS HB hND
  have HN2 : Stow (NvR (wa.alloc (.cells (k31m.map Nv.cells).flatten.toArray 53)) (some ⟨wa.heap.size, 0, none⟩) 4 k31m) := ⟨sl_held (L := k31m.map Nv.cells) (Held.made wa _ _) rfl (by intro x hx; obtain ⟨m, _, rfl⟩ := List.mem_map.1 hx; rfl) (by decide)⟩
  have HN3 : Stow (NvR (wa.alloc (.cells (k31m.map Nv.cells).flatten.toArray 53)) Aa ca k31m) := ⟨SlR.alloc HN1.out _⟩
  have HB2 : Stow (Below w.heap.size w (wa.alloc (.cells (k31m.map Nv.cells).flatten.toArray 53))) := ⟨HBa.out.alloc HBa.out.size _⟩
  have HS2 : Stow (SpR (wa.alloc (.cells (k31m.map Nv.cells).flatten.toArray 53)) (some ⟨w.heap.size, 0, none⟩) 6 k31) := ⟨SlR.alloc HSa.out _⟩
  clear HN1 HBa HSa
  go_wp2_with fail
  refine (ndSame_any k31m Aa (some ⟨wa.heap.size, 0, none⟩) ca _ _ HN3.out HN2.out).mono ?_
  rintro e wb ⟨rfl, hbb⟩
  have HS := Stow.mk (HS2.out.keep hbb)
  have HB := Stow.mk (HB2.out.trans (hbb.mono HB2.out.size))
  clear HN2 HN3 HB2 HS2 hbb
  go_wp2_with fail
  refine (HK9.out _ HS.out).mono ?_
  rintro e wc ⟨vc, rfl, hrc, hbc⟩
  rw [k31n] at hrc
  obtain ⟨Ac, cc, rfl⟩ := own_form hrc
  have HBc := Stow.mk (HB.out.trans (hbc.mono HB.out.size))
  clear hrc hbc
  go_wp2_with fail
  go_ret
  exact ⟨rfl, HBc.out⟩
end Go.Proofs.Ythbpcdoddcacdaa
