/- Walks of what the laws ask of headers (Few), and of the reference's Same on headers. Conditions: a slice's own; texts not longer than 2^47. -/
import Derived.Test.YtfbhdkkmcfnghaaGreatDoorMsCheck
import Derived.Test.YtfbhdkkmcfnghaaGreatDoorFewQ
namespace Go.Proofs.YtfbhdkkmcfnghaaGreatDoor
open Go.RowKit
set_option linter.unusedVariables false

def fewH (L : List Hd) : Bool := decide (L.length ≤ 60) && L.all fun m => decide (m.1.length + m.2.length ≤ 400)

set_option maxHeartbeats 1000000 in
set_option maxRecDepth 100000 in
theorem few04_any (L : List Hd) (A : Option Addr) (cap : Nat) (w : World) (hS : HdR w A cap L) :
    Calls Tryz.prog 8 #[.slice A L.length cap] w fun e w' => e = .returned (.bool (fewH L)) ∧ Below w.heap.size w w' := by
  have HS := Stow.mk hS.slr
  have HF := Stow.mk hS.few
  have hlen := hS.slr.len
  simp only [List.length_map] at hlen
  clear hS
  by_cases h60 : 60 < L.length
  · have HB : Stow (fewH L = false) := ⟨by simp [fewH]; omega⟩
    go_enter Tryz.func8, Tryz.ntmps8
    go_wp2_with fail
    go_ret
    refine ⟨by rw [HB.out]; rfl, ?_⟩
    (repeat (first | exact Below.self _ | refine Below.alloc' ?_ _ | refine Below.drew ?_ | refine Below.drewN' ?_ _ | (refine Below.call ?_ (by assumption))))
  have HB : Stow (fewH L = L.all fun m => decide (m.1.length + m.2.length ≤ 400)) := ⟨by simp [fewH]; omega⟩
  go_enter Tryz.func8, Tryz.ntmps8
  go_wp2_with fail
  go_loopw [3] (fun v wr => ∃ j : Nat, v = .int .i64 j ∧ j ≤ L.length ∧ Stow ((L.take j).all (fun m => decide (m.1.length + m.2.length ≤ 400)) = true) ∧ Below w.heap.size w wr) (fun v _ => L.length - (intOf v).toNat)
  case atStart => exact ⟨0, rfl, by omega, ⟨rfl⟩, Below.self _⟩
  case round =>
    obtain ⟨j, rfl, hj, HJ, hbr⟩ := hrel
    by_cases hlt : j < L.length
    · obtain ⟨b, off, rfl, hblt, _⟩ := HS.out.open (by simp; omega)
      have hsp := head_at (HS.out.keep hbr) hlt
      have hff := HF.out _ (List.getElem_mem hlt)
      obtain ⟨s, hs⟩ : ∃ s, L[j] = s := ⟨_, rfl⟩
      have HSJ := Stow.mk hs
      rw [hs] at hsp hff
      clear hs
      obtain ⟨x, y⟩ := s
      obtain ⟨hltb, q0, q1⟩ := hsp
      simp only at q0 q1 hff
      obtain ⟨hx, hy⟩ := hff
      have hji : (j : Int) < L.length := by omega
      have HBR := Stow.mk hbr
      clear hbr
      by_cases h400 : 400 < x.length + y.length
      · have HBF : Stow (fewH L = false) := ⟨by rw [HB.out]; exact allp_false_of hlt (by rw [HSJ.out]; simp; omega)⟩
        have hi4 : (400 : Int) < x.length + y.length := by omega
        go_wp2_with fail
        go_quiet (fail)
        go_wp2_with fail
        go_ret
        exact ⟨by rw [HBF.out]; rfl, Below.drewN' HBR.out _⟩
      · have hi4 : ¬ (400 : Int) < x.length + y.length := by omega
        have HN : Stow ((L.take (j + 1)).all (fun m => decide (m.1.length + m.2.length ≤ 400)) = true) := ⟨allp_take_succ hlt HJ.out (by rw [HSJ.out]; simp; omega)⟩
        go_wp2_with fail
        go_quiet (fail)
        go_wp2_with fail
        exact ⟨⟨j + 1, rfl, by omega, HN, Below.drewN' HBR.out _⟩, by simp [intOf]; omega⟩
    · obtain rfl : j = L.length := by omega
      have h := HJ.out
      rw [List.take_length] at h
      have HN : Stow (fewH L = true) := ⟨by rw [HB.out]; exact h⟩
      go_wp2_with fail
      go_ret
      exact ⟨by rw [HN.out]; rfl, hbr⟩

set_option maxHeartbeats 1000000 in
set_option maxRecDepth 100000 in
theorem hdSame_any (L : List Hd) (v v' : Value) (w : World) (hS : SlR w 2 v (L.map Hd.cells)) (hS' : SlR w 2 v' (L.map Hd.cells)) :
    Calls Tryz.prog 14 #[v, v'] w fun e w' => e = .returned (.bool true) ∧ Below w.heap.size w w' := by
  obtain ⟨A, cap, rfl, _⟩ := hS.form
  obtain ⟨A', cap', rfl, _⟩ := hS'.form
  simp only [List.length_map] at *
  have HS := Stow.mk hS
  have HS' := Stow.mk hS'
  have hlen := hS.len
  simp only [List.length_map] at hlen
  clear hS hS'
  rename_i _ _
  go_enter Tryz.func14, Tryz.ntmps14
  go_wp2_with fail
  go_loopw [5] (fun v wr => ∃ j : Nat, v = .int .i64 j ∧ j ≤ L.length ∧ Below w.heap.size w wr) (fun v _ => L.length - (intOf v).toNat)
  case atStart => exact ⟨0, rfl, by omega, Below.self _⟩
  case round =>
    obtain ⟨j, rfl, hj, hbr⟩ := hrel
    by_cases hlt : j < L.length
    · obtain ⟨b, off, rfl, hblt, _⟩ := HS.out.open (by simp; omega)
      obtain ⟨b', off', rfl, hblt', _⟩ := HS'.out.open (by simp; omega)
      have hsp := head_at (HS.out.keep hbr) hlt
      have hsp' := head_at (HS'.out.keep hbr) hlt
      obtain ⟨s, hs⟩ : ∃ s, L[j] = s := ⟨_, rfl⟩
      rw [hs] at hsp hsp'
      clear hs
      obtain ⟨x, y⟩ := s
      obtain ⟨hltb, q0, q1⟩ := hsp
      obtain ⟨hltb', p0, p1⟩ := hsp'
      simp only at q0 q1 p0 p1
      have hji : (j : Int) < L.length := by omega
      go_wp2_with fail
      go_quiet (fail)
      go_wp2_with fail
      exact ⟨⟨j + 1, rfl, by omega, Below.drewN' hbr _⟩, by simp [intOf]; omega⟩
    · obtain rfl : j = L.length := by omega
      go_wp2_with fail
      go_ret
      exact ⟨rfl, hbr⟩

end Go.Proofs.YtfbhdkkmcfnghaaGreatDoor
