/- Walks of tstate.find and Get. Conditions: none but a slice's own. -/
import Derived.Test.YtfbhdkkmcfnghaaGreatDoorHead
import Derived.Test.YtfbhdkkmcfnghaaGreatDoorTsSpec
namespace Go.Proofs.YtfbhdkkmcfnghaaGreatDoor
open Go.RowKit
set_option linter.unusedVariables false

set_option maxHeartbeats 400000 in
set_option maxRecDepth 100000 in
theorem tsFindBody_any (x y name : List UInt8) (g : Nat) (w : World) (hg : w.cell? ⟨g, 0, none⟩ = some (.string (bs name))) (hlt : g < w.heap.size) :
    Calls Tryz.prog 201 #[.agg #[.string (bs x), .string (bs y)], .pointer (some ⟨g, 0, none⟩)] w fun e w' => e = .returned (.bool (x == name)) ∧ Below w.heap.size w w' := by
  have hge : (w.heap.size == g) = false := by simp; omega
  go_enter Tryz.func201, Tryz.ntmps201
  go_wp2_with fail
  go_ret
  refine ⟨rfl, ?_⟩
  (repeat (first | exact Below.self _ | refine Below.alloc' ?_ _ | refine Below.drew ?_ | refine Below.drewN' ?_ _ | (refine Below.call ?_ (by assumption))))

set_option maxHeartbeats 1000000 in
set_option maxRecDepth 100000 in
theorem tsIndex_any (K g : Nat) (name : List UInt8) (hcf : ∀ (args : Array Value) (w : World), (callFunc K args).run Tryz.prog w = .ok (.enter K args) w) (A : Option Addr) (cap : Nat) (L : List Hd) (w : World)
    (hf : Stow (∀ (h : Hd) (w1 : World), Below w.heap.size w w1 → Calls Tryz.prog K #[.agg #[.string (bs h.1), .string (bs h.2)], .pointer (some ⟨g, 0, none⟩)] w1 fun e w' => e = .returned (.bool (h.1 == name)) ∧ Below w1.heap.size w1 w'))
    (hS : SlR w 2 (.slice A L.length cap) (L.map Hd.cells)) :
    Calls Tryz.prog 200 #[.slice A L.length cap, .func (.func K) #[] #[.pointer (some ⟨g, 0, none⟩)]] w fun e w' => e = .returned (.int .i64 (atInt (hdAt L name))) ∧ Below w.heap.size w w' := by
  have HS := Stow.mk hS
  have hlen := hS.len
  simp only [List.length_map] at hlen
  clear hS
  by_cases h0 : L.length = 0
  · obtain rfl := List.eq_nil_of_length_eq_zero h0
    go_enter Tryz.func200, Tryz.ntmps200
    go_wp2_with fail
    go_loopw [8] (fun v wr => v = .int .i64 0 ∧ Below w.heap.size w wr) (fun _ _ => 0)
    case atStart => exact ⟨rfl, Below.self _⟩
    case round =>
      obtain ⟨rfl, hbr⟩ := hrel
      go_wp2_with fail
      go_ret
      exact ⟨rfl, hbr⟩
  obtain ⟨b, off, rfl, hblt, _⟩ := HS.out.open (by simp; omega)
  clear h0
  go_enter Tryz.func200, Tryz.ntmps200
  go_wp2_with fail
  go_loopw [5, 8] (fun _ v wr => ∃ j : Nat, v = .int .i64 j ∧ j ≤ L.length ∧ Stow (∀ x ∈ L.take j, (x.1 == name) = false) ∧ Below w.heap.size w wr) (fun _ v _ => L.length - (intOf v).toNat)
  case atStart => exact ⟨0, rfl, by omega, ⟨by simp⟩, Below.self _⟩
  case round =>
    obtain ⟨j, rfl, hj, HJ, hbr⟩ := hrel
    by_cases hlt : j < L.length
    · have hsp := head_at (HS.out.keep hbr) hlt
      obtain ⟨s, hs⟩ : ∃ s, L[j] = s := ⟨_, rfl⟩
      have HSJ := Stow.mk hs
      rw [hs] at hsp
      clear hs
      obtain ⟨x, y⟩ := s
      obtain ⟨hltb, q0, q1⟩ := hsp
      simp only at q0 q1
      obtain ⟨c, hc⟩ : ∃ c, (x == name) = c := ⟨_, rfl⟩
      have HCS := Stow.mk hc
      clear hc
      have HBR := Stow.mk hbr
      go_wp2_with fail
      clear q0 q1
      refine (hf.out (x, y) _ HBR.out).mono ?_
      simp only [HCS.out]
      rintro e w3 ⟨rfl, hb3⟩
      cases c
      · go_wp2_with fail
        exact ⟨⟨j + 1, rfl, by omega, ⟨hd_take_succ hlt HJ.out (by rw [HSJ.out, HCS.out])⟩, Below.call hbr hb3⟩, by simp [intOf]; omega⟩
      · go_wp2_with fail
        go_ret
        refine ⟨?_, Below.call hbr hb3⟩
        rw [hdAt_some hlt HJ.out (by rw [HSJ.out, HCS.out])]
        rfl
    · obtain rfl : j = L.length := by omega
      go_wp2_with fail
      go_ret
      refine ⟨?_, hbr⟩
      have := HJ.out
      rw [List.take_length] at this
      rw [hdAt_none this]
      rfl

set_option maxHeartbeats 400000 in
set_option maxRecDepth 100000 in
theorem tsFind_any (name : List UInt8) (A : Option Addr) (cap : Nat) (L : List Hd) (w : World) (hS : SlR w 2 (.slice A L.length cap) (L.map Hd.cells)) :
    Calls Tryz.prog 174 #[.slice A L.length cap, .string (bs name)] w fun e w' => e = .returned (.int .i64 (atInt (hdAt L name))) ∧ Below w.heap.size w w' := by
  have HS := Stow.mk hS
  clear hS
  have hcf := enters_of Tryz.func201 (by kernel_rfl) rfl
  have HC := Stow.mk hcf; clear hcf
  have hmf : ∀ (fn : Fn) (first cap : Array Value) (w : World), (Instr.makeFunc fn first cap).run Tryz.prog w = .ok (.func fn first cap) w := fun _ _ _ _ => rfl
  go_enter Tryz.func174, Tryz.ntmps174
  go_wp2_with fail
  refine (tsIndex_any 201 _ name HC.out A cap L _ ⟨fun h w1 hb => tsFindBody_any h.1 h.2 name _ w1 ?_ ?_⟩ (HS.out.alloc _)).mono ?_
  · rw [hb.cell (by simp)]; simp
  · exact Nat.lt_of_lt_of_le (by simp) hb.size
  rintro e w' ⟨rfl, hb⟩
  go_wp2_with fail
  go_ret
  exact ⟨rfl, Below.call (Below.alloc' (Below.self _) _) hb⟩

end Go.Proofs.YtfbhdkkmcfnghaaGreatDoor
