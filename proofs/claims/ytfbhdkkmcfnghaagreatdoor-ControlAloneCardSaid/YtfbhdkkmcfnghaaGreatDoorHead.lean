/- Walks of head.where, Get, and the reference's All, Get. Conditions: none but a slice's own. -/
import Derived.Test.YtfbhdkkmcfnghaaGreatDoorHeadSpec
import Derived.Test.YtfbhdkkmcfnghaaGreatDoorProg
import Derived.Test.YtfbhdkkmcfnghaaGreatDoorLib
namespace Go.Proofs.YtfbhdkkmcfnghaaGreatDoor
open Go.RowKit
set_option linter.unusedVariables false

/-- A header in a slice: its two cells. -/
structure HeadAt (w : World) (b o : Nat) (h : Hd) : Prop where
  lt : b < w.heap.size
  c0 : w.cell? ⟨b, o, none⟩ = some (.string (bs h.1))
  c1 : w.cell? ⟨b, o + 1, none⟩ = some (.string (bs h.2))
theorem head_at {w : World} {b off n cap k : Nat} {L : List Hd} (h : SlR w 2 (.slice (some ⟨b, off, none⟩) n cap) (L.map Hd.cells)) (hk : k < L.length) : HeadAt w b (off + k * 2) L[k] := by
  have hi : (L.map Hd.cells)[k]? = some (L[k].cells) := by rw [List.getElem?_map, List.getElem?_eq_getElem hk]; rfl
  obtain ⟨hb, hc⟩ := h.cells hi
  exact ⟨hb, hc 0 _ rfl, hc 1 _ rfl⟩

set_option maxHeartbeats 400000 in
set_option maxRecDepth 100000 in
theorem whereBody_any (x y name : List UInt8) (g : Nat) (w : World) (hg : w.cell? ⟨g, 0, none⟩ = some (.string (bs name))) (hlt : g < w.heap.size) :
    Calls Tryz.prog 126 #[.agg #[.string (bs x), .string (bs y)], .pointer (some ⟨g, 0, none⟩)] w fun e w' => e = .returned (.bool (x == name)) ∧ Below w.heap.size w w' := by
  have hge : (w.heap.size == g) = false := by simp; omega
  go_enter Tryz.func126, Tryz.ntmps126
  go_wp2_with fail
  go_ret
  refine ⟨rfl, ?_⟩
  (repeat (first | exact Below.self _ | refine Below.alloc' ?_ _ | refine Below.drew ?_ | refine Below.drewN' ?_ _ | (refine Below.call ?_ (by assumption))))

theorem hdAt_none {L : List Hd} {name : List UInt8} (h : ∀ x ∈ L, (x.1 == name) = false) : hdAt L name = none := by
  unfold hdAt
  rw [List.findIdx?_eq_none_iff]
  exact h
theorem hdAt_some {L : List Hd} {name : List UInt8} {k : Nat} (hk : k < L.length) (h : ∀ x ∈ L.take k, (x.1 == name) = false) (hb : (L[k].1 == name) = true) : hdAt L name = some k := by
  unfold hdAt
  rw [List.findIdx?_eq_some_iff_getElem]
  refine ⟨hk, hb, fun j hj => ?_⟩
  have := h L[j] (List.mem_take_iff_getElem.2 ⟨j, by omega, rfl⟩)
  simp [this]
theorem hd_take_succ {L : List Hd} {name : List UInt8} {k : Nat} (hk : k < L.length) (h : ∀ x ∈ L.take k, (x.1 == name) = false) (hb : (L[k].1 == name) = false) : ∀ x ∈ L.take (k + 1), (x.1 == name) = false := by
  intro s hs
  rw [List.take_succ_eq_append_getElem hk] at hs
  rcases List.mem_append.1 hs with h1 | h1
  · exact h s h1
  · simp at h1; subst h1; exact hb
/-- The place as an int. -/
def atInt (o : Option Nat) : Int := match o with | some k => k | none => -1

set_option maxHeartbeats 1000000 in
set_option maxRecDepth 100000 in
theorem hdIndex_any (K g : Nat) (name : List UInt8) (hcf : ∀ (args : Array Value) (w : World), (callFunc K args).run Tryz.prog w = .ok (.enter K args) w) (A : Option Addr) (cap : Nat) (L : List Hd) (w : World)
    (hf : Stow (∀ (h : Hd) (w1 : World), Below w.heap.size w w1 → Calls Tryz.prog K #[.agg #[.string (bs h.1), .string (bs h.2)], .pointer (some ⟨g, 0, none⟩)] w1 fun e w' => e = .returned (.bool (h.1 == name)) ∧ Below w1.heap.size w1 w'))
    (hS : SlR w 2 (.slice A L.length cap) (L.map Hd.cells)) :
    Calls Tryz.prog 125 #[.slice A L.length cap, .func (.func K) #[] #[.pointer (some ⟨g, 0, none⟩)]] w fun e w' => e = .returned (.int .i64 (atInt (hdAt L name))) ∧ Below w.heap.size w w' := by
  have HS := Stow.mk hS
  have hlen := hS.len
  simp only [List.length_map] at hlen
  clear hS
  by_cases h0 : L.length = 0
  · obtain rfl := List.eq_nil_of_length_eq_zero h0
    go_enter Tryz.func125, Tryz.ntmps125
    go_wp2_with fail
    go_loopw [8] (fun v wr => v = .int .i64 0 ∧ Below w.heap.size w wr) (fun _ _ => 0)
    case atStart => exact ⟨rfl, Below.self _⟩
    case round =>
      obtain ⟨rfl, hbr⟩ := hrel
      go_wp2_with fail
      go_ret
      exact ⟨rfl, hbr⟩
  obtain ⟨b, off, rfl, hblt, _⟩ := HS.out.open (by simp; omega)
  clear h0
  go_enter Tryz.func125, Tryz.ntmps125
  go_wp2_with fail
  go_loopw [5, 8] (fun _ v wr => ∃ j : Nat, v = .int .i64 j ∧ j ≤ L.length ∧ Stow (∀ x ∈ L.take j, (x.1 == name) = false) ∧ Below w.heap.size w wr) (fun _ v _ => L.length - (intOf v).toNat)
  case atStart => exact ⟨0, rfl, by omega, ⟨by simp⟩, Below.self _⟩
  case round =>
    obtain ⟨j, rfl, hj, HJ, hbr⟩ := hrel
    by_cases hlt : j < L.length
    · have hsp := head_at (HS.out.keep hbr) hlt
      obtain ⟨s, hs⟩ : ∃ s, L[j] = s := ⟨_, rfl⟩
      have HSJ := Stow.mk hs
      rw [hs] at hsp
      clear hs
      obtain ⟨x, y⟩ := s
      obtain ⟨hltb, q0, q1⟩ := hsp
      simp only at q0 q1
      obtain ⟨c, hc⟩ : ∃ c, (x == name) = c := ⟨_, rfl⟩
      have HCS := Stow.mk hc
      clear hc
      have HBR := Stow.mk hbr
      go_wp2_with fail
      clear q0 q1
      refine (hf.out (x, y) _ HBR.out).mono ?_
      simp only [HCS.out]
      rintro e w3 ⟨rfl, hb3⟩
      cases c
      · go_wp2_with fail
        exact ⟨⟨j + 1, rfl, by omega, ⟨hd_take_succ hlt HJ.out (by rw [HSJ.out, HCS.out])⟩, Below.call hbr hb3⟩, by simp [intOf]; omega⟩
      · go_wp2_with fail
        go_ret
        refine ⟨?_, Below.call hbr hb3⟩
        rw [hdAt_some hlt HJ.out (by rw [HSJ.out, HCS.out])]
        rfl
    · obtain rfl : j = L.length := by omega
      go_wp2_with fail
      go_ret
      refine ⟨?_, hbr⟩
      have := HJ.out
      rw [List.take_length] at this
      rw [hdAt_none this]
      rfl

set_option maxHeartbeats 400000 in
set_option maxRecDepth 100000 in
theorem hdWhere_any (name : List UInt8) (A : Option Addr) (cap : Nat) (L : List Hd) (w : World) (hS : SlR w 2 (.slice A L.length cap) (L.map Hd.cells)) :
    Calls Tryz.prog 72 #[.slice A L.length cap, .string (bs name)] w fun e w' => e = .returned (.int .i64 (atInt (hdAt L name))) ∧ Below w.heap.size w w' := by
  have HS := Stow.mk hS
  clear hS
  have hcf := enters_of Tryz.func126 (by kernel_rfl) rfl
  have HC := Stow.mk hcf; clear hcf
  have hmf : ∀ (fn : Fn) (first cap : Array Value) (w : World), (Instr.makeFunc fn first cap).run Tryz.prog w = .ok (.func fn first cap) w := fun _ _ _ _ => rfl
  go_enter Tryz.func72, Tryz.ntmps72
  go_wp2_with fail
  refine (hdIndex_any 126 _ name HC.out A cap L _ ⟨fun h w1 hb => whereBody_any h.1 h.2 name _ w1 ?_ ?_⟩ (HS.out.alloc _)).mono ?_
  · rw [hb.cell (by simp)]; simp
  · exact Nat.lt_of_lt_of_le (by simp) hb.size
  rintro e w' ⟨rfl, hb⟩
  go_wp2_with fail
  go_ret
  exact ⟨rfl, Below.call (Below.alloc' (Below.self _) _) hb⟩

set_option maxHeartbeats 400000 in
set_option maxRecDepth 100000 in
theorem hdGet_any (name : List UInt8) (A : Option Addr) (cap : Nat) (L : List Hd) (w : World) (hS : SlR w 2 (.slice A L.length cap) (L.map Hd.cells)) :
    Calls Tryz.prog 43 #[.slice A L.length cap, .string (bs name)] w fun e w' => e = .returned (.tuple #[.string (bs ((hdGet L name).getD [])), .bool (hdGet L name).isSome]) ∧ Below w.heap.size w w' := by
  have HS := Stow.mk hS
  clear hS
  obtain ⟨o, ho⟩ : ∃ o, hdAt L name = o := ⟨_, rfl⟩
  have HO := Stow.mk ho
  clear ho
  cases o with
  | none =>
    have HG : Stow (hdGet L name = none) := ⟨by rw [hdGet_at, HO.out]; rfl⟩
    go_enter Tryz.func43, Tryz.ntmps43
    go_wp2_with fail
    refine (hdWhere_any name A cap L _ HS.out).mono ?_
    rw [HO.out]
    rintro e w' ⟨rfl, hb⟩
    simp only [atInt]
    go_wp2_with fail
    go_ret2
    exact ⟨by rw [HG.out]; rfl, hb⟩
  | some k =>
    have hk : k < L.length := by
      have := HO.out
      unfold hdAt at this
      rw [List.findIdx?_eq_some_iff_getElem] at this
      exact this.1
    have HG : Stow (hdGet L name = some L[k].2) := ⟨by rw [hdGet_at, HO.out]; simp [List.getElem?_eq_getElem hk]⟩
    have hlen := HS.out.len
    simp only [List.length_map] at hlen
    obtain ⟨b, off, rfl, hblt, _⟩ := HS.out.open (by simp; omega)
    go_enter Tryz.func43, Tryz.ntmps43
    go_wp2_with fail
    refine (hdWhere_any name _ cap L _ HS.out).mono ?_
    rw [HO.out]
    rintro e w' ⟨rfl, hb⟩
    simp only [atInt]
    have hsp := head_at (HS.out.keep hb) hk
    obtain ⟨s, hs⟩ : ∃ s, L[k] = s := ⟨_, rfl⟩
    have HSJ := Stow.mk hs
    rw [hs] at hsp
    clear hs
    obtain ⟨x, y⟩ := s
    obtain ⟨hltb, q0, q1⟩ := hsp
    simp only at q0 q1
    go_wp2_with fail
    go_ret2
    exact ⟨by rw [HG.out, HSJ.out]; rfl, hb⟩
end Go.Proofs.YtfbhdkkmcfnghaaGreatDoor
