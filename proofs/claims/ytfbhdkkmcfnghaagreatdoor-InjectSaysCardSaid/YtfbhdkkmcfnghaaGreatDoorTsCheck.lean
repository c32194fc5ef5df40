/- Walks of tstate.Check, the reference's Check, Same, Few, Get. Conditions: a slice's own; texts no longer than an int can say. -/
import Derived.Test.YtfbhdkkmcfnghaaGreatDoorTsNext
namespace Go.Proofs.YtfbhdkkmcfnghaaGreatDoor
open Go.RowKit
set_option linter.unusedVariables false

theorem slr_cap {w : World} {c n cap : Nat} {A : Option Addr} {L : List (List Value)} (h : SlR w c (.slice A n cap) L) : n = L.length ∧ n ≤ cap ∧ cap ≤ 9223372036854775807 := by
  obtain ⟨A', cap', hv, h1, h2, _⟩ := h
  simp only [Value.slice.injEq] at hv
  obtain ⟨rfl, rfl, rfl⟩ := hv
  exact ⟨rfl, h1, by unfold maxLen at h2; omega⟩

theorem fits_len {m : Hd} (h : m.fits) : m.1.length ≤ 9223372036854775807 ∧ m.2.length ≤ 9223372036854775807 := by
  have h1 := h.1
  have h2 := h.2
  unfold maxLen at h1 h2
  omega

theorem Ts.next_at {L : List Hd} {i : Nat} {m : Hd} (h : i < L.length) (hm : L[i] = m) : Ts.next (L.take i) (L.getD i ([], [])) = Ts.next (L.take i) m := by
  rw [Ts.getD_at h, hm]

set_option maxHeartbeats 1000000 in
set_option maxRecDepth 100000 in
theorem tsCheck_any (A : Option Addr) (cap : Nat) (L : List Hd) (w : World) (hS : SlR w 2 (.slice A L.length cap) (L.map Hd.cells)) (hf : ∀ m ∈ L, Hd.fits m) :
    Calls Tryz.prog 132 #[.slice A L.length cap] w fun e w' => e = .returned (.int .i64 (Ts.check L : Nat)) ∧ Below w.heap.size w w' := by
  have HS := Stow.mk hS
  have HF := Stow.mk hf
  have hlen := hS.len
  simp only [List.length_map] at hlen
  have hcap := (slr_cap hS).2.1
  have hcm := (slr_cap hS).2.2
  clear hS hf
  by_cases h0 : L.length = 0
  · obtain rfl := List.eq_nil_of_length_eq_zero h0
    go_enter Tryz.func132, Tryz.ntmps132
    go_wp2_with fail
    go_loopw [8] (fun v wr => v = .int .i64 0 ∧ Below w.heap.size w wr) (fun _ _ => 0)
    case atStart => exact ⟨rfl, Below.self _⟩
    case round =>
      obtain ⟨rfl, hbr⟩ := hrel
      go_wp2_with fail
      go_ret
      exact ⟨rfl, hbr⟩
  obtain ⟨b, off, rfl, hblt, _⟩ := HS.out.open (by simp; omega)
  clear h0
  go_enter Tryz.func132, Tryz.ntmps132
  go_wp2_with fail
  go_loopw [8] (fun v wr => ∃ j : Nat, v = .int .i64 j ∧ j ≤ L.length ∧ Stow (∀ i, i < j → Ts.next (L.take i) (L.getD i ([], [])) = 0) ∧ Below w.heap.size w wr) (fun v _ => L.length - (intOf v).toNat)
  case atStart => exact ⟨0, rfl, by omega, ⟨by simp⟩, Below.self _⟩
  case round =>
    obtain ⟨j, rfl, hj, HJ, hbr⟩ := hrel
    by_cases hlt : j < L.length
    · have hsp := head_at (HS.out.keep hbr) hlt
      have hff := fits_len (HF.out _ (List.getElem_mem hlt))
      obtain ⟨s, hs⟩ : ∃ s, L[j] = s := ⟨_, rfl⟩
      have HNX := Stow.mk (Ts.next_at hlt hs)
      rw [hs] at hsp hff
      clear hs
      obtain ⟨k, v⟩ := s
      obtain ⟨hltb, q0, q1⟩ := hsp
      simp only at q0 q1 hff
      have HFF := Stow.mk hff
      have hT := (HS.out.keep hbr).take j (by simp; omega)
      rw [← List.map_take] at hT
      have HT := Stow.mk hT
      have HBR := Stow.mk hbr
      have hjn : j = (L.take j).length := by simp; omega
      have HJN := Stow.mk hjn
      have hW : Stow (∀ W, W = wr.alloc (.cells #[.string (bs k), .string (bs v)] 121) → Held W wr.heap.size [.string (bs k), .string (bs v)] ∧ Below wr.heap.size wr W) := ⟨by
        rintro W rfl
        exact ⟨Held.made wr [.string (bs k), .string (bs v)] _, Below.alloc' (Below.self _) _⟩⟩
      obtain ⟨r, hr⟩ : ∃ r, Ts.next (L.take j) (k, v) = r := ⟨_, rfl⟩
      have HR := Stow.mk hr
      have hjc : j ≤ cap := by omega
      clear hff hT hbr hjn hr
      go_wp2_with fail
      generalize hWe : wr.alloc _ = W
      obtain ⟨hHW, hbW⟩ := hW.out W hWe.symm
      have HBW := Stow.mk hbW
      have hltW := hHW.lt
      have g0 : ∀ x : Later W.heap.size W, x.1.cell? ⟨wr.heap.size, 0, none⟩ = _ := fun x => x.cell (hHW.cell (i := 0) rfl) hltW
      have g1 : ∀ x : Later W.heap.size W, x.1.cell? ⟨wr.heap.size, 1, none⟩ = _ := fun x => x.cell (hHW.cell (i := 1) rfl) hltW
      have LB : Stow (∀ x : Later W.heap.size W, Below wr.heap.size wr x.1) := ⟨fun x => HBW.out.trans (x.2.mono HBW.out.size)⟩
      clear hHW hbW q0 q1 hWe
      refine wp_region_later W.heap.size (by kernel_rfl) (by kernel_rfl) ?_
      repeat (go_big_quiet_step (first | (go_at_call 129; exact Calls.later (Nat.le_refl _) (tsNext_any k v _ j cap (L.take j) HJN.out _ (HT.out.keep (LB.out _)) HFF.out.1 HFF.out.2))))
      refine wpQuiet_nil ?_
      rintro ⟨wx, hbx⟩
      clear g0 g1
      rw [HR.out]
      by_cases hr0 : r = 0
      · subst hr0
        go_wp2_with fail
        refine ⟨⟨j + 1, rfl, by omega, ⟨fun i hi => ?_⟩, (HBR.out.trans (HBW.out.mono HBR.out.size)).trans (hbx.mono (by have := HBR.out.size; have := HBW.out.size; omega))⟩, by simp [intOf]; omega⟩
        rcases Nat.lt_or_ge i j with h | h
        · exact HJ.out i h
        · obtain rfl : i = j := by omega
          rw [HNX.out, HR.out]
      · have hrn : ((r : Int) != 0) = true := by simp; omega
        go_wp2_with fail
        go_ret
        refine ⟨?_, (HBR.out.trans (HBW.out.mono HBR.out.size)).trans (hbx.mono (by have := HBR.out.size; have := HBW.out.size; omega))⟩
        rw [Ts.check_at hlt HJ.out (by rw [HNX.out, HR.out]; exact hr0), HNX.out, HR.out]
        rfl
    · obtain rfl : j = L.length := by omega
      go_wp2_with fail
      go_ret
      refine ⟨?_, hbr⟩
      rw [Ts.check_ok HJ.out]
      rfl

set_option maxHeartbeats 1000000 in
set_option maxRecDepth 100000 in
theorem tsRefCheck_any (A : Option Addr) (cap : Nat) (L : List Hd) (w : World) (hS : SlR w 2 (.slice A L.length cap) (L.map Hd.cells)) (hf : ∀ m ∈ L, Hd.fits m) :
    Calls Tryz.prog 86 #[.slice A L.length cap] w fun e w' => e = .returned (.int .i64 (Ts.check L : Nat)) ∧ Below w.heap.size w w' := by
  have HS := Stow.mk hS
  have HF := Stow.mk hf
  have hlen := hS.len
  simp only [List.length_map] at hlen
  have hcap := (slr_cap hS).2.1
  have hcm := (slr_cap hS).2.2
  clear hS hf
  by_cases h0 : L.length = 0
  · obtain rfl := List.eq_nil_of_length_eq_zero h0
    go_enter Tryz.func86, Tryz.ntmps86
    go_wp2_with fail
    go_loopw [3] (fun v wr => v = .int .i64 0 ∧ Below w.heap.size w wr) (fun _ _ => 0)
    case atStart => exact ⟨rfl, Below.self _⟩
    case round =>
      obtain ⟨rfl, hbr⟩ := hrel
      go_wp2_with fail
      go_ret
      exact ⟨rfl, hbr⟩
  obtain ⟨b, off, rfl, hblt, _⟩ := HS.out.open (by simp; omega)
  clear h0
  go_enter Tryz.func86, Tryz.ntmps86
  go_wp2_with fail
  go_loopw [3] (fun v wr => ∃ j : Nat, v = .int .i64 j ∧ j ≤ L.length ∧ Stow (∀ i, i < j → Ts.next (L.take i) (L.getD i ([], [])) = 0) ∧ Below w.heap.size w wr) (fun v _ => L.length - (intOf v).toNat)
  case atStart => exact ⟨0, rfl, by omega, ⟨by simp⟩, Below.self _⟩
  case round =>
    obtain ⟨j, rfl, hj, HJ, hbr⟩ := hrel
    by_cases hlt : j < L.length
    · have hsp := head_at (HS.out.keep hbr) hlt
      have hff := fits_len (HF.out _ (List.getElem_mem hlt))
      obtain ⟨s, hs⟩ : ∃ s, L[j] = s := ⟨_, rfl⟩
      have HNX := Stow.mk (Ts.next_at hlt hs)
      rw [hs] at hsp hff
      clear hs
      obtain ⟨k, v⟩ := s
      obtain ⟨hltb, q0, q1⟩ := hsp
      simp only at q0 q1 hff
      have HFF := Stow.mk hff
      have hT := (HS.out.keep hbr).take j (by simp; omega)
      rw [← List.map_take] at hT
      have HT := Stow.mk hT
      have HBR := Stow.mk hbr
      have hjn : j = (L.take j).length := by simp; omega
      have HJN := Stow.mk hjn
      obtain ⟨r, hr⟩ : ∃ r, Ts.next (L.take j) (k, v) = r := ⟨_, rfl⟩
      have HR := Stow.mk hr
      have hjc : j ≤ cap := by omega
      have hji : (j : Int) < L.length := by omega
      have g0 : ∀ x : Later wr.heap.size wr, x.1.cell? ⟨b, off + j * 2, none⟩ = _ := fun x => x.cell q0 hltb
      have g1 : ∀ x : Later wr.heap.size wr, x.1.cell? ⟨b, off + j * 2 + 1, none⟩ = _ := fun x => x.cell q1 hltb
      clear hff hT hbr hjn hr q0 q1
      go_wp2_with fail
      refine wp_region_later wr.heap.size (by kernel_rfl) (by kernel_rfl) ?_
      repeat (go_big_quiet_step (first | (go_at_call 83; exact Calls.later (Nat.le_refl _) (tsOne_any k v _ j cap (L.take j) HJN.out _ (HT.out.keep (Subtype.property _)) HFF.out.1 HFF.out.2))))
      refine wpQuiet_nil ?_
      rintro ⟨wx, hbx⟩
      clear g0 g1
      rw [HR.out]
      by_cases hr0 : r = 0
      · subst hr0
        go_wp2_with fail
        refine ⟨⟨j + 1, rfl, by omega, ⟨fun i hi => ?_⟩, HBR.out.trans (hbx.mono HBR.out.size)⟩, by simp [intOf]; omega⟩
        rcases Nat.lt_or_ge i j with h | h
        · exact HJ.out i h
        · obtain rfl : i = j := by omega
          rw [HNX.out, HR.out]
      · have hrn : ((r : Int) != 0) = true := by simp; omega
        go_wp2_with fail
        go_ret
        refine ⟨?_, HBR.out.trans (hbx.mono HBR.out.size)⟩
        rw [Ts.check_at hlt HJ.out (by rw [HNX.out, HR.out]; exact hr0), HNX.out, HR.out]
        rfl
    · obtain rfl : j = L.length := by omega
      go_wp2_with fail
      go_ret
      refine ⟨?_, hbr⟩
      rw [Ts.check_ok HJ.out]
      rfl
end Go.Proofs.YtfbhdkkmcfnghaaGreatDoor
