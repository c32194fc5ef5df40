/- Walk of the reference's Same on flows that are alike. Conditions: slices' own. -/
import Derived.Test.YthbpcdoddcacdaaFlSame
namespace Go.Proofs.Ythbpcdoddcacdaa
open Go.RowKit
set_option linter.unusedVariables false

set_option maxHeartbeats 2000000 in
set_option maxRecDepth 100000 in
theorem flSame_any (L L' : List Fm) (A A' : Option Addr) (cap cap' : Nat) (hops : Int) (w : World) (hc : L.map Fm.c = L'.map Fm.c) (h : FlR w A cap L) (h' : FlR w A' cap' L') :
    Calls Try.prog 19 #[flv A L.length cap hops, flv A' L.length cap' hops] w fun e w' => e = .returned (.bool true) ∧ Below w.heap.size w w' := by
  have hlen : L.length = L'.length := by have := congrArg List.length hc; simpa using this
  have HX := Stow.mk ((Held.made w [.slice A L.length cap, .int .i64 hops] 24).kept (Below.alloc' (Below.self _) (.cells #[.slice A' L.length cap', .int .i64 hops] 24)))
  have HY := Stow.mk (Held.made (w.alloc (.cells #[.slice A L.length cap, .int .i64 hops] 24)) [.slice A' L.length cap', .int .i64 hops] 24)
  have HB := Stow.mk (Below.alloc' (Below.alloc' (Below.self w) (.cells #[.slice A L.length cap, .int .i64 hops] 24)) (.cells #[.slice A' L.length cap', .int .i64 hops] 24))
  obtain ⟨W0, hW0⟩ : ∃ W, (w.alloc (.cells #[.slice A L.length cap, .int .i64 hops] 24)).alloc (.cells #[.slice A' L.length cap', .int .i64 hops] 24) = W := ⟨_, rfl⟩
  rw [show (w.alloc (.cells [.slice A L.length cap, .int .i64 hops].toArray 24)).alloc (.cells #[.slice A' L.length cap', .int .i64 hops] 24) = W0 from hW0] at HX
  rw [hW0] at HB
  rw [show (w.alloc (.cells #[.slice A L.length cap, .int .i64 hops] 24)).alloc (.cells [.slice A' L.length cap', .int .i64 hops].toArray 24) = W0 from hW0] at HY
  simp only [World.size_alloc] at HY
  have HF := Stow.mk h
  have HF' := Stow.mk h'
  have HLC := Stow.mk hc
  have HLN := Stow.mk hlen
  have q0 := HX.out.cell (i := 0) rfl
  have q1 := HX.out.cell (i := 1) rfl
  have p0 := HY.out.cell (i := 0) rfl
  have p1 := HY.out.cell (i := 1) rfl
  have hln := h.row.len
  simp only [List.length_map] at hln
  clear h h' hc hlen
  go_enter Try.func19, Try.ntmps19
  go_wp2_with fail
  clear hW0
  go_loopw [5] (fun v wr => ∃ j : Nat, v = .int .i64 (j : Int) ∧ j ≤ L.length ∧ Stow (Below W0.heap.size W0 wr)) (fun v _ => L.length - (intOf v).toNat)
  case atStart => exact ⟨0, rfl, by omega, ⟨Below.self _⟩⟩
  case round =>
    obtain ⟨j, rfl, hj, HBR⟩ := hrel
    have HX := Stow.mk (HX.out.kept HBR.out)
    have HY := Stow.mk (HY.out.kept HBR.out)
    have HB := Stow.mk (HB.out.trans (HBR.out.mono HB.out.size))
    have q0 := HX.out.cell (i := 0) rfl
    have p0 := HY.out.cell (i := 0) rfl
    by_cases hjl : j < L.length
    · have hjl' : j < L'.length := by rw [← HLN.out]; exact hjl
      have hF := HF.out.keep HB.out
      have hF' := HF'.out.keep HB.out
      obtain ⟨b, off, rfl, _, _⟩ := hF.row.open (by simp; omega)
      obtain ⟨b', off', rfl, _, _⟩ := hF'.row.open (by simp; omega)
      have hra := (fm_at hF.row hjl).2
      have hra' := (fm_at hF'.row hjl').2
      have hxy : L[j].c = L'[j].c := by
        have h1 := congrArg (fun l => l[j]?) HLC.out
        simp only [List.getElem?_map, List.getElem?_eq_getElem hjl, List.getElem?_eq_getElem hjl', Option.map_some, Option.some.injEq] at h1
        exact h1
      have HC := Stow.mk (frSame_any L[j] L'[j] wr.drew hxy ((hF.each _ (List.getElem_mem hjl)).keep (Below.drew (Below.self wr))) ((hF'.each _ (List.getElem_mem hjl')).keep (Below.drew (Below.self wr))))
      obtain ⟨x, hx⟩ : ∃ x, L[j] = x := ⟨_, rfl⟩
      obtain ⟨y, hy⟩ : ∃ y, L'[j] = y := ⟨_, rfl⟩
      rw [hx] at hra HC
      rw [hy] at hra' HC
      have HRA := Stow.mk hra
      have HRB := Stow.mk hra'
      have hji : (j : Int) < L.length := by omega
      have hj0 : (0 : Int) ≤ j := by omega
      clear hx hy hxy hra hra' hF hF'
      go_upto_region 6 with fail
      refine wp_region_held_drew (S := fun W => (W.cell? ⟨w.heap.size, 0, none⟩ = some (.slice (some ⟨b, off, none⟩) L.length cap) ∧ W.cell? ⟨w.heap.size + 1, 0, none⟩ = some (.slice (some ⟨b', off', none⟩) L.length cap')) ∧ W.rangeAt b (off + j * 13) x.cells ∧ W.rangeAt b' (off' + j * 13) y.cells) (by kernel_rfl) ⟨⟨q0, p0⟩, HRA.out, HRB.out⟩ (fun hHeld => ?_)
      refine wpAnyH_take (i := 0) (v := ?v0) rfl (by kernel_rfl) (by kernel_rfl) (by kernel_rfl) (fun _ _ _ h => h) (Or.inl ⟨by rfl, ?hy0⟩) (by assumption) ?rest0
      case hy0 =>
        intro W hSW
        try dsimp only at hSW
        obtain ⟨⟨hs0, hs1⟩, hs2⟩ := hSW
        go_simp
        try with_reducible rfl
      try simp only [List.getElem_toArray, List.getElem_cons_zero, Act.put, List.setIfInBounds_toArray, List.set_cons_zero, List.set_cons_succ]
      refine wpAnyH_take (i := 1) (v := ?v1) rfl (by kernel_rfl) (by kernel_rfl) (by kernel_rfl) (fun _ _ _ h => h) (Or.inl ⟨by rfl, ?hy1⟩) (by assumption) ?rest1
      case hy1 =>
        intro W hSW
        try dsimp only at hSW
        obtain ⟨⟨hs0, hs1⟩, hs2⟩ := hSW
        go_simp
        try with_reducible rfl
      try simp only [List.getElem_toArray, List.getElem_cons_zero, List.getElem_cons_succ, Act.put, List.setIfInBounds_toArray, List.set_cons_zero, List.set_cons_succ]
      refine wpAnyH_take (i := 2) (v := ?v2) rfl (by kernel_rfl) (by kernel_rfl) (by kernel_rfl) (fun _ _ _ h => h) (Or.inl ⟨by rfl, ?hy2⟩) (by assumption) ?rest2
      case hy2 =>
        intro W hSW
        try dsimp only at hSW
        obtain ⟨⟨hs0, hs1⟩, hs2⟩ := hSW
        go_simp
        try with_reducible rfl
      try simp only [List.getElem_toArray, List.getElem_cons_zero, List.getElem_cons_succ, Act.put, List.setIfInBounds_toArray, List.set_cons_zero, List.set_cons_succ]
      refine wpAnyH_take (i := 3) (v := ?v3) rfl (by kernel_rfl) (by kernel_rfl) (by kernel_rfl) (fun _ _ _ h => h) (Or.inl ⟨by rfl, ?hy3⟩) (by assumption) ?rest3
      case hy3 =>
        intro W hSW
        try dsimp only at hSW
        obtain ⟨⟨hs0, hs1⟩, hs2⟩ := hSW
        go_simp
        try with_reducible rfl
      try simp only [List.getElem_toArray, List.getElem_cons_zero, List.getElem_cons_succ, Act.put, List.setIfInBounds_toArray, List.set_cons_zero, List.set_cons_succ]
      refine wpAnyH_take (i := 4) (v := .agg (x.cells).toArray) rfl (by kernel_rfl) (by kernel_rfl) (by kernel_rfl) (fun _ _ _ h => h) (yieldsIf_load_mid ?yw4 30 (.tmp 30) ?yo4 b (off + j * 13) ?yx4 (x.cells) _ ?ys4 Try.underlying30 rfl ?yi4) (by assumption) ?rest4
      case yw4 => rfl
      case yo4 => rfl
      case yx4 => simp [Act.eval]
      case ys4 => exact fun W hW => hW.2.1
      case yi4 => first | kernel_rfl | (simp only [Fm.cells_len]; kernel_rfl)
      try simp only [List.getElem_toArray, List.getElem_cons_zero, List.getElem_cons_succ, Act.put, List.setIfInBounds_toArray, List.set_cons_zero, List.set_cons_succ]
      refine wpAnyH_take (i := 5) (v := ?v5) rfl (by kernel_rfl) (by kernel_rfl) (by kernel_rfl) (fun _ _ _ h => h) (Or.inl ⟨by rfl, ?hy5⟩) (by assumption) ?rest5
      case hy5 =>
        intro W hSW
        try dsimp only at hSW
        obtain ⟨⟨hs0, hs1⟩, hs2⟩ := hSW
        go_simp
        try with_reducible rfl
      try simp only [List.getElem_toArray, List.getElem_cons_zero, List.getElem_cons_succ, Act.put, List.setIfInBounds_toArray, List.set_cons_zero, List.set_cons_succ]
      refine wpAnyH_take (i := 6) (v := ?v6) rfl (by kernel_rfl) (by kernel_rfl) (by kernel_rfl) (fun _ _ _ h => h) (Or.inl ⟨by rfl, ?hy6⟩) (by assumption) ?rest6
      case hy6 =>
        intro W hSW
        try dsimp only at hSW
        obtain ⟨⟨hs0, hs1⟩, hs2⟩ := hSW
        go_simp
        try with_reducible rfl
      try simp only [List.getElem_toArray, List.getElem_cons_zero, List.getElem_cons_succ, Act.put, List.setIfInBounds_toArray, List.set_cons_zero, List.set_cons_succ]
      refine wpAnyH_take (i := 7) (v := ?v7) rfl (by kernel_rfl) (by kernel_rfl) (by kernel_rfl) (fun _ _ _ h => h) (Or.inl ⟨by rfl, ?hy7⟩) (by assumption) ?rest7
      case hy7 =>
        intro W hSW
        try dsimp only at hSW
        obtain ⟨⟨hs0, hs1⟩, hs2⟩ := hSW
        go_simp
        try with_reducible rfl
      try simp only [List.getElem_toArray, List.getElem_cons_zero, List.getElem_cons_succ, Act.put, List.setIfInBounds_toArray, List.set_cons_zero, List.set_cons_succ]
      refine wpAnyH_take (i := 8) (v := ?v8) rfl (by kernel_rfl) (by kernel_rfl) (by kernel_rfl) (fun _ _ _ h => h) (Or.inl ⟨by rfl, ?hy8⟩) (by assumption) ?rest8
      case hy8 =>
        intro W hSW
        try dsimp only at hSW
        obtain ⟨⟨hs0, hs1⟩, hs2⟩ := hSW
        go_simp
        try with_reducible rfl
      try simp only [List.getElem_toArray, List.getElem_cons_zero, List.getElem_cons_succ, Act.put, List.setIfInBounds_toArray, List.set_cons_zero, List.set_cons_succ]
      refine wpAnyH_take (i := 9) (v := .agg (y.cells).toArray) rfl (by kernel_rfl) (by kernel_rfl) (by kernel_rfl) (fun _ _ _ h => h) (yieldsIf_load_mid ?yw9 30 (.tmp 35) ?yo9 b' (off' + j * 13) ?yx9 (y.cells) _ ?ys9 Try.underlying30 rfl ?yi9) (by assumption) ?rest9
      case yw9 => rfl
      case yo9 => rfl
      case yx9 => simp [Act.eval]
      case ys9 => exact fun W hW => hW.2.2
      case yi9 => first | kernel_rfl | (simp only [Fm.cells_len]; kernel_rfl)
      try simp only [List.getElem_toArray, List.getElem_cons_zero, List.getElem_cons_succ, Act.put, List.setIfInBounds_toArray, List.set_cons_zero, List.set_cons_succ]
      refine wpAnyH_ready (rs := [10]) (by kernel_rfl) (by simp) ?_
      refine AllReadyH.cons rfl (fun K hK => ?_) AllReadyH.nil
      rw [if_pos (by rfl)]
      go_simp
      refine HC.out.mono ?_
      rintro e w4 ⟨rfl, hb4⟩
      have hb4' : Below wr.heap.size wr w4 := (Below.drew (Below.self wr)).trans hb4
      have HX := Stow.mk (HX.out.kept hb4')
      have HY := Stow.mk (HY.out.kept hb4')
      have HBW := Stow.mk (HBR.out.trans (hb4'.mono HBR.out.size))
      have HRA' := Stow.mk (show w4.rangeAt b (off + j * 13) x.cells from fun i v hv => (hb4'.cell (p := ⟨b, off + j * 13 + i, none⟩) (World.block_lt_of_cell? _ _ (HRA.out i v hv))).trans (HRA.out i v hv))
      have HRB' := Stow.mk (show w4.rangeAt b' (off' + j * 13) y.cells from fun i v hv => (hb4'.cell (p := ⟨b', off' + j * 13 + i, none⟩) (World.block_lt_of_cell? _ _ (HRB.out i v hv))).trans (HRB.out i v hv))
      dsimp only
      refine hK.out _ _ ⟨⟨HX.out.cell (i := 0) rfl, HY.out.cell (i := 0) rfl⟩, HRA'.out, HRB'.out⟩ (fun hHeld => ?_)
      clear hK K hb4 hb4'
      try simp only [List.getElem_toArray, List.getElem_cons_zero, List.getElem_cons_succ, Act.put, List.setIfInBounds_toArray, List.set_cons_zero, List.set_cons_succ]
      refine wpAnyH_take (i := 11) (v := ?v11) rfl (by kernel_rfl) (by kernel_rfl) (by kernel_rfl) (fun _ _ _ h => h) (Or.inl ⟨by rfl, ?hy11⟩) (by assumption) ?rest11
      case hy11 =>
        intro W hSW
        try dsimp only at hSW
        obtain ⟨⟨hs0, hs1⟩, hs2⟩ := hSW
        go_simp
        try with_reducible rfl
      try simp only [List.getElem_toArray, List.getElem_cons_zero, List.getElem_cons_succ, Act.put, List.setIfInBounds_toArray, List.set_cons_zero, List.set_cons_succ]
      refine wpAnyH_done (by kernel_rfl) ?_ _
      clear hHeld
      go_wp2_with fail
      exact ⟨⟨j + 1, rfl, by omega, HBW⟩, by simp [intOf]; omega⟩
    · obtain rfl : j = L.length := by omega
      go_wp2_with fail
      go_ret
      exact ⟨rfl, HB.out⟩
end Go.Proofs.Ythbpcdoddcacdaa
