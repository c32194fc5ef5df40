/- Walks of the reference's top, Enter, Answer. Conditions: the frames' memory; lists not longer than a thousand; texts no longer than a length may be. -/
import Derived.Test.YthbpcdoddcacdaaFlEnter
namespace Go.Proofs.Ythbpcdoddcacdaa
open Go.RowKit
set_option linter.unusedVariables false

theorem rfen_results (W : World) (g : Nat) (v : Value) (k c : Int) (tmps : Array Value) (hH : Held W g [v, .int .i64 k]) (h2 : tmps[4]?.getD undef = .pointer (some ⟨g, 0, none⟩)) (h5 : tmps[5]?.getD undef = .int .i64 c) :
    (results Try.f18 tmps).run Try.prog W = .ok (.tuple #[.agg #[v, .int .i64 k], .int .i64 c]) W := by
  have c0 := hH.cell (i := 0) rfl
  have c1 := hH.cell (i := 1) rfl
  simp [results, Try.results18, go_sem, h2, h5, c0, c1]
theorem rftop_results (W : World) (g : Nat) (v : Value) (k : Int) (tmps : Array Value) (hH : Held W g [v, .int .i64 k]) (h2 : tmps[4]?.getD undef = .pointer (some ⟨g, 0, none⟩)) :
    (results Try.f67 tmps).run Try.prog W = .ok (.agg #[v, .int .i64 k]) W := by
  have c0 := hH.cell (i := 0) rfl
  have c1 := hH.cell (i := 1) rfl
  simp [results, Try.results67, go_sem, h2, c0, c1]
theorem fm_cells13 {L : List Fm} : (∀ x ∈ L.map Fm.cells, x.length = 13) ∧ ∀ x ∈ L.map Fm.cells, ∀ u ∈ x, u.oneCell' = true :=
  ⟨fun x hx => by obtain ⟨y, _, rfl⟩ := List.mem_map.1 hx; rfl, fun x hx => by obtain ⟨y, _, rfl⟩ := List.mem_map.1 hx; exact Fm.one y⟩

set_option maxHeartbeats 2000000 in
set_option maxRecDepth 100000 in
theorem rfEnter_deep (A : Option Addr) (cap n : Nat) (hops : Int) (x : Fm) (w : World) (hn : 6 ≤ n) :
    Calls Try.prog 18 #[flv A n cap hops, x.val] w fun e w' => e = .returned (.tuple #[flv none 0 0 0, .int .i64 14]) ∧ Below w.heap.size w w' := by
  have e1 : (w.alloc (.cells #[.slice A n cap, .int .i64 hops] 24)).heap.size = w.heap.size + 1 := by simp
  have hb1 := Below.alloc' (Below.self w) (.cells #[.slice A n cap, .int .i64 hops] 24)
  have hb2 := Below.alloc' (Below.self (w.alloc (.cells #[.slice A n cap, .int .i64 hops] 24))) (.cells x.cells.toArray 30)
  have hb3 := Below.alloc' (Below.self ((w.alloc (.cells #[.slice A n cap, .int .i64 hops] 24)).alloc (.cells x.cells.toArray 30))) (.cells #[.slice none 0 0, .int .i64 0] 24)
  have h1 := ((Held.made w [.slice A n cap, .int .i64 hops] 24).kept hb2).kept hb3
  have h2 := (Held.made (w.alloc (.cells #[.slice A n cap, .int .i64 hops] 24)) x.cells 30).kept hb3
  have h3 := Held.made ((w.alloc (.cells #[.slice A n cap, .int .i64 hops] 24)).alloc (.cells x.cells.toArray 30)) [.slice none 0 0, .int .i64 0] 24
  have hb := Below.call (Below.call hb1 hb2) hb3
  obtain ⟨W0, hW0⟩ : ∃ W, ((w.alloc (.cells #[.slice A n cap, .int .i64 hops] 24)).alloc (.cells x.cells.toArray 30)).alloc (.cells #[.slice none 0 0, .int .i64 0] 24) = W := ⟨_, rfl⟩
  have hsz : W0.heap.size = w.heap.size + 1 + 1 + 1 := by rw [← hW0]; simp
  have HX := Stow.mk (show Held W0 w.heap.size [.slice A n cap, .int .i64 hops] by rw [← hW0]; exact h1)
  have HP := Stow.mk (show Held W0 (w.heap.size + 1) x.cells by rw [← hW0, ← e1]; exact h2)
  have HR := Stow.mk (show Held W0 (w.heap.size + 1 + 1) [.slice none 0 0, .int .i64 0] by rw [← hW0]; simpa using h3)
  have HB := Stow.mk (show Below w.heap.size w W0 by rw [← hW0]; exact hb)
  clear h1 h2 h3 hb hb1 hb2 hb3 e1
  have d1 : decide ((6 : Int) ≤ n) = true := by simp; omega
  have d1' : decide (6 ≤ n) = true := by simpa using hn
  have HW0 := Stow.mk hW0
  unfold Fm.val
  unfold Fm.cells at HW0 ⊢
  clear hW0
  go_enter Try.func18, Try.ntmps18
  go_upto_region 1 with fail
  generalize hW : World.alloc (World.alloc (World.alloc w _) _) _ = W
  obtain rfl : W = W0 := hW.symm.trans HW0.out
  clear hW HW0
  have q0 := HX.out.cell (i := 0) rfl
  have s0 := HR.out.free 0
  have s1 := HR.out.free 1
  have r0 := HR.out.cell (i := 0) rfl
  have r1 := HR.out.cell (i := 1) rfl
  have HN := Stow.mk ((HR.out.set 0 (.slice none 0 0)).set 1 (.int .i64 0))
  have HB2 := Stow.mk ((HB.out.setCell (p := ⟨w.heap.size + 1 + 1, 0, none⟩) (show w.heap.size ≤ w.heap.size + 1 + 1 by omega) (.slice none 0 0)).setCell (p := ⟨w.heap.size + 1 + 1, 1, none⟩) (show w.heap.size ≤ w.heap.size + 1 + 1 by omega) (.int .i64 0))
  go_wp2_with fail
  refine bodyPost_ret (rfen_results _ (w.heap.size + 1 + 1) (.slice none 0 0) 0 14 _ HN.out rfl rfl) rfl ?_
  exact ⟨rfl, HB2.out⟩

theorem Held.undr {w w' : World} {g B : Nat} {cs : List Value} (h : Held w g cs) (hb : Below B w w') (hg : g < B) : Held w' g cs := by
  obtain ⟨t, h⟩ := h
  exact ⟨t, (hb.block g hg).trans h⟩
set_option maxHeartbeats 2000000 in
set_option maxRecDepth 100000 in
theorem rfEnter_ok (A : Option Addr) (cap n : Nat) (L : List Fm) (hops : Int) (x : Fm) (w : World) (hn : n < 6) (h : FlR w A cap L) (hx : FmR w x) (hA : A = none → cap = 0) (hnL : L.length = n) :
    Calls Try.prog 18 #[flv A n cap hops, x.val] w fun e w' => ∃ A' cap' L', e = .returned (.tuple #[flv A' (n + 1) cap' hops, .int .i64 0]) ∧ L'.map Fm.c = L.map Fm.c ++ [x.c] ∧ FlR w' A' cap' L' ∧ Below w.heap.size w w' := by
  have e1 : (w.alloc (.cells #[.slice A n cap, .int .i64 hops] 24)).heap.size = w.heap.size + 1 := by simp
  have hb1 := Below.alloc' (Below.self w) (.cells #[.slice A n cap, .int .i64 hops] 24)
  have hb2 := Below.alloc' (Below.self (w.alloc (.cells #[.slice A n cap, .int .i64 hops] 24))) (.cells x.cells.toArray 30)
  have hb3 := Below.alloc' (Below.self ((w.alloc (.cells #[.slice A n cap, .int .i64 hops] 24)).alloc (.cells x.cells.toArray 30))) (.cells #[.slice none 0 0, .int .i64 0] 24)
  have h1 := ((Held.made w [.slice A n cap, .int .i64 hops] 24).kept hb2).kept hb3
  have h2 := (Held.made (w.alloc (.cells #[.slice A n cap, .int .i64 hops] 24)) x.cells 30).kept hb3
  have h3 := Held.made ((w.alloc (.cells #[.slice A n cap, .int .i64 hops] 24)).alloc (.cells x.cells.toArray 30)) [.slice none 0 0, .int .i64 0] 24
  have hb := Below.call (Below.call hb1 hb2) hb3
  obtain ⟨W0, hW0⟩ : ∃ W, ((w.alloc (.cells #[.slice A n cap, .int .i64 hops] 24)).alloc (.cells x.cells.toArray 30)).alloc (.cells #[.slice none 0 0, .int .i64 0] 24) = W := ⟨_, rfl⟩
  have hsz : W0.heap.size = w.heap.size + 1 + 1 + 1 := by rw [← hW0]; simp
  have HX := Stow.mk (show Held W0 w.heap.size [.slice A n cap, .int .i64 hops] by rw [← hW0]; exact h1)
  have HP := Stow.mk (show Held W0 (w.heap.size + 1) x.cells by rw [← hW0, ← e1]; exact h2)
  have HR := Stow.mk (show Held W0 (w.heap.size + 1 + 1) [.slice none 0 0, .int .i64 0] by rw [← hW0]; simpa using h3)
  have HB := Stow.mk (show Below w.heap.size w W0 by rw [← hW0]; exact hb)
  clear h1 h2 h3 hb hb1 hb2 hb3 e1
  have d1 : decide ((6 : Int) ≤ n) = false := by simp; omega
  have d1' : decide (6 ≤ n) = false := by simp; omega
  have HFL := Stow.mk h
  have HFX := Stow.mk hx
  have HA := Stow.mk hA
  have HNL := Stow.mk hnL
  have hsz1 : w.heap.size + 1 + 1 < W0.heap.size := by omega
  have HW0 := Stow.mk hW0
  have HSL := (h.keep HB.out).row
  rw [hnL] at HSL
  have HSL := Stow.mk HSL
  have K8 : Stow (0 + n ≤ maxLen ∧ (0 + n) * 176 ≤ 140737488355328 ∧ n + 1 ≤ maxLen ∧ (n + 1) * 176 ≤ 140737488355328) := ⟨by unfold maxLen; omega, by omega, by unfold maxLen; omega, by omega⟩
  unfold Fm.val
  unfold Fm.cells at HW0 ⊢
  clear hW0 h hx hA hnL
  go_enter Try.func18, Try.ntmps18
  go_upto_region 1 with fail
  generalize hW : World.alloc (World.alloc (World.alloc w _) _) _ = W
  obtain rfl : W = W0 := hW.symm.trans HW0.out
  clear hW HW0
  have q0 := HX.out.cell (i := 0) rfl
  go_upto_region 5 with (at_builtin; refine wpList_append_slr (World.ownsRow_nil W W.heap.size 30 13) (L.map Fm.cells) A n cap HSL.out HA.out fm_cells13.1 fm_cells13.2 rfl (.tmp 12) (.tmp 14) 22 rfl Try.underlying22 info_fr rfl (by decide) rfl rfl K8.out.1 K8.out.2.1 (Nat.le_refl _) ?_; intro A4 c4 w4 h4 hg4 hb4; rw [Nat.zero_add, List.nil_append, ← List.flatMap_def] at h4; rw [Nat.zero_add])
  have HO4 := Stow.mk h4
  have HX := Stow.mk (HX.out.kept hb4)
  have HR := Stow.mk (HR.out.kept hb4)
  have HP := Stow.mk (HP.out.kept hb4)
  have HB := Stow.mk (HB.out.trans (hb4.mono HB.out.size))
  have HZ := Stow.mk hb4
  have hs4 := hb4.size
  clear q0 h4 hg4 hb4
  have c0x := HP.out.cell (i := 0) rfl
  have c1x := HP.out.cell (i := 1) rfl
  have c2x := HP.out.cell (i := 2) rfl
  have c3x := HP.out.cell (i := 3) rfl
  have c4x := HP.out.cell (i := 4) rfl
  have c5x := HP.out.cell (i := 5) rfl
  have c6x := HP.out.cell (i := 6) rfl
  have c7x := HP.out.cell (i := 7) rfl
  have c8x := HP.out.cell (i := 8) rfl
  have c9x := HP.out.cell (i := 9) rfl
  have c10x := HP.out.cell (i := 10) rfl
  have c11x := HP.out.cell (i := 11) rfl
  have c12x := HP.out.cell (i := 12) rfl
  go_upto_region 6 with ((at_builtin; refine wpList_append_elem_form w4 x.cells _ rfl (.tmp 16) (.tmp 18) 22 rfl W.heap.size 30 _ 13 176 Try.underlying22 info_fr _ _ _ HO4.out rfl _ rfl rfl rfl (by decide) rfl (Fm.one x) K8.out.2.2.2 K8.out.2.2.1 hs4 ?_; intro A5 c5 w5 h5 hg5 hb5 hs5))
  have HQL := Stow.mk HNL.out
  have HSUB := Stow.mk (fun (y : Fm) (hy : y ∈ L) => hy)
  have HSA := Stow.mk (show (L ++ [x]).map Fm.c = L.map Fm.c ++ [x.c] by rw [List.map_append, List.map_singleton])
  have HX := Stow.mk (HX.out.undr hb5 (by omega))
  have HR := Stow.mk (HR.out.undr hb5 (by omega))
  have HB := Stow.mk (HB.out.trans (hb5.mono (by omega)))
  have HFO := Stow.mk (show FlO w5 W.heap.size A5 c5 (L ++ [x]) by
    unfold FlO
    rw [List.length_append, List.length_singleton, HQL.out, List.flatMap_append, List.flatMap_singleton]
    exact h5)
  clear h5 hb5 hs5 hg5
  clear c0x c1x c2x c3x c4x c5x c6x c7x c8x c9x c10x c11x c12x
  have q0 := HX.out.cell (i := 0) rfl
  have f0 := HX.out.free 0
  have hO6 : Only w.heap.size w5 (w5.setCell ⟨w.heap.size, 0, none⟩ (.slice A5 (n + 1) c5)) := Only.set _ _ 0 _
  have HX := Stow.mk (HX.out.set 0 (.slice A5 (n + 1) c5))
  have HR := Stow.mk (HR.out.offO hO6 (by omega))
  have HB := Stow.mk (HB.out.trans (hO6.below (Nat.le_refl _) HB.out.size))
  have HFO := Stow.mk (own_undr HFO.out hO6 (by omega))
  go_upto_region 7 with fail
  obtain ⟨W6, hW6⟩ : ∃ W, w5.setCell ⟨w.heap.size, 0, none⟩ (.slice A5 (n + 1) c5) = W := ⟨_, rfl⟩
  rw [hW6] at HX HR HB HFO
  rw [hW6]
  clear hW6 hO6 q0 f0
  have q0 := HX.out.cell (i := 0) rfl
  have q1 := HX.out.cell (i := 1) rfl
  have s0 := HR.out.free 0
  have s1 := HR.out.free 1
  have r0 := HR.out.cell (i := 0) rfl
  have r1 := HR.out.cell (i := 1) rfl
  have hO1 : Only (w.heap.size + 1 + 1) W6 (W6.setCell ⟨w.heap.size + 1 + 1, 0, none⟩ (.slice A5 (n + 1) c5)) := Only.set _ _ 0 _
  have hO2 : Only (w.heap.size + 1 + 1) (W6.setCell ⟨w.heap.size + 1 + 1, 0, none⟩ (.slice A5 (n + 1) c5)) ((W6.setCell ⟨w.heap.size + 1 + 1, 0, none⟩ (.slice A5 (n + 1) c5)).setCell ⟨w.heap.size + 1 + 1, 1, none⟩ (.int .i64 hops)) := Only.set _ _ 1 _
  have hO := hO1.trans hO2
  have HN := Stow.mk ((HR.out.set 0 (.slice A5 (n + 1) c5)).set 1 (.int .i64 hops))
  have HFO := Stow.mk (own_undr HFO.out hO (by omega))
  have HB2 := Stow.mk (HB.out.trans (hO.below (show w.heap.size ≤ w.heap.size + 1 + 1 by omega) HB.out.size))
  clear hO1 hO2 hO
  go_wp2_with fail
  refine bodyPost_ret (rfen_results _ (w.heap.size + 1 + 1) (.slice A5 (n + 1) c5) hops 0 _ HN.out rfl rfl) rfl ?_
  exact ⟨A5, c5, L ++ [x], rfl, HSA.out, ⟨FlO.read HFO.out, fun y hy => by
    rcases List.mem_append.1 hy with hy | hy
    · exact (HFL.out.each y (HSUB.out y hy)).keep HB2.out
    · obtain rfl : y = x := by simpa using hy
      exact HFX.out.keep HB2.out⟩, HB2.out⟩
set_option maxHeartbeats 2000000 in
set_option maxRecDepth 100000 in
theorem rfTop_any (A : Option Addr) (cap k : Nat) (Q : List Fm) (y : Fm) (hops : Int) (x : Fm) (w : World) (hn : k ≤ 1000) (h : FlR w A cap (Q ++ [y])) (hx : FmR w x) (hA : A = none → cap = 0) (hQ : Q.length = k) :
    Calls Try.prog 67 #[flv A (k + 1) cap hops, x.val] w fun e w' => ∃ A' cap', e = .returned (flv A' (k + 1) cap' hops) ∧ FlO w' w.heap.size A' cap' (Q ++ [x]) ∧ Below w.heap.size w w' := by
  have e1 : (w.alloc (.cells #[.slice A (k + 1) cap, .int .i64 hops] 24)).heap.size = w.heap.size + 1 := by simp
  have hb1 := Below.alloc' (Below.self w) (.cells #[.slice A (k + 1) cap, .int .i64 hops] 24)
  have hb2 := Below.alloc' (Below.self (w.alloc (.cells #[.slice A (k + 1) cap, .int .i64 hops] 24))) (.cells x.cells.toArray 30)
  have hb3 := Below.alloc' (Below.self ((w.alloc (.cells #[.slice A (k + 1) cap, .int .i64 hops] 24)).alloc (.cells x.cells.toArray 30))) (.cells #[.slice none 0 0, .int .i64 0] 24)
  have h1 := ((Held.made w [.slice A (k + 1) cap, .int .i64 hops] 24).kept hb2).kept hb3
  have h2 := (Held.made (w.alloc (.cells #[.slice A (k + 1) cap, .int .i64 hops] 24)) x.cells 30).kept hb3
  have h3 := Held.made ((w.alloc (.cells #[.slice A (k + 1) cap, .int .i64 hops] 24)).alloc (.cells x.cells.toArray 30)) [.slice none 0 0, .int .i64 0] 24
  have hb := Below.call (Below.call hb1 hb2) hb3
  obtain ⟨W0, hW0⟩ : ∃ W, ((w.alloc (.cells #[.slice A (k + 1) cap, .int .i64 hops] 24)).alloc (.cells x.cells.toArray 30)).alloc (.cells #[.slice none 0 0, .int .i64 0] 24) = W := ⟨_, rfl⟩
  have hsz : W0.heap.size = w.heap.size + 1 + 1 + 1 := by rw [← hW0]; simp
  have HX := Stow.mk (show Held W0 w.heap.size [.slice A (k + 1) cap, .int .i64 hops] by rw [← hW0]; exact h1)
  have HP := Stow.mk (show Held W0 (w.heap.size + 1) x.cells by rw [← hW0, ← e1]; exact h2)
  have HR := Stow.mk (show Held W0 (w.heap.size + 1 + 1) [.slice none 0 0, .int .i64 0] by rw [← hW0]; simpa using h3)
  have HB := Stow.mk (show Below w.heap.size w W0 by rw [← hW0]; exact hb)
  clear h1 h2 h3 hb hb1 hb2 hb3 e1
  have HFL := Stow.mk h
  have HFX := Stow.mk hx
  have HA := Stow.mk hA
  have HQL := Stow.mk hQ
  have hsz1 : w.heap.size + 1 + 1 < W0.heap.size := by omega
  have HW0 := Stow.mk hW0
  have HSL := (h.keep HB.out).row.take k (by simp [hQ])
  rw [← List.map_take, List.take_left' hQ] at HSL
  have HSL := Stow.mk HSL
  have hcap : (k : Int) + 1 ≤ cap ∧ (cap : Int) ≤ 9223372036854775807 := by
    obtain ⟨A', cap', hv, h1, h2, _⟩ := h.row
    simp only [Value.slice.injEq] at hv
    obtain ⟨_, _, rfl⟩ := hv
    simp [hQ] at h1
    unfold maxLen at h2
    omega
  obtain ⟨hcap0, hcap2⟩ := hcap
  have hcap1 : (k : Int) ≤ cap := by omega
  have e1 : IntKind.i64.wrap (((k + 1 : Nat) : Int) - 1) = (k : Int) := by rw [IntWalk.i64_in _ (by omega)]; omega
  have hk0 : (0 : Int) ≤ k := by omega
  have K8 : Stow (0 + k ≤ maxLen ∧ (0 + k) * 176 ≤ 140737488355328 ∧ k + 1 ≤ maxLen ∧ (k + 1) * 176 ≤ 140737488355328) := ⟨by unfold maxLen; omega, by omega, by unfold maxLen; omega, by omega⟩
  unfold Fm.val
  unfold Fm.cells at HW0 ⊢
  clear hW0 h hx hA hQ
  go_enter Try.func67, Try.ntmps67
  go_upto_region 1 with fail
  generalize hW : World.alloc (World.alloc (World.alloc w _) _) _ = W
  obtain rfl : W = W0 := hW.symm.trans HW0.out
  clear hW HW0
  have q0 := HX.out.cell (i := 0) rfl
  go_upto_region 3 with (at_builtin; refine wpList_append_slr (World.ownsRow_nil W W.heap.size 30 13) (Q.map Fm.cells) A k cap HSL.out HA.out fm_cells13.1 fm_cells13.2 rfl (.tmp 6) (.tmp 13) 22 rfl Try.underlying22 info_fr rfl (by decide) rfl rfl K8.out.1 K8.out.2.1 (Nat.le_refl _) ?_; intro A4 c4 w4 h4 hg4 hb4; rw [Nat.zero_add, List.nil_append, ← List.flatMap_def] at h4; rw [Nat.zero_add])
  have HO4 := Stow.mk h4
  have HX := Stow.mk (HX.out.kept hb4)
  have HR := Stow.mk (HR.out.kept hb4)
  have HP := Stow.mk (HP.out.kept hb4)
  have HB := Stow.mk (HB.out.trans (hb4.mono HB.out.size))
  have HZ := Stow.mk hb4
  have hs4 := hb4.size
  clear q0 h4 hg4 hb4
  have c0x := HP.out.cell (i := 0) rfl
  have c1x := HP.out.cell (i := 1) rfl
  have c2x := HP.out.cell (i := 2) rfl
  have c3x := HP.out.cell (i := 3) rfl
  have c4x := HP.out.cell (i := 4) rfl
  have c5x := HP.out.cell (i := 5) rfl
  have c6x := HP.out.cell (i := 6) rfl
  have c7x := HP.out.cell (i := 7) rfl
  have c8x := HP.out.cell (i := 8) rfl
  have c9x := HP.out.cell (i := 9) rfl
  have c10x := HP.out.cell (i := 10) rfl
  have c11x := HP.out.cell (i := 11) rfl
  have c12x := HP.out.cell (i := 12) rfl
  go_upto_region 4 with ((at_builtin; refine wpList_append_elem_form w4 x.cells _ rfl (.tmp 15) (.tmp 17) 22 rfl W.heap.size 30 _ 13 176 Try.underlying22 info_fr _ _ _ HO4.out rfl _ rfl rfl rfl (by decide) rfl (Fm.one x) K8.out.2.2.2 K8.out.2.2.1 hs4 ?_; intro A5 c5 w5 h5 hg5 hb5 hs5))
  have HSUB := Stow.mk (fun (z : Fm) (hz : z ∈ Q) => show z ∈ Q ++ [y] from List.mem_append_left _ hz)
  have HSA := Stow.mk (show (Q ++ [x]).map Fm.c = Q.map Fm.c ++ [x.c] by rw [List.map_append, List.map_singleton])
  have HX := Stow.mk (HX.out.undr hb5 (by omega))
  have HR := Stow.mk (HR.out.undr hb5 (by omega))
  have HB := Stow.mk (HB.out.trans (hb5.mono (by omega)))
  have HFO := Stow.mk (show FlO w5 W.heap.size A5 c5 (Q ++ [x]) by
    unfold FlO
    rw [List.length_append, List.length_singleton, HQL.out, List.flatMap_append, List.flatMap_singleton]
    exact h5)
  clear h5 hb5 hs5 hg5
  clear c0x c1x c2x c3x c4x c5x c6x c7x c8x c9x c10x c11x c12x
  have q0 := HX.out.cell (i := 0) rfl
  have f0 := HX.out.free 0
  have hO6 : Only w.heap.size w5 (w5.setCell ⟨w.heap.size, 0, none⟩ (.slice A5 (k + 1) c5)) := Only.set _ _ 0 _
  have HX := Stow.mk (HX.out.set 0 (.slice A5 (k + 1) c5))
  have HR := Stow.mk (HR.out.offO hO6 (by omega))
  have HB := Stow.mk (HB.out.trans (hO6.below (Nat.le_refl _) HB.out.size))
  have HFO := Stow.mk (own_undr HFO.out hO6 (by omega))
  go_upto_region 5 with fail
  obtain ⟨W6, hW6⟩ : ∃ W, w5.setCell ⟨w.heap.size, 0, none⟩ (.slice A5 (k + 1) c5) = W := ⟨_, rfl⟩
  rw [hW6] at HX HR HB HFO
  rw [hW6]
  clear hW6 hO6 q0 f0
  have q0 := HX.out.cell (i := 0) rfl
  have q1 := HX.out.cell (i := 1) rfl
  have s0 := HR.out.free 0
  have s1 := HR.out.free 1
  have r0 := HR.out.cell (i := 0) rfl
  have r1 := HR.out.cell (i := 1) rfl
  have hO1 : Only (w.heap.size + 1 + 1) W6 (W6.setCell ⟨w.heap.size + 1 + 1, 0, none⟩ (.slice A5 (k + 1) c5)) := Only.set _ _ 0 _
  have hO2 : Only (w.heap.size + 1 + 1) (W6.setCell ⟨w.heap.size + 1 + 1, 0, none⟩ (.slice A5 (k + 1) c5)) ((W6.setCell ⟨w.heap.size + 1 + 1, 0, none⟩ (.slice A5 (k + 1) c5)).setCell ⟨w.heap.size + 1 + 1, 1, none⟩ (.int .i64 hops)) := Only.set _ _ 1 _
  have hO := hO1.trans hO2
  have HN := Stow.mk ((HR.out.set 0 (.slice A5 (k + 1) c5)).set 1 (.int .i64 hops))
  have HFO := Stow.mk (own_undr HFO.out hO (by omega))
  have HB2 := Stow.mk (HB.out.trans (hO.below (show w.heap.size ≤ w.heap.size + 1 + 1 by omega) HB.out.size))
  clear hO1 hO2 hO
  go_wp2_with fail
  refine bodyPost_ret (rftop_results _ (w.heap.size + 1 + 1) (.slice A5 (k + 1) c5) hops _ HN.out rfl) rfl ?_
  exact ⟨A5, c5, rfl, World.ownsRow.mono HFO.out (by omega), HB2.out⟩
end Go.Proofs.Ythbpcdoddcacdaa
