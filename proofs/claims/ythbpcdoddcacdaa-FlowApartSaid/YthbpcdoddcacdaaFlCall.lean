/- Walk of flow's call: the request that a call asks. Conditions: the frame's row is the call's own; lists not longer than a thousand. -/
import Derived.Test.YthbpcdoddcacdaaFlDo
import Derived.Test.YthbpcdoddcacdaaHdWout
namespace Go.Proofs.Ythbpcdoddcacdaa
open Go.RowKit
set_option linter.unusedVariables false

theorem flcall_results (W : World) (g : Nat) (a b c d e : Value) (tmps : Array Value) (hH : Held W g [a, b, c, d, e]) (h2 : tmps[4]?.getD undef = .pointer (some ⟨g, 0, none⟩)) :
    (results Try.f92 tmps).run Try.prog W = .ok (.agg #[a, b, c, d, e]) W := by
  have c0 := hH.cell (i := 0) rfl
  have c1 := hH.cell (i := 1) rfl
  have c2 := hH.cell (i := 2) rfl
  have c3 := hH.cell (i := 3) rfl
  have c4 := hH.cell (i := 4) rfl
  simp [results, Try.results92, go_sem, h2, c0, c1, c2, c3, c4]
set_option maxHeartbeats 2000000 in
set_option maxRecDepth 100000 in
theorem flCall_any (w : World) (B g cap : Nat) (Q : List Fm) (x : Fm) (o : Ox) (h : FT w B g cap Q x) (hR : FmR w x) (hn : x.c.hs.length ≤ 1000) :
    Calls Try.prog 92 #[.pointer (some ⟨g, Q.length * 13, none⟩), .agg #[.int .i64 o.k, .string (bs o.a), .string (bs o.b), .int .i64 o.n]] w fun e w' => ∃ A' c', e = .returned (.agg #[.string (bs x.c.m), .string (bs o.a), .string (bs o.b), .slice A' (hdStrip x.c.hs).length c', .string (bs x.c.body)]) ∧ ORow w' w.heap.size (.slice A' (hdStrip x.c.hs).length c') (hdStrip x.c.hs) ∧ Below w.heap.size w w' := by
  have ba1 := Below.alloc' (Below.self w) (.cells #[.int .i64 o.k, .string (bs o.a), .string (bs o.b), .int .i64 o.n] 106)
  have ba2 := Below.alloc' (Below.self (w.alloc (.cells #[.int .i64 o.k, .string (bs o.a), .string (bs o.b), .int .i64 o.n] 106))) (.cells #[.string (bs []), .string (bs []), .string (bs []), .slice none 0 0, .string (bs [])] 28)
  have h1 := (Held.made w [.int .i64 o.k, .string (bs o.a), .string (bs o.b), .int .i64 o.n] 106).kept ba2
  have h2 := Held.made (w.alloc (.cells #[.int .i64 o.k, .string (bs o.a), .string (bs o.b), .int .i64 o.n] 106)) [.string (bs []), .string (bs []), .string (bs []), .slice none 0 0, .string (bs [])] 28
  have hb := Below.call ba1 ba2
  obtain ⟨W0, hW0⟩ : ∃ W, (w.alloc (.cells #[.int .i64 o.k, .string (bs o.a), .string (bs o.b), .int .i64 o.n] 106)).alloc (.cells #[.string (bs []), .string (bs []), .string (bs []), .slice none 0 0, .string (bs [])] 28) = W := ⟨_, rfl⟩
  have hsz : W0.heap.size = w.heap.size + 1 + 1 := by rw [← hW0]; simp
  have HX := Stow.mk (show Held W0 w.heap.size [.int .i64 o.k, .string (bs o.a), .string (bs o.b), .int .i64 o.n] by rw [← hW0]; exact h1)
  have HRC := Stow.mk (show Held W0 (w.heap.size + 1) [.string (bs []), .string (bs []), .string (bs []), .slice none 0 0, .string (bs [])] by rw [← hW0]; simpa using h2)
  have HB := Stow.mk (show Below w.heap.size w W0 by rw [← hW0]; exact hb)
  have HT := Stow.mk (h.keep HB.out)
  have hgl := h.lt.2
  have HC := Stow.mk (hdStrip_any x.ha x.hc x.c.hs W0.drew ((hR.keep HB.out).keep (Below.drew (Below.self W0))).heads (by omega))
  have HW0 := Stow.mk hW0
  clear h hR h1 h2 hb ba1 ba2 hW0
  have m0 : W0.cell? ⟨g, Q.length * 13 + 5, none⟩ = some (.string (bs x.c.m)) := HT.out.cell (j := 5) rfl
  have m8 : W0.cell? ⟨g, Q.length * 13 + 5 + 3, none⟩ = some (.slice x.ha x.c.hs.length x.hc) := HT.out.cell (j := 8) rfl
  have m4 : W0.cell? ⟨g, Q.length * 13 + 4, none⟩ = some (.string (bs x.c.body)) := HT.out.cell (j := 4) rfl
  have q1 := HX.out.cell (i := 1) rfl
  have q2 := HX.out.cell (i := 2) rfl
  have hne1 : ¬ (w.heap.size + 1 = g) := by omega
  have hne2 : ¬ (w.heap.size + 1 = w.heap.size) := by omega
  obtain ⟨L', hL'⟩ : ∃ L, hdStrip x.c.hs = L := ⟨_, rfl⟩
  rw [hL'] at HC
  rw [hL']
  clear hL'
  go_enter Try.func92, Try.ntmps92
  go_upto_region 1 with fail
  generalize hW : World.alloc (World.alloc w _) _ = W
  obtain rfl : W = W0 := hW.symm.trans HW0.out
  clear hW HW0
  go_region_held3 (fun w' => w'.cell? ⟨g, Q.length * 13 + 5, none⟩ = some (.string (bs x.c.m)) ∧ w'.cell? ⟨w.heap.size, 1, none⟩ = some (.string (bs o.a)) ∧ w'.cell? ⟨w.heap.size, 2, none⟩ = some (.string (bs o.b)) ∧ w'.cell? ⟨g, Q.length * 13 + 5 + 3, none⟩ = some (.slice x.ha x.c.hs.length x.hc) ∧ w'.cell? ⟨g, Q.length * 13 + 4, none⟩ = some (.string (bs x.c.body))) (first | go_keep | exact hkk)
    (first
      | (go_at_call 112; refine HC.out.mono ?_; rintro e w6 ⟨A6, c6, rfl, hr6, hb6⟩; have HB6 := Stow.mk ((Below.drew (Below.self W)).trans hb6); have HR6 := Stow.mk (HRC.out.kept HB6.out); have r0 := HR6.out.cell (i := 0) rfl; have r1 := HR6.out.cell (i := 1) rfl; have r2 := HR6.out.cell (i := 2) rfl; have r3 := HR6.out.cell (i := 3) rfl; have r4 := HR6.out.cell (i := 4) rfl; have s0 := HR6.out.free 0; have s1 := HR6.out.free 1; have s2 := HR6.out.free 2; have s3 := HR6.out.free 3; have s4 := HR6.out.free 4
         have hkk := And.intro ((HB6.out.cell (p := ⟨g, Q.length * 13 + 5, none⟩) HT.out.lt.2).trans m0) (And.intro ((HX.out.kept HB6.out).cell (i := 1) rfl) (And.intro ((HX.out.kept HB6.out).cell (i := 2) rfl) (And.intro ((HB6.out.cell (p := ⟨g, Q.length * 13 + 5 + 3, none⟩) HT.out.lt.2).trans m8) ((HB6.out.cell (p := ⟨g, Q.length * 13 + 4, none⟩) HT.out.lt.2).trans m4))))))
  have hO0 : Only (w.heap.size + 1) w6 (World.setCell w6 ⟨w.heap.size + 1, 0, none⟩ (.string (bs x.c.m))) := Only.set _ _ 0 _
  have hO1 : Only (w.heap.size + 1) (World.setCell w6 ⟨w.heap.size + 1, 0, none⟩ (.string (bs x.c.m))) (World.setCell (World.setCell w6 ⟨w.heap.size + 1, 0, none⟩ (.string (bs x.c.m))) ⟨w.heap.size + 1, 1, none⟩ (.string (bs o.a))) := Only.set _ _ 1 _
  have hO2 : Only (w.heap.size + 1) (World.setCell (World.setCell w6 ⟨w.heap.size + 1, 0, none⟩ (.string (bs x.c.m))) ⟨w.heap.size + 1, 1, none⟩ (.string (bs o.a))) (World.setCell (World.setCell (World.setCell w6 ⟨w.heap.size + 1, 0, none⟩ (.string (bs x.c.m))) ⟨w.heap.size + 1, 1, none⟩ (.string (bs o.a))) ⟨w.heap.size + 1, 2, none⟩ (.string (bs o.b))) := Only.set _ _ 2 _
  have hO3 : Only (w.heap.size + 1) (World.setCell (World.setCell (World.setCell w6 ⟨w.heap.size + 1, 0, none⟩ (.string (bs x.c.m))) ⟨w.heap.size + 1, 1, none⟩ (.string (bs o.a))) ⟨w.heap.size + 1, 2, none⟩ (.string (bs o.b))) (World.setCell (World.setCell (World.setCell (World.setCell w6 ⟨w.heap.size + 1, 0, none⟩ (.string (bs x.c.m))) ⟨w.heap.size + 1, 1, none⟩ (.string (bs o.a))) ⟨w.heap.size + 1, 2, none⟩ (.string (bs o.b))) ⟨w.heap.size + 1, 3, none⟩ (.slice A6 L'.length c6)) := Only.set _ _ 3 _
  have hO4 : Only (w.heap.size + 1) (World.setCell (World.setCell (World.setCell (World.setCell w6 ⟨w.heap.size + 1, 0, none⟩ (.string (bs x.c.m))) ⟨w.heap.size + 1, 1, none⟩ (.string (bs o.a))) ⟨w.heap.size + 1, 2, none⟩ (.string (bs o.b))) ⟨w.heap.size + 1, 3, none⟩ (.slice A6 L'.length c6)) (World.setCell (World.setCell (World.setCell (World.setCell (World.setCell w6 ⟨w.heap.size + 1, 0, none⟩ (.string (bs x.c.m))) ⟨w.heap.size + 1, 1, none⟩ (.string (bs o.a))) ⟨w.heap.size + 1, 2, none⟩ (.string (bs o.b))) ⟨w.heap.size + 1, 3, none⟩ (.slice A6 L'.length c6)) ⟨w.heap.size + 1, 4, none⟩ (.string (bs x.c.body))) := Only.set _ _ 4 _
  have hO := (((hO0.trans hO1).trans hO2).trans hO3).trans hO4
  have HN := Stow.mk (((((HR6.out.set 0 (.string (bs x.c.m))).set 1 (.string (bs o.a))).set 2 (.string (bs o.b))).set 3 (.slice A6 L'.length c6)).set 4 (.string (bs x.c.body)))
  have HOR := Stow.mk (World.ownsRow.mono (own_undr hr6 hO (by have := hsz; simp; omega)) (show w.heap.size ≤ W.drew.heap.size by simp; omega))
  have HBF := Stow.mk (HB.out.trans ((HB6.out.mono HB.out.size).trans (hO.below (Nat.le_succ _) (Nat.le_trans HB.out.size HB6.out.size))))
  clear hO0 hO1 hO2 hO3 hO4 hO hkk r0 r1 r2 r3 r4 s0 s1 s2 s3 s4 hr6 hb6
  go_wp2_with fail
  refine bodyPost_ret (flcall_results _ (w.heap.size + 1) _ _ _ _ _ _ HN.out rfl) rfl ?_
  exact ⟨A6, c6, rfl, HOR.out, HBF.out⟩
end Go.Proofs.Ythbpcdoddcacdaa
