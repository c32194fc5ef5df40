/- Walk of the reference's Answer. Conditions: the frames' memory; texts no longer than a length may be. -/
import Derived.Test.YthbpcdoddcacdaaFlRef
namespace Go.Proofs.Ythbpcdoddcacdaa
open Go.RowKit
set_option linter.unusedVariables false

theorem rfan_results (W : World) (g : Nat) (v : Value) (k : Int) (tmps : Array Value) (hH : Held W g [v, .int .i64 k]) (h2 : tmps[4]?.getD undef = .pointer (some ⟨g, 0, none⟩)) :
    (results Try.f21 tmps).run Try.prog W = .ok (.agg #[v, .int .i64 k]) W := by
  have c0 := hH.cell (i := 0) rfl
  have c1 := hH.cell (i := 1) rfl
  simp [results, Try.results21, go_sem, h2, c0, c1]
set_option maxHeartbeats 2000000 in
set_option maxRecDepth 100000 in
theorem rfAnswer_any (A : Option Addr) (cap n : Nat) (L : List Fm) (hops st : Int) (v : Value) (s : Txt) (w : World) (h : FlR w A cap L) (hn : L.length ≤ 1000) (hl : ∀ x ∈ L, x.c.body.length + s.length ≤ 9223372036854775807) (hnL : L.length = n) (hA : A = none → cap = 0) :
    Calls Try.prog 21 #[flv A n cap hops, .agg #[.int .i64 st, v, .string (bs s)]] w fun e w' => ∃ A' cap' L', e = .returned (flv A' n cap' hops) ∧ L'.map Fm.c = ansL st s (L.map Fm.c) ∧ FlR w' A' cap' L' ∧ Below w.heap.size w w' := by
  have e1 : (w.alloc (.cells #[.slice A n cap, .int .i64 hops] 24)).heap.size = w.heap.size + 1 := by simp
  have hb1 := Below.alloc' (Below.self w) (.cells #[.slice A n cap, .int .i64 hops] 24)
  have hb2 := Below.alloc' (Below.self (w.alloc (.cells #[.slice A n cap, .int .i64 hops] 24))) (.cells #[.int .i64 st, v, .string (bs s)] 32)
  have hb3 := Below.alloc' (Below.self ((w.alloc (.cells #[.slice A n cap, .int .i64 hops] 24)).alloc (.cells #[.int .i64 st, v, .string (bs s)] 32))) (.cells #[.slice none 0 0, .int .i64 0] 24)
  have h1 := ((Held.made w [.slice A n cap, .int .i64 hops] 24).kept hb2).kept hb3
  have h2 := (Held.made (w.alloc (.cells #[.slice A n cap, .int .i64 hops] 24)) [.int .i64 st, v, .string (bs s)] 32).kept hb3
  have h3 := Held.made ((w.alloc (.cells #[.slice A n cap, .int .i64 hops] 24)).alloc (.cells #[.int .i64 st, v, .string (bs s)] 32)) [.slice none 0 0, .int .i64 0] 24
  have hb := Below.call (Below.call hb1 hb2) hb3
  obtain ⟨W0, hW0⟩ : ∃ W, ((w.alloc (.cells #[.slice A n cap, .int .i64 hops] 24)).alloc (.cells #[.int .i64 st, v, .string (bs s)] 32)).alloc (.cells #[.slice none 0 0, .int .i64 0] 24) = W := ⟨_, rfl⟩
  have hsz : W0.heap.size = w.heap.size + 1 + 1 + 1 := by rw [← hW0]; simp
  have HX := Stow.mk (show Held W0 w.heap.size [.slice A n cap, .int .i64 hops] by rw [← hW0]; exact h1)
  have HP := Stow.mk (show Held W0 (w.heap.size + 1) [.int .i64 st, v, .string (bs s)] by rw [← hW0, ← e1]; exact h2)
  have HR := Stow.mk (show Held W0 (w.heap.size + 1 + 1) [.slice none 0 0, .int .i64 0] by rw [← hW0]; simpa using h3)
  have HB := Stow.mk (show Below w.heap.size w W0 by rw [← hW0]; exact hb)
  have HFL := Stow.mk h
  have HL := Stow.mk hl
  have HA := Stow.mk hA
  have hn2 : n ≤ 1000 := by omega
  have HW0 := Stow.mk hW0
  clear h1 h2 h3 hb hb1 hb2 hb3 e1 hl hW0 hA
  rcases n with _ | k
  · obtain rfl := List.eq_nil_of_length_eq_zero hnL
    clear hnL hn
    go_enter Try.func21, Try.ntmps21
    go_upto_region 1 with fail
    rw [HW0.out]
    clear HW0
    have q0 := HX.out.cell (i := 0) rfl
    have q1 := HX.out.cell (i := 1) rfl
    have hO1 : Only (w.heap.size + 1 + 1) W0 (World.setCell W0 ⟨w.heap.size + 1 + 1, 0, none⟩ (.slice A 0 cap)) := Only.set _ _ 0 _
    have hO2 : Only (w.heap.size + 1 + 1) (World.setCell W0 ⟨w.heap.size + 1 + 1, 0, none⟩ (.slice A 0 cap)) ((World.setCell W0 ⟨w.heap.size + 1 + 1, 0, none⟩ (.slice A 0 cap)).setCell ⟨w.heap.size + 1 + 1, 1, none⟩ (.int .i64 hops)) := Only.set _ _ 1 _
    have hO := hO1.trans hO2
    have HN := Stow.mk ((HR.out.set 0 (.slice A 0 cap)).set 1 (.int .i64 hops))
    have HB2 := Stow.mk (HB.out.trans (hO.below (show w.heap.size ≤ w.heap.size + 1 + 1 by omega) HB.out.size))
    have s0 := HR.out.free 0
    have s1 := HR.out.free 1
    have r0 := HR.out.cell (i := 0) rfl
    have r1 := HR.out.cell (i := 1) rfl
    have HFB := Stow.mk (HFL.out.keep HB2.out)
    clear hO1 hO2 hO
    go_wp2_with fail
    refine bodyPost_ret (rfan_results _ (w.heap.size + 1 + 1) (.slice A 0 cap) hops _ HN.out rfl) rfl ?_
    exact ⟨A, cap, [], rfl, rfl, HFB.out, HB2.out⟩
  · obtain ⟨Q, x, rfl, hQ⟩ := last_split hnL
    have HQL := Stow.mk hQ
    have hF := h.keep HB.out
    obtain ⟨b, off, rfl, hblt, _⟩ := hF.row.open (by simp)
    have hra := (fm_at hF.row (k := k) (by simp [hQ])).2
    have hel : (Q ++ [x])[k]'(by simp [hQ]) = x := by
      rw [List.getElem_append_right (by omega)]
      simp [hQ]
    rw [hel] at hra
    have HRA := Stow.mk hra
    have hxl := HL.out x (by simp)
    have e1 : IntKind.i64.wrap (((k + 1 : Nat) : Int) - 1) = (k : Int) := by rw [IntWalk.i64_in _ (by omega)]; omega
    have hk0 : (0 : Int) ≤ k := by omega
    have hk1 : (k : Int) < ((k + 1 : Nat) : Int) := by omega
    have ba := Below.alloc' (Below.self W0) (.cells fmz.cells.toArray 30)
    have hZ := Held.made W0 fmz.cells 30
    have HZT := Stow.mk (show (W0.alloc (.cells fmz.cells.toArray 30)).there W0.heap.size 0 x.cells.length from hZ.there)
    have hYH := hZ.over x.cells rfl
    have hbx : Below W0.heap.size W0 ((W0.alloc (.cells fmz.cells.toArray 30)).setCells W0.heap.size 0 x.cells) := ba.trans ((only_all x.cells _ 0).below (Nat.le_refl _) ba.size)
    obtain ⟨W2, hW2⟩ : ∃ W, (W0.alloc (.cells fmz.cells.toArray 30)).setCells W0.heap.size 0 x.cells = W := ⟨_, rfl⟩
    rw [hW2] at hYH hbx
    have HW2 := Stow.mk hW2
    have HY := Stow.mk hYH
    have HXk := HX.out.kept hbx
    have HPk := HP.out.kept hbx
    have HRk := HR.out.kept hbx
    have HBk := HB.out.trans (hbx.mono HB.out.size)
    have hs2 := hbx.size
    have hgt : w.heap.size + 1 + 1 < W0.heap.size := by omega
    clear hra hel hF hQ hnL hn ba hZ hYH hW2 hsz
    go_enter Try.func21, Try.ntmps21
    go_upto_region 1 with fail
    rw [HW0.out]
    clear HW0
    have q0 := HX.out.cell (i := 0) rfl
    go_upto_region 4 with (first
      | (refine wpList_load_mid rfl 30 (.tmp 17) rfl b (off + k * 13) rfl x.cells _ HRA.out Try.underlying30 rfl (by rw [Fm.cells_len]; kernel_rfl) ?_)
      | (refine wpList_store_hx rfl 30 (.tmp 5) (.tmp 18) rfl rfl W0.heap.size 0 x.cells rfl rfl HZT.out (by rw [Fm.cells_len]; kernel_rfl) (Fm.one x) ?_))
    generalize hW : World.setCells _ _ _ _ = W3
    obtain rfl : W3 = W2 := hW.symm.trans HW2.out
    clear hW HW2 HZT HRA q0 HX HP HR HB
    have HX := Stow.mk HXk
    have HP := Stow.mk HPk
    have HR := Stow.mk HRk
    have HB := Stow.mk HBk
    have HTK := Stow.mk (refTakes_any x.c.body s W3 hxl)
    clear HXk HPk HRk HBk hbx
    have y4 := HY.out.cell (i := 4) rfl
    have p2 := HP.out.cell (i := 2) rfl
    go_wp2_with fail
    refine HTK.out.mono ?_
    rintro e w4 ⟨rfl, hb4⟩
    have hyl := HY.out.lt
    have HX := Stow.mk (HX.out.kept hb4)
    have HP := Stow.mk (HP.out.kept hb4)
    have HR := Stow.mk (HR.out.kept hb4)
    have HY := Stow.mk (HY.out.kept hb4)
    have HB := Stow.mk (HB.out.trans (hb4.mono HB.out.size))
    have f4 := HY.out.free 4
    clear y4 p2 hb4 HTK
    have y4 := HY.out.cell (i := 4) rfl
    have hO4 : Only W0.heap.size w4 (w4.setCell ⟨W0.heap.size, 4, none⟩ (.string (bs (tk x.c.body s)))) := Only.set _ _ 4 _
    have HX := Stow.mk (HX.out.offO hO4 (by omega))
    have HP := Stow.mk (HP.out.offO hO4 (by omega))
    have HR := Stow.mk (HR.out.offO hO4 (by omega))
    have HY := Stow.mk (show Held (w4.setCell ⟨W0.heap.size, 4, none⟩ (.string (bs (tk x.c.body s)))) W0.heap.size (x.takes s).cells from HY.out.set 4 _)
    have HB := Stow.mk (HB.out.trans (hO4.below (show w.heap.size ≤ W0.heap.size by omega) HB.out.size))
    go_upto_region 5 with fail
    obtain ⟨W4, hW4⟩ : ∃ W, w4.setCell ⟨W0.heap.size, 4, none⟩ (.string (bs (tk x.c.body s))) = W := ⟨_, rfl⟩
    rw [hW4] at HX HP HR HY HB
    rw [hW4]
    clear hW4 hO4 y4 f4
    have p0 := HP.out.cell (i := 0) rfl
    obtain ⟨xs, hxs⟩ : ∃ z, x.c.st = z := ⟨_, rfl⟩
    have y3 := HY.out.cell (i := 3) (v := .int .i64 xs) (by rw [← hxs]; rfl)
    have f3 := HY.out.free 3
    have HXS := Stow.mk hxs
    clear hxs
    by_cases hst : 400 ≤ st
    · have d1 : decide ((400 : Int) ≤ st) = true := by simpa using hst
      by_cases hx2 : xs = 200
      · have d2 : (xs == 200) = true := by simpa using hx2
        have HSA := Stow.mk (show Q.map Fm.c ++ [{ (x.takes s).c with st := 502 }] = ansL st s ((Q ++ [x]).map Fm.c) by
          rw [List.map_append, List.map_singleton, ansL_end]
          unfold ansF Fm.takes
          rw [if_pos ⟨hst, by rw [HXS.out]; exact hx2⟩])
        have hO4 : Only W0.heap.size W4 (W4.setCell ⟨W0.heap.size, 3, none⟩ (.int .i64 502)) := Only.set _ _ 3 _
        have HX := Stow.mk (HX.out.offO hO4 (by omega))
        have HR := Stow.mk (HR.out.offO hO4 (by omega))
        have HY := Stow.mk (show Held (W4.setCell ⟨W0.heap.size, 3, none⟩ (.int .i64 502)) W0.heap.size (Fm.cells { x.takes s with c := { (x.takes s).c with st := 502 } }) from HY.out.set 3 _)
        have HB := Stow.mk (HB.out.trans (hO4.below (show w.heap.size ≤ W0.heap.size by omega) HB.out.size))
        clear hst
        go_upto_region 7 with fail
        obtain ⟨W5, hW5⟩ : ∃ W, W4.setCell ⟨W0.heap.size, 3, none⟩ (.int .i64 502) = W := ⟨_, rfl⟩
        rw [hW5] at HX HR HY HB
        rw [hW5]
        clear hW5 hO4 p0 y3 f3
        have hgw := Nat.lt_trans hgt HY.out.lt
        have HTP := Stow.mk (fun (W : World) (hb : Below w.heap.size w W) => rfTop_any (some ⟨b, off, none⟩) cap k Q x hops ({ x.takes s with c := { (x.takes s).c with st := 502 } }) W (by omega) (HFL.out.keep hb) (((HFL.out.keep hb).each x (by simp)).like ⟨rfl, rfl, rfl, rfl, rfl, rfl⟩) HA.out HQL.out)
        have q0 := HX.out.cell (i := 0) rfl
        have q1 := HX.out.cell (i := 1) rfl
        have c0y := HY.out.cell (i := 0) rfl
        have c1y := HY.out.cell (i := 1) rfl
        have c2y := HY.out.cell (i := 2) rfl
        have c3y := HY.out.cell (i := 3) rfl
        have c4y := HY.out.cell (i := 4) rfl
        have c5y := HY.out.cell (i := 5) rfl
        have c6y := HY.out.cell (i := 6) rfl
        have c7y := HY.out.cell (i := 7) rfl
        have c8y := HY.out.cell (i := 8) rfl
        have c9y := HY.out.cell (i := 9) rfl
        have c10y := HY.out.cell (i := 10) rfl
        have c11y := HY.out.cell (i := 11) rfl
        have c12y := HY.out.cell (i := 12) rfl
        go_wp2_with fail
        refine (HTP.out _ HB.out).mono ?_
        rintro e w5 ⟨A5, c5, rfl, hF5, hb5⟩
        have HR := Stow.mk (HR.out.kept hb5)
        have HB := Stow.mk (HB.out.trans (hb5.mono HB.out.size))
        have HFF := Stow.mk hF5
        have hs5 := hb5.size
        clear q0 q1 hb5 hF5
        clear c0y c1y c2y c3y c4y c5y c6y c7y c8y c9y c10y c11y c12y
        have hO1 : Only (w.heap.size + 1 + 1) w5 (World.setCell w5 ⟨w.heap.size + 1 + 1, 0, none⟩ (.slice A5 (k + 1) c5)) := Only.set _ _ 0 _
        have hO2 : Only (w.heap.size + 1 + 1) (World.setCell w5 ⟨w.heap.size + 1 + 1, 0, none⟩ (.slice A5 (k + 1) c5)) ((World.setCell w5 ⟨w.heap.size + 1 + 1, 0, none⟩ (.slice A5 (k + 1) c5)).setCell ⟨w.heap.size + 1 + 1, 1, none⟩ (.int .i64 hops)) := Only.set _ _ 1 _
        have hO := hO1.trans hO2
        have HN := Stow.mk ((HR.out.set 0 (.slice A5 (k + 1) c5)).set 1 (.int .i64 hops))
        have HB2 := Stow.mk (HB.out.trans (hO.below (show w.heap.size ≤ w.heap.size + 1 + 1 by omega) HB.out.size))
        have s0 := HR.out.free 0
        have s1 := HR.out.free 1
        have r0 := HR.out.cell (i := 0) rfl
        have r1 := HR.out.cell (i := 1) rfl
        have HFB := Stow.mk (own_undr HFF.out hO (show w.heap.size + 1 + 1 < _ from hgw))
        clear hO1 hO2 hO
        go_wp2_with fail
        refine bodyPost_ret (rfan_results _ (w.heap.size + 1 + 1) (.slice A5 (k + 1) c5) hops _ HN.out rfl) rfl ?_
        exact ⟨A5, c5, Q ++ [{ x.takes s with c := { (x.takes s).c with st := 502 } }], rfl, by rw [List.map_append, List.map_singleton]; exact HSA.out, ⟨FlO.read HFB.out, fun z hz => by
          rcases List.mem_append.1 hz with hz | hz
          · exact (HFL.out.keep HB2.out).each z (List.mem_append_left _ hz)
          · obtain rfl : z = { x.takes s with c := { (x.takes s).c with st := 502 } } := by simpa using hz
            exact ((HFL.out.keep HB2.out).each x (by simp)).like ⟨rfl, rfl, rfl, rfl, rfl, rfl⟩⟩, HB2.out⟩
      · have d2 : (xs == 200) = false := by simpa using hx2
        have HSA := Stow.mk (show Q.map Fm.c ++ [(x.takes s).c] = ansL st s ((Q ++ [x]).map Fm.c) by
          rw [List.map_append, List.map_singleton, ansL_end]
          unfold ansF Fm.takes
          rw [if_neg (fun h => hx2 (HXS.out.symm.trans h.2))])
        clear hst
        go_upto_region 7 with fail
        clear p0 y3 f3
        have hgw := Nat.lt_trans hgt HY.out.lt
        have HTP := Stow.mk (fun (W : World) (hb : Below w.heap.size w W) => rfTop_any (some ⟨b, off, none⟩) cap k Q x hops (x.takes s) W (by omega) (HFL.out.keep hb) (((HFL.out.keep hb).each x (by simp)).like ⟨rfl, rfl, rfl, rfl, rfl, rfl⟩) HA.out HQL.out)
        have q0 := HX.out.cell (i := 0) rfl
        have q1 := HX.out.cell (i := 1) rfl
        have c0y := HY.out.cell (i := 0) rfl
        have c1y := HY.out.cell (i := 1) rfl
        have c2y := HY.out.cell (i := 2) rfl
        have c3y := HY.out.cell (i := 3) rfl
        have c4y := HY.out.cell (i := 4) rfl
        have c5y := HY.out.cell (i := 5) rfl
        have c6y := HY.out.cell (i := 6) rfl
        have c7y := HY.out.cell (i := 7) rfl
        have c8y := HY.out.cell (i := 8) rfl
        have c9y := HY.out.cell (i := 9) rfl
        have c10y := HY.out.cell (i := 10) rfl
        have c11y := HY.out.cell (i := 11) rfl
        have c12y := HY.out.cell (i := 12) rfl
        go_wp2_with fail
        refine (HTP.out _ HB.out).mono ?_
        rintro e w5 ⟨A5, c5, rfl, hF5, hb5⟩
        have HR := Stow.mk (HR.out.kept hb5)
        have HB := Stow.mk (HB.out.trans (hb5.mono HB.out.size))
        have HFF := Stow.mk hF5
        have hs5 := hb5.size
        clear q0 q1 hb5 hF5
        clear c0y c1y c2y c3y c4y c5y c6y c7y c8y c9y c10y c11y c12y
        have hO1 : Only (w.heap.size + 1 + 1) w5 (World.setCell w5 ⟨w.heap.size + 1 + 1, 0, none⟩ (.slice A5 (k + 1) c5)) := Only.set _ _ 0 _
        have hO2 : Only (w.heap.size + 1 + 1) (World.setCell w5 ⟨w.heap.size + 1 + 1, 0, none⟩ (.slice A5 (k + 1) c5)) ((World.setCell w5 ⟨w.heap.size + 1 + 1, 0, none⟩ (.slice A5 (k + 1) c5)).setCell ⟨w.heap.size + 1 + 1, 1, none⟩ (.int .i64 hops)) := Only.set _ _ 1 _
        have hO := hO1.trans hO2
        have HN := Stow.mk ((HR.out.set 0 (.slice A5 (k + 1) c5)).set 1 (.int .i64 hops))
        have HB2 := Stow.mk (HB.out.trans (hO.below (show w.heap.size ≤ w.heap.size + 1 + 1 by omega) HB.out.size))
        have s0 := HR.out.free 0
        have s1 := HR.out.free 1
        have r0 := HR.out.cell (i := 0) rfl
        have r1 := HR.out.cell (i := 1) rfl
        have HFB := Stow.mk (own_undr HFF.out hO (show w.heap.size + 1 + 1 < _ from hgw))
        clear hO1 hO2 hO
        go_wp2_with fail
        refine bodyPost_ret (rfan_results _ (w.heap.size + 1 + 1) (.slice A5 (k + 1) c5) hops _ HN.out rfl) rfl ?_
        exact ⟨A5, c5, Q ++ [x.takes s], rfl, by rw [List.map_append, List.map_singleton]; exact HSA.out, ⟨FlO.read HFB.out, fun z hz => by
          rcases List.mem_append.1 hz with hz | hz
          · exact (HFL.out.keep HB2.out).each z (List.mem_append_left _ hz)
          · obtain rfl : z = x.takes s := by simpa using hz
            exact ((HFL.out.keep HB2.out).each x (by simp)).like ⟨rfl, rfl, rfl, rfl, rfl, rfl⟩⟩, HB2.out⟩
    · have d1 : decide ((400 : Int) ≤ st) = false := by simpa using hst
      have HSA := Stow.mk (show Q.map Fm.c ++ [(x.takes s).c] = ansL st s ((Q ++ [x]).map Fm.c) by
        rw [List.map_append, List.map_singleton, ansL_end]
        unfold ansF Fm.takes
        rw [if_neg (fun h => hst h.1)])
      clear hst
      go_upto_region 7 with fail
      clear p0 y3 f3
      have hgw := Nat.lt_trans hgt HY.out.lt
      have HTP := Stow.mk (fun (W : World) (hb : Below w.heap.size w W) => rfTop_any (some ⟨b, off, none⟩) cap k Q x hops (x.takes s) W (by omega) (HFL.out.keep hb) (((HFL.out.keep hb).each x (by simp)).like ⟨rfl, rfl, rfl, rfl, rfl, rfl⟩) HA.out HQL.out)
      have q0 := HX.out.cell (i := 0) rfl
      have q1 := HX.out.cell (i := 1) rfl
      have c0y := HY.out.cell (i := 0) rfl
      have c1y := HY.out.cell (i := 1) rfl
      have c2y := HY.out.cell (i := 2) rfl
      have c3y := HY.out.cell (i := 3) rfl
      have c4y := HY.out.cell (i := 4) rfl
      have c5y := HY.out.cell (i := 5) rfl
      have c6y := HY.out.cell (i := 6) rfl
      have c7y := HY.out.cell (i := 7) rfl
      have c8y := HY.out.cell (i := 8) rfl
      have c9y := HY.out.cell (i := 9) rfl
      have c10y := HY.out.cell (i := 10) rfl
      have c11y := HY.out.cell (i := 11) rfl
      have c12y := HY.out.cell (i := 12) rfl
      go_wp2_with fail
      refine (HTP.out _ HB.out).mono ?_
      rintro e w5 ⟨A5, c5, rfl, hF5, hb5⟩
      have HR := Stow.mk (HR.out.kept hb5)
      have HB := Stow.mk (HB.out.trans (hb5.mono HB.out.size))
      have HFF := Stow.mk hF5
      have hs5 := hb5.size
      clear q0 q1 hb5 hF5
      clear c0y c1y c2y c3y c4y c5y c6y c7y c8y c9y c10y c11y c12y
      have hO1 : Only (w.heap.size + 1 + 1) w5 (World.setCell w5 ⟨w.heap.size + 1 + 1, 0, none⟩ (.slice A5 (k + 1) c5)) := Only.set _ _ 0 _
      have hO2 : Only (w.heap.size + 1 + 1) (World.setCell w5 ⟨w.heap.size + 1 + 1, 0, none⟩ (.slice A5 (k + 1) c5)) ((World.setCell w5 ⟨w.heap.size + 1 + 1, 0, none⟩ (.slice A5 (k + 1) c5)).setCell ⟨w.heap.size + 1 + 1, 1, none⟩ (.int .i64 hops)) := Only.set _ _ 1 _
      have hO := hO1.trans hO2
      have HN := Stow.mk ((HR.out.set 0 (.slice A5 (k + 1) c5)).set 1 (.int .i64 hops))
      have HB2 := Stow.mk (HB.out.trans (hO.below (show w.heap.size ≤ w.heap.size + 1 + 1 by omega) HB.out.size))
      have s0 := HR.out.free 0
      have s1 := HR.out.free 1
      have r0 := HR.out.cell (i := 0) rfl
      have r1 := HR.out.cell (i := 1) rfl
      have HFB := Stow.mk (own_undr HFF.out hO (show w.heap.size + 1 + 1 < _ from hgw))
      clear hO1 hO2 hO
      go_wp2_with fail
      refine bodyPost_ret (rfan_results _ (w.heap.size + 1 + 1) (.slice A5 (k + 1) c5) hops _ HN.out rfl) rfl ?_
      exact ⟨A5, c5, Q ++ [x.takes s], rfl, by rw [List.map_append, List.map_singleton]; exact HSA.out, ⟨FlO.read HFB.out, fun z hz => by
        rcases List.mem_append.1 hz with hz | hz
        · exact (HFL.out.keep HB2.out).each z (List.mem_append_left _ hz)
        · obtain rfl : z = x.takes s := by simpa using hz
          exact ((HFL.out.keep HB2.out).each x (by simp)).like ⟨rfl, rfl, rfl, rfl, rfl, rfl⟩⟩, HB2.out⟩
end Go.Proofs.Ythbpcdoddcacdaa
