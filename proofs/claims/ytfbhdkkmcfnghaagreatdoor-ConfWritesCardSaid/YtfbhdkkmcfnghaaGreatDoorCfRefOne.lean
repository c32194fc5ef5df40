/- Walks of the reference's Format, one, Check. Conditions: the rules' memory. -/
import Derived.Test.YtfbhdkkmcfnghaaGreatDoorCfOne
import Derived.Test.YtfbhdkkmcfnghaaGreatDoorPdRef
namespace Go.Proofs.YtfbhdkkmcfnghaaGreatDoor
open Go.RowKit
set_option linter.unusedVariables false
set_option linter.unusedSimpArgs false

set_option maxHeartbeats 400000 in
set_option maxRecDepth 100000 in
theorem refFormat_any (l : List UInt8) (w : World) (hl : l.length ≤ 9223372036854775807) :
    Calls Tryz.prog 64 #[.string (bs l)] w fun e w' => e = .returned (.bool (Cf.fmtOk l)) ∧ w' = w := by
  by_cases h120 : 120 < l.length
  · have h120i : (120 : Int) < l.length := by omega
    have HE : Stow (Cf.fmtOk l = false) := ⟨by unfold Cf.fmtOk; simp; intro _; omega⟩
    go_enter Tryz.func64, Tryz.ntmps64
    go_wp2_with fail
    go_ret
    exact ⟨by rw [HE.out]; rfl, rfl⟩
  have h120i : ¬ (120 : Int) < l.length := by omega
  go_enter Tryz.func64, Tryz.ntmps64
  go_wp2_with fail
  go_loop [3] (fun v => ∃ i : Nat, v = .int .i64 (i : Int) ∧ i ≤ l.length ∧ Stow ((l.take i).all (fun b => decide (32 ≤ b.toNat) && decide (b.toNat ≤ 126)) = true)) (fun v => l.length - (intOf v).toNat)
  case atStart => exact ⟨0, rfl, by omega, ⟨rfl⟩⟩
  case round =>
    obtain ⟨i, rfl, hi', HA⟩ := hrel
    by_cases hlt : i < l.length
    · have hlb : i < (bs l).size := hlt
      obtain ⟨u, hu⟩ : ∃ u, (l[i]'hlb).toNat = u := ⟨_, rfl⟩
      have HU : Stow ((l[i]'hlt).toNat = u) := ⟨hu⟩
      by_cases h2 : 32 ≤ u
      all_goals by_cases h3 : u ≤ 126
      all_goals try (have d1 : decide (u < 32) = false := by simp; omega)
      all_goals try (have d1 : decide (u < 32) = true := by simp; omega)
      all_goals try (have d2 : decide (126 < u) = false := by simp; omega)
      all_goals try (have d2 : decide (126 < u) = true := by simp; omega)
      all_goals go_wp2_with fail
      all_goals first
        | exact ⟨⟨i + 1, rfl, by omega, ⟨all_take_succ hlt HA.out (each_byte HU.out (by omega) (by omega))⟩⟩, by simp [intOf]; omega⟩
        | (go_ret
           exact ⟨by unfold Cf.fmtOk Ms.eachB; rw [all_false_of hlt (each_byte_no HU.out (by omega))]; rfl, rfl⟩)
    · obtain rfl : i = l.length := by omega
      have HE : Stow (Cf.fmtOk l = true) := ⟨by
        have h := HA.out
        rw [List.take_length] at h
        unfold Cf.fmtOk Ms.eachB
        rw [h]
        simp
        omega⟩
      go_wp2_with fail
      go_ret
      exact ⟨by rw [HE.out]; rfl, rfl⟩
set_option maxHeartbeats 4000000 in
set_option maxRecDepth 100000 in
theorem refOne_any (m : Rm) (w : World) (h : RmR w m) : Calls Tryz.prog 65 #[.agg m.cells.toArray] w fun e w' => e = .returned (.int .i64 (Cf.one m.r : Nat)) ∧ Below w.heap.size w w' := by
  obtain ⟨⟨rank, ps, tg, ap, st, dp, dt, mp, mi, sm⟩, A, cap⟩ := m
  have HM := Stow.mk h
  obtain ⟨n, hn⟩ : ∃ n, ps.length = n := ⟨_, rfl⟩
  have HNL := Stow.mk hn
  have hnl : n ≤ 9223372036854775807 := by have := SlR.len h.row; rw [List.length_map] at this; simp only at this; omega
  clear h
  unfold Rm.cells
  simp only
  rw [hn]
  by_cases h4 : 4 < n
  · have h4i : (4 : Int) < n := by omega
    have HE := Stow.mk (Cf.one_full (r := ⟨rank, ps, tg, ap, st, dp, dt, mp, mi, sm⟩) (by simp only; omega))
    clear hn
    have hp0 := Held.made w [.int .i64 rank, .slice A n cap, .string (bs tg), .int .i64 ap, .int .i64 st, .int .i64 dp, .int .i64 dt, .int .i64 mp, .string (bs mi), .int .i64 sm] 95
    have HB := Stow.mk (Below.alloc' (Below.self w) (.cells #[.int .i64 rank, .slice A n cap, .string (bs tg), .int .i64 ap, .int .i64 st, .int .i64 dp, .int .i64 dt, .int .i64 mp, .string (bs mi), .int .i64 sm] 95))
    obtain ⟨W, hW⟩ : ∃ W, w.alloc (.cells #[.int .i64 rank, .slice A n cap, .string (bs tg), .int .i64 ap, .int .i64 st, .int .i64 dp, .int .i64 dt, .int .i64 mp, .string (bs mi), .int .i64 sm] 95) = W := ⟨_, rfl⟩
    rw [show w.alloc (.cells [.int .i64 rank, .slice A n cap, .string (bs tg), .int .i64 ap, .int .i64 st, .int .i64 dp, .int .i64 dt, .int .i64 mp, .string (bs mi), .int .i64 sm].toArray 95) = W from hW] at hp0
    rw [hW] at HB
    have HW := Stow.mk hW
    have HP := Stow.mk hp0
    clear hp0 hW
    go_enter Tryz.func65, Tryz.ntmps65
    go_upto_region 1 with fail
    rw [HW.out]
    clear HW
    have p0 := HP.out.cell (i := 0) rfl
    have p1 := HP.out.cell (i := 1) rfl
    have p2 := HP.out.cell (i := 2) rfl
    have p3 := HP.out.cell (i := 3) rfl
    have p4 := HP.out.cell (i := 4) rfl
    have p5 := HP.out.cell (i := 5) rfl
    have p6 := HP.out.cell (i := 6) rfl
    have p7 := HP.out.cell (i := 7) rfl
    have p8 := HP.out.cell (i := 8) rfl
    have p9 := HP.out.cell (i := 9) rfl
    go_wp2_with fail
    go_ret
    exact ⟨by rw [HE.out]; rfl, HB.out⟩
  have h4i : ¬ (4 : Int) < n := by omega
  have hle4 : n ≤ 4 := by omega
  clear hn
  have hp0 := Held.made w [.int .i64 rank, .slice A n cap, .string (bs tg), .int .i64 ap, .int .i64 st, .int .i64 dp, .int .i64 dt, .int .i64 mp, .string (bs mi), .int .i64 sm] 95
  have HB := Stow.mk (Below.alloc' (Below.self w) (.cells #[.int .i64 rank, .slice A n cap, .string (bs tg), .int .i64 ap, .int .i64 st, .int .i64 dp, .int .i64 dt, .int .i64 mp, .string (bs mi), .int .i64 sm] 95))
  obtain ⟨W, hW⟩ : ∃ W, w.alloc (.cells #[.int .i64 rank, .slice A n cap, .string (bs tg), .int .i64 ap, .int .i64 st, .int .i64 dp, .int .i64 dt, .int .i64 mp, .string (bs mi), .int .i64 sm] 95) = W := ⟨_, rfl⟩
  rw [show w.alloc (.cells [.int .i64 rank, .slice A n cap, .string (bs tg), .int .i64 ap, .int .i64 st, .int .i64 dp, .int .i64 dt, .int .i64 mp, .string (bs mi), .int .i64 sm].toArray 95) = W from hW] at hp0
  rw [hW] at HB
  have HW := Stow.mk hW
  have HP := Stow.mk hp0
  clear hp0 hW
  go_enter Tryz.func65, Tryz.ntmps65
  go_upto_region 1 with fail
  rw [HW.out]
  clear HW
  have p0 := HP.out.cell (i := 0) rfl
  have p1 := HP.out.cell (i := 1) rfl
  have p2 := HP.out.cell (i := 2) rfl
  have p3 := HP.out.cell (i := 3) rfl
  have p4 := HP.out.cell (i := 4) rfl
  have p5 := HP.out.cell (i := 5) rfl
  have p6 := HP.out.cell (i := 6) rfl
  have p7 := HP.out.cell (i := 7) rfl
  have p8 := HP.out.cell (i := 8) rfl
  have p9 := HP.out.cell (i := 9) rfl
  go_wp2_with fail
  clear p0 p1 p2 p3 p4 p5 p6 p7 p8 p9
  go_loopw [3, 4] (fun u _ wr => ∃ i : Nat, u = .int .i64 (i : Int) ∧ i ≤ n ∧ Stow (∀ j (hj : j < ps.length), j < i → ps[j].err = 0) ∧ Stow (Below W.heap.size W wr)) (fun u _ _ => n - (intOf u).toNat)
  case atStart => exact ⟨0, rfl, by omega, ⟨fun j hj h => by omega⟩, ⟨Below.self _⟩⟩
  case round =>
    obtain ⟨i, rfl, hi, HZ, HBR⟩ := hrel
    by_cases hlt : i < n
    · have hlt' : i < ps.length := by rw [HNL.out]; exact hlt
      obtain ⟨b, off, rfl, hblt, _⟩ := SlR.open HM.out.row (by simp; omega)
      obtain ⟨q0, q1, q2⟩ := pd_at (SlR.keep HM.out.row (HB.out.trans (HBR.out.mono HB.out.size))) hlt'
      have hf := HM.out.fits _ (List.getElem_mem hlt')
      obtain ⟨p, hp⟩ : ∃ p, ps[i] = p := ⟨_, rfl⟩
      have HPI := Stow.mk hp
      rw [hp] at q0 q1 q2 hf
      obtain ⟨k, pn, pv⟩ := p
      have HBX := Stow.mk (Below.self wr)
      have p1 := (HP.out.kept HBR.out).cell (i := 1) rfl
      have HCK := Stow.mk (refPd_any ⟨k, pn, pv⟩ wr hf)
      obtain ⟨er, her⟩ : ∃ e, (Pd.mk k pn pv).err = e := ⟨_, rfl⟩
      rw [her] at HCK
      unfold Pd.cells at HCK
      have HER := Stow.mk her
      have hii : (i : Int) < n := by omega
      have hi0 : (0 : Int) ≤ i := by omega
      simp only at q0 q1 q2
      clear hp her hf
      by_cases h0 : er = 0
      · subst h0
        go_wp2_with fail
        refine HCK.out.mono ?_
        rintro e w1 ⟨rfl, hb1⟩
        have HB1 := Stow.mk (HBR.out.trans ((HBX.out.trans (hb1.mono HBX.out.size)).mono HBR.out.size))
        clear hb1 q0 q1 q2
        go_wp2_with fail
        refine ⟨⟨i + 1, by simp, by omega, ⟨fun j hj hji => ?_⟩, HB1⟩, by simp [intOf]; omega⟩
        by_cases hjl : j < i
        · exact HZ.out j hj hjl
        · obtain rfl : j = i := by omega
          rw [HPI.out, HER.out]
      · have hne : ((er : Int) == 0) = false := by simp; omega
        have HE : Stow (Cf.one ⟨rank, ps, tg, ap, st, dp, dt, mp, mi, sm⟩ = er) := ⟨by
          have h1 : Cf.firstErr Pd.err ps = er := by
            have := Cf.firstErr_at (e := Pd.err) hlt' (fun j hj => HZ.out j (by omega) hj) (by rw [HPI.out, HER.out]; exact h0)
            rw [this, HPI.out, HER.out]
          rw [Cf.one_pd (by simp only; have := HNL.out; omega) (by simp only; rw [h1]; exact h0)]
          exact h1⟩
        have hnz : ¬ (er : Int) = 0 := by omega
        go_wp2_with fail
        refine HCK.out.mono ?_
        rintro e w1 ⟨rfl, hb1⟩
        have HB1 := Stow.mk (HB.out.trans ((HBR.out.trans ((HBX.out.trans (hb1.mono HBX.out.size)).mono HBR.out.size)).mono HB.out.size))
        clear hb1 q0 q1 q2
        go_wp2_with fail
        go_ret
        exact ⟨by rw [HE.out]; rfl, HB1.out⟩
    · obtain rfl : i = n := by omega
      have HF : Stow (Cf.firstErr Pd.err ps = 0) := ⟨Cf.firstErr_none (fun j hj => HZ.out j hj (by rw [← HNL.out]; exact hj))⟩
      have hii : ¬ (i : Int) < i := by omega
      have HP := Stow.mk (HP.out.kept HBR.out)
      have HN1 := Stow.mk (refName_any tg wr (by have := HM.out.tg; simp only at this; omega))
      have HN2 := Stow.mk (refName_any mi wr (by have := HM.out.mi; simp only at this; omega))
      have HBZ := Stow.mk (HB.out.trans (HBR.out.mono HB.out.size))
      have h4n : ¬ 4 < ps.length := by rw [HNL.out]; omega
      have HG4 := Stow.mk h4n
      clear h4n
      cases ht : nameOk tg with
      | false =>
        have HE := Stow.mk (Cf.one_names (r := ⟨rank, ps, tg, ap, st, dp, dt, mp, mi, sm⟩) HG4.out HF.out (by unfold Cf.namesOk; simp [ht]))
        rw [ht] at HN1
        clear ht
        have p0 := HP.out.cell (i := 0) rfl
        have p1 := HP.out.cell (i := 1) rfl
        have p2 := HP.out.cell (i := 2) rfl
        have p3 := HP.out.cell (i := 3) rfl
        have p4 := HP.out.cell (i := 4) rfl
        have p5 := HP.out.cell (i := 5) rfl
        have p6 := HP.out.cell (i := 6) rfl
        have p7 := HP.out.cell (i := 7) rfl
        have p8 := HP.out.cell (i := 8) rfl
        have p9 := HP.out.cell (i := 9) rfl
        go_wp2_with fail
        refine HN1.out.mono ?_
        rintro e w1 ⟨rfl, rfl⟩
        go_wp2_with fail
        go_ret
        exact ⟨by rw [HE.out]; rfl, HBZ.out⟩
      | true =>
        rw [ht] at HN1
        rcases mi with _ | ⟨c0, m0⟩
        · by_cases hmp : mp = 0
          · subst hmp
            have HE := Stow.mk (Cf.one_nums (r := ⟨rank, ps, tg, ap, st, dp, dt, 0, [], sm⟩) HG4.out HF.out (by unfold Cf.namesOk; simp [ht]))
            clear ht
            have p0 := HP.out.cell (i := 0) rfl
            have p1 := HP.out.cell (i := 1) rfl
            have p2 := HP.out.cell (i := 2) rfl
            have p3 := HP.out.cell (i := 3) rfl
            have p4 := HP.out.cell (i := 4) rfl
            have p5 := HP.out.cell (i := 5) rfl
            have p6 := HP.out.cell (i := 6) rfl
            have p7 := HP.out.cell (i := 7) rfl
            have p8 := HP.out.cell (i := 8) rfl
            have p9 := HP.out.cell (i := 9) rfl
            go_wp2_with fail
            refine HN1.out.mono ?_
            rintro e w1 ⟨rfl, rfl⟩
            have HV := Stow.mk (Held.made w1 ((Cf.nums ⟨rank, ps, tg, ap, st, dp, dt, 0, [], sm⟩).map fun n => Value.int .i64 n) 3)
            have HB2 := Stow.mk (HBZ.out.trans ((Below.alloc' (Below.self w1) (.cells ((Cf.nums ⟨rank, ps, tg, ap, st, dp, dt, 0, [], sm⟩).map fun n => Value.int .i64 n).toArray 3)).mono HBZ.out.size))
            go_upto_region 12 with fail
            generalize hX : World.alloc w1 _ = X
            rw [show w1.alloc (.cells ((Cf.nums ⟨rank, ps, tg, ap, st, dp, dt, 0, [], sm⟩).map fun n => Value.int .i64 n).toArray 3) = X from hX] at HV HB2
            obtain ⟨V, hV⟩ : ∃ V, Cf.nums ⟨rank, ps, tg, ap, st, dp, dt, 0, [], sm⟩ = V := ⟨_, rfl⟩
            have hVL : V.length = 7 := by rw [← hV]; rfl
            rw [hV] at HV HE
            have HVL := Stow.mk hVL
            clear hX hV hVL p0 p1 p2 p3 p4 p5 p6 p7 p8 p9
            go_loop [6, 68] (fun _ u => ∃ j : Nat, u = .int .i64 (j : Int) ∧ j ≤ 7 ∧ Stow (∀ k (hk : k < V.length), k < j → Cf.inR V[k] = true)) (fun _ u => 7 - (intOf u).toNat)
            case atStart => exact ⟨0, rfl, by omega, ⟨fun k hk h => by omega⟩⟩
            case round =>
              obtain ⟨j, rfl, hj, HIN⟩ := hrel
              by_cases hlt : j < 7
              · have hlt' : j < V.length := by rw [HVL.out]; exact hlt
                have q := HV.out.cell (i := j) (v := .int .i64 V[j]) (by simp [hlt'])
                obtain ⟨x, hx⟩ : ∃ x, V[j] = x := ⟨_, rfl⟩
                have HX := Stow.mk hx
                rw [hx] at q
                have hjj : (j : Int) < 7 := by omega
                have hj0 : (0 : Int) ≤ j := by omega
                clear hx
                by_cases hx0 : x < 0
                · have HBAD : Stow (Cf.one ⟨rank, ps, tg, ap, st, dp, dt, 0, [], sm⟩ = 12) := ⟨by
                    rw [HE.out, if_neg]
                    rw [Cf.all_bad hlt' (by rw [HX.out]; simp [Cf.inR]; omega)]
                    exact id⟩
                  go_wp2_with fail
                  go_ret
                  exact ⟨by rw [HBAD.out]; rfl, HB2.out⟩
                · by_cases hx1 : 999999 < x
                  · have HBAD : Stow (Cf.one ⟨rank, ps, tg, ap, st, dp, dt, 0, [], sm⟩ = 12) := ⟨by
                      rw [HE.out, if_neg]
                      rw [Cf.all_bad hlt' (by rw [HX.out]; simp [Cf.inR]; omega)]
                      exact id⟩
                    go_wp2_with fail
                    go_ret
                    exact ⟨by rw [HBAD.out]; rfl, HB2.out⟩
                  · go_wp2_with fail
                    refine ⟨⟨j + 1, by simp, by omega, ⟨fun k hk hkj => ?_⟩⟩, by simp [intOf]; omega⟩
                    by_cases hkl : k < j
                    · exact HIN.out k hk hkl
                    · obtain rfl : k = j := by omega
                      rw [HX.out]
                      simp [Cf.inR]
                      omega
              · obtain rfl : j = 7 := by omega
                have HGOOD : Stow (Cf.one ⟨rank, ps, tg, ap, st, dp, dt, 0, [], sm⟩ = 0) := ⟨by
                  rw [HE.out, if_pos]
                  exact Cf.all_good (fun k hk => HIN.out k hk (by rw [← HVL.out]; exact hk))⟩
                go_wp2_with fail
                go_ret
                exact ⟨by rw [HGOOD.out]; rfl, HB2.out⟩
          · have HE := Stow.mk (Cf.one_names (r := ⟨rank, ps, tg, ap, st, dp, dt, mp, [], sm⟩) HG4.out HF.out (by unfold Cf.namesOk; simp [ht, hmp]))
            clear ht
            have p0 := HP.out.cell (i := 0) rfl
            have p1 := HP.out.cell (i := 1) rfl
            have p2 := HP.out.cell (i := 2) rfl
            have p3 := HP.out.cell (i := 3) rfl
            have p4 := HP.out.cell (i := 4) rfl
            have p5 := HP.out.cell (i := 5) rfl
            have p6 := HP.out.cell (i := 6) rfl
            have p7 := HP.out.cell (i := 7) rfl
            have p8 := HP.out.cell (i := 8) rfl
            have p9 := HP.out.cell (i := 9) rfl
            go_wp2_with fail
            refine HN1.out.mono ?_
            rintro e w1 ⟨rfl, rfl⟩
            go_wp2_with fail
            go_ret
            exact ⟨by rw [HE.out]; rfl, HBZ.out⟩
        · cases hm : nameOk (c0 :: m0) with
          | false =>
            have HE := Stow.mk (Cf.one_names (r := ⟨rank, ps, tg, ap, st, dp, dt, mp, c0 :: m0, sm⟩) HG4.out HF.out (by unfold Cf.namesOk; simp [ht, hm]))
            rw [hm] at HN2
            clear ht hm
            have p0 := HP.out.cell (i := 0) rfl
            have p1 := HP.out.cell (i := 1) rfl
            have p2 := HP.out.cell (i := 2) rfl
            have p3 := HP.out.cell (i := 3) rfl
            have p4 := HP.out.cell (i := 4) rfl
            have p5 := HP.out.cell (i := 5) rfl
            have p6 := HP.out.cell (i := 6) rfl
            have p7 := HP.out.cell (i := 7) rfl
            have p8 := HP.out.cell (i := 8) rfl
            have p9 := HP.out.cell (i := 9) rfl
            go_wp2_with fail
            refine HN1.out.mono ?_
            rintro e w1 ⟨rfl, rfl⟩
            go_wp2_with fail
            refine HN2.out.mono ?_
            rintro e w1 ⟨rfl, rfl⟩
            go_wp2_with fail
            go_ret
            exact ⟨by rw [HE.out]; rfl, HBZ.out⟩
          | true =>
            have HE := Stow.mk (Cf.one_nums (r := ⟨rank, ps, tg, ap, st, dp, dt, mp, c0 :: m0, sm⟩) HG4.out HF.out (by unfold Cf.namesOk; simp [ht, hm]))
            rw [hm] at HN2
            clear ht hm
            have p0 := HP.out.cell (i := 0) rfl
            have p1 := HP.out.cell (i := 1) rfl
            have p2 := HP.out.cell (i := 2) rfl
            have p3 := HP.out.cell (i := 3) rfl
            have p4 := HP.out.cell (i := 4) rfl
            have p5 := HP.out.cell (i := 5) rfl
            have p6 := HP.out.cell (i := 6) rfl
            have p7 := HP.out.cell (i := 7) rfl
            have p8 := HP.out.cell (i := 8) rfl
            have p9 := HP.out.cell (i := 9) rfl
            go_wp2_with fail
            refine HN1.out.mono ?_
            rintro e w1 ⟨rfl, rfl⟩
            go_wp2_with fail
            refine HN2.out.mono ?_
            rintro e w1 ⟨rfl, rfl⟩
            have HV := Stow.mk (Held.made w1 ((Cf.nums ⟨rank, ps, tg, ap, st, dp, dt, mp, c0 :: m0, sm⟩).map fun n => Value.int .i64 n) 3)
            have HB2 := Stow.mk (HBZ.out.trans ((Below.alloc' (Below.self w1) (.cells ((Cf.nums ⟨rank, ps, tg, ap, st, dp, dt, mp, c0 :: m0, sm⟩).map fun n => Value.int .i64 n).toArray 3)).mono HBZ.out.size))
            go_upto_region 12 with fail
            generalize hX : World.alloc w1 _ = X
            rw [show w1.alloc (.cells ((Cf.nums ⟨rank, ps, tg, ap, st, dp, dt, mp, c0 :: m0, sm⟩).map fun n => Value.int .i64 n).toArray 3) = X from hX] at HV HB2
            obtain ⟨V, hV⟩ : ∃ V, Cf.nums ⟨rank, ps, tg, ap, st, dp, dt, mp, c0 :: m0, sm⟩ = V := ⟨_, rfl⟩
            have hVL : V.length = 7 := by rw [← hV]; rfl
            rw [hV] at HV HE
            have HVL := Stow.mk hVL
            clear hX hV hVL p0 p1 p2 p3 p4 p5 p6 p7 p8 p9
            go_loop [6, 68] (fun _ u => ∃ j : Nat, u = .int .i64 (j : Int) ∧ j ≤ 7 ∧ Stow (∀ k (hk : k < V.length), k < j → Cf.inR V[k] = true)) (fun _ u => 7 - (intOf u).toNat)
            case atStart => exact ⟨0, rfl, by omega, ⟨fun k hk h => by omega⟩⟩
            case round =>
              obtain ⟨j, rfl, hj, HIN⟩ := hrel
              by_cases hlt : j < 7
              · have hlt' : j < V.length := by rw [HVL.out]; exact hlt
                have q := HV.out.cell (i := j) (v := .int .i64 V[j]) (by simp [hlt'])
                obtain ⟨x, hx⟩ : ∃ x, V[j] = x := ⟨_, rfl⟩
                have HX := Stow.mk hx
                rw [hx] at q
                have hjj : (j : Int) < 7 := by omega
                have hj0 : (0 : Int) ≤ j := by omega
                clear hx
                by_cases hx0 : x < 0
                · have HBAD : Stow (Cf.one ⟨rank, ps, tg, ap, st, dp, dt, mp, c0 :: m0, sm⟩ = 12) := ⟨by
                    rw [HE.out, if_neg]
                    rw [Cf.all_bad hlt' (by rw [HX.out]; simp [Cf.inR]; omega)]
                    exact id⟩
                  go_wp2_with fail
                  go_ret
                  exact ⟨by rw [HBAD.out]; rfl, HB2.out⟩
                · by_cases hx1 : 999999 < x
                  · have HBAD : Stow (Cf.one ⟨rank, ps, tg, ap, st, dp, dt, mp, c0 :: m0, sm⟩ = 12) := ⟨by
                      rw [HE.out, if_neg]
                      rw [Cf.all_bad hlt' (by rw [HX.out]; simp [Cf.inR]; omega)]
                      exact id⟩
                    go_wp2_with fail
                    go_ret
                    exact ⟨by rw [HBAD.out]; rfl, HB2.out⟩
                  · go_wp2_with fail
                    refine ⟨⟨j + 1, by simp, by omega, ⟨fun k hk hkj => ?_⟩⟩, by simp [intOf]; omega⟩
                    by_cases hkl : k < j
                    · exact HIN.out k hk hkl
                    · obtain rfl : k = j := by omega
                      rw [HX.out]
                      simp [Cf.inR]
                      omega
              · obtain rfl : j = 7 := by omega
                have HGOOD : Stow (Cf.one ⟨rank, ps, tg, ap, st, dp, dt, mp, c0 :: m0, sm⟩ = 0) := ⟨by
                  rw [HE.out, if_pos]
                  exact Cf.all_good (fun k hk => HIN.out k hk (by rw [← HVL.out]; exact hk))⟩
                go_wp2_with fail
                go_ret
                exact ⟨by rw [HGOOD.out]; rfl, HB2.out⟩
end Go.Proofs.YtfbhdkkmcfnghaaGreatDoor
