/- Walks of conf.one, Check. Conditions: the rules' memory. -/
import Derived.Test.YtfbhdkkmcfnghaaGreatDoorCfNames
namespace Go.Proofs.YtfbhdkkmcfnghaaGreatDoor
open Go.RowKit
set_option linter.unusedVariables false
set_option linter.unusedSimpArgs false

theorem Cf.one_full {r : Ru} (h : 4 < r.ps.length) : Cf.one r = 8 := by unfold Cf.one; rw [if_pos h]
theorem Cf.one_pd {r : Ru} (h : ¬ 4 < r.ps.length) (h1 : Cf.firstErr Pd.err r.ps ≠ 0) : Cf.one r = Cf.firstErr Pd.err r.ps := by unfold Cf.one; rw [if_neg h, if_pos h1]
theorem Cf.one_names {r : Ru} (h : ¬ 4 < r.ps.length) (h1 : Cf.firstErr Pd.err r.ps = 0) (h2 : Cf.namesOk r = false) : Cf.one r = 7 := by unfold Cf.one; rw [if_neg h, if_neg (by simp [h1]), if_pos h2]
theorem Cf.one_nums {r : Ru} (h : ¬ 4 < r.ps.length) (h1 : Cf.firstErr Pd.err r.ps = 0) (h2 : Cf.namesOk r = true) : Cf.one r = if (Cf.nums r).all Cf.inR = true then 0 else 12 := by unfold Cf.one; rw [if_neg h, if_neg (by simp [h1]), if_neg (by simp [h2])]
theorem Cf.all_bad {L : List Int} {i : Nat} (hi : i < L.length) (h : Cf.inR L[i] = false) : (L.all Cf.inR = true) = False := by
  refine eq_false fun ha => ?_
  have := List.all_eq_true.1 ha _ (List.getElem_mem hi)
  rw [h] at this
  cases this
theorem Cf.all_good {L : List Int} (h : ∀ j (hj : j < L.length), Cf.inR L[j] = true) : L.all Cf.inR = true := by
  rw [List.all_eq_true]
  intro x hx
  obtain ⟨j, hj, rfl⟩ := List.getElem_of_mem hx
  exact h j hj
set_option maxHeartbeats 4000000 in
set_option maxRecDepth 100000 in
theorem cfOne_any (m : Rm) (w : World) (h : RmR w m) : Calls Tryz.prog 63 #[.agg m.cells.toArray] w fun e w' => e = .returned (.int .i64 (Cf.one m.r : Nat)) ∧ Below w.heap.size w w' := by
  obtain ⟨⟨rank, ps, tg, ap, st, dp, dt, mp, mi, sm⟩, A, cap⟩ := m
  have HM := Stow.mk h
  obtain ⟨n, hn⟩ : ∃ n, ps.length = n := ⟨_, rfl⟩
  have HNL := Stow.mk hn
  have hnl : n ≤ 9223372036854775807 := by have := SlR.len h.row; rw [List.length_map] at this; simp only at this; omega
  clear h
  unfold Rm.cells
  simp only
  rw [hn]
  by_cases h4 : 4 < n
  · have h4i : (4 : Int) < n := by omega
    have HE := Stow.mk (Cf.one_full (r := ⟨rank, ps, tg, ap, st, dp, dt, mp, mi, sm⟩) (by simp only; omega))
    clear hn
    have hp0 := Held.made w [.int .i64 rank, .slice A n cap, .string (bs tg), .int .i64 ap, .int .i64 st, .int .i64 dp, .int .i64 dt, .int .i64 mp, .string (bs mi), .int .i64 sm] 95
    have HB := Stow.mk (Below.alloc' (Below.self w) (.cells #[.int .i64 rank, .slice A n cap, .string (bs tg), .int .i64 ap, .int .i64 st, .int .i64 dp, .int .i64 dt, .int .i64 mp, .string (bs mi), .int .i64 sm] 95))
    obtain ⟨W, hW⟩ : ∃ W, w.alloc (.cells #[.int .i64 rank, .slice A n cap, .string (bs tg), .int .i64 ap, .int .i64 st, .int .i64 dp, .int .i64 dt, .int .i64 mp, .string (bs mi), .int .i64 sm] 95) = W := ⟨_, rfl⟩
    rw [show w.alloc (.cells [.int .i64 rank, .slice A n cap, .string (bs tg), .int .i64 ap, .int .i64 st, .int .i64 dp, .int .i64 dt, .int .i64 mp, .string (bs mi), .int .i64 sm].toArray 95) = W from hW] at hp0
    rw [hW] at HB
    have HW := Stow.mk hW
    have HP := Stow.mk hp0
    clear hp0 hW
    go_enter Tryz.func63, Tryz.ntmps63
    go_upto_region 1 with fail
    rw [HW.out]
    clear HW
    have p0 := HP.out.cell (i := 0) rfl
    have p1 := HP.out.cell (i := 1) rfl
    have p2 := HP.out.cell (i := 2) rfl
    have p3 := HP.out.cell (i := 3) rfl
    have p4 := HP.out.cell (i := 4) rfl
    have p5 := HP.out.cell (i := 5) rfl
    have p6 := HP.out.cell (i := 6) rfl
    have p7 := HP.out.cell (i := 7) rfl
    have p8 := HP.out.cell (i := 8) rfl
    have p9 := HP.out.cell (i := 9) rfl
    go_wp2_with fail
    go_ret
    exact ⟨by rw [HE.out]; rfl, HB.out⟩
  have h4i : ¬ (4 : Int) < n := by omega
  have hle4 : n ≤ 4 := by omega
  clear hn
  have hp0 := Held.made w [.int .i64 rank, .slice A n cap, .string (bs tg), .int .i64 ap, .int .i64 st, .int .i64 dp, .int .i64 dt, .int .i64 mp, .string (bs mi), .int .i64 sm] 95
  have HB := Stow.mk (Below.alloc' (Below.self w) (.cells #[.int .i64 rank, .slice A n cap, .string (bs tg), .int .i64 ap, .int .i64 st, .int .i64 dp, .int .i64 dt, .int .i64 mp, .string (bs mi), .int .i64 sm] 95))
  obtain ⟨W, hW⟩ : ∃ W, w.alloc (.cells #[.int .i64 rank, .slice A n cap, .string (bs tg), .int .i64 ap, .int .i64 st, .int .i64 dp, .int .i64 dt, .int .i64 mp, .string (bs mi), .int .i64 sm] 95) = W := ⟨_, rfl⟩
  rw [show w.alloc (.cells [.int .i64 rank, .slice A n cap, .string (bs tg), .int .i64 ap, .int .i64 st, .int .i64 dp, .int .i64 dt, .int .i64 mp, .string (bs mi), .int .i64 sm].toArray 95) = W from hW] at hp0
  rw [hW] at HB
  have HW := Stow.mk hW
  have HP := Stow.mk hp0
  clear hp0 hW
  go_enter Tryz.func63, Tryz.ntmps63
  go_upto_region 1 with fail
  rw [HW.out]
  clear HW
  have p0 := HP.out.cell (i := 0) rfl
  have p1 := HP.out.cell (i := 1) rfl
  have p2 := HP.out.cell (i := 2) rfl
  have p3 := HP.out.cell (i := 3) rfl
  have p4 := HP.out.cell (i := 4) rfl
  have p5 := HP.out.cell (i := 5) rfl
  have p6 := HP.out.cell (i := 6) rfl
  have p7 := HP.out.cell (i := 7) rfl
  have p8 := HP.out.cell (i := 8) rfl
  have p9 := HP.out.cell (i := 9) rfl
  go_wp2_with fail
  clear p0 p1 p2 p3 p4 p5 p6 p7 p8 p9
  go_loopw [4, 5, 15] (fun _ _ u wr => ∃ i : Nat, u = .int .i64 (i : Int) ∧ i ≤ n ∧ Stow (∀ j (hj : j < ps.length), j < i → ps[j].err = 0) ∧ Stow (Below W.heap.size W wr)) (fun _ _ u _ => n - (intOf u).toNat)
  case atStart => exact ⟨0, rfl, by omega, ⟨fun j hj h => by omega⟩, ⟨Below.self _⟩⟩
  case round =>
    obtain ⟨i, rfl, hi, HZ, HBR⟩ := hrel
    by_cases hlt : i < n
    · have hlt' : i < ps.length := by rw [HNL.out]; exact hlt
      obtain ⟨b, off, rfl, hblt, _⟩ := SlR.open HM.out.row (by simp; omega)
      obtain ⟨q0, q1, q2⟩ := pd_at (SlR.keep HM.out.row (HB.out.trans (HBR.out.mono HB.out.size))) hlt'
      have hf := HM.out.fits _ (List.getElem_mem hlt')
      obtain ⟨p, hp⟩ : ∃ p, ps[i] = p := ⟨_, rfl⟩
      have HPI := Stow.mk hp
      rw [hp] at q0 q1 q2 hf
      obtain ⟨k, pn, pv⟩ := p
      have HBX := Stow.mk (Below.alloc' (Below.self wr) (.cells #[.int .i64 k, .string (bs pn), .string (bs pv)] 98))
      have HCK := Stow.mk (pdCheck_any ⟨k, pn, pv⟩ (wr.alloc (.cells #[.int .i64 k, .string (bs pn), .string (bs pv)] 98)) hf)
      obtain ⟨er, her⟩ : ∃ e, (Pd.mk k pn pv).err = e := ⟨_, rfl⟩
      rw [her] at HCK
      unfold Pd.cells at HCK
      have HER := Stow.mk her
      have hii : (i : Int) < n := by omega
      have hi0 : (0 : Int) ≤ i := by omega
      simp only at q0 q1 q2
      clear hp her hf
      by_cases h0 : er = 0
      · subst h0
        go_wp2_with fail
        refine HCK.out.mono ?_
        rintro e w1 ⟨rfl, hb1⟩
        have HB1 := Stow.mk (HBR.out.trans ((HBX.out.trans (hb1.mono HBX.out.size)).mono HBR.out.size))
        clear hb1 q0 q1 q2
        go_wp2_with fail
        refine ⟨⟨i + 1, by simp, by omega, ⟨fun j hj hji => ?_⟩, HB1⟩, by simp [intOf]; omega⟩
        by_cases hjl : j < i
        · exact HZ.out j hj hjl
        · obtain rfl : j = i := by omega
          rw [HPI.out, HER.out]
      · have hne : ((er : Int) == 0) = false := by simp; omega
        have HE : Stow (Cf.one ⟨rank, ps, tg, ap, st, dp, dt, mp, mi, sm⟩ = er) := ⟨by
          have h1 : Cf.firstErr Pd.err ps = er := by
            have := Cf.firstErr_at (e := Pd.err) hlt' (fun j hj => HZ.out j (by omega) hj) (by rw [HPI.out, HER.out]; exact h0)
            rw [this, HPI.out, HER.out]
          rw [Cf.one_pd (by simp only; have := HNL.out; omega) (by simp only; rw [h1]; exact h0)]
          exact h1⟩
        have hnz : ¬ (er : Int) = 0 := by omega
        go_wp2_with fail
        refine HCK.out.mono ?_
        rintro e w1 ⟨rfl, hb1⟩
        have HB1 := Stow.mk (HB.out.trans ((HBR.out.trans ((HBX.out.trans (hb1.mono HBX.out.size)).mono HBR.out.size)).mono HB.out.size))
        clear hb1 q0 q1 q2
        go_wp2_with fail
        go_ret
        exact ⟨by rw [HE.out]; rfl, HB1.out⟩
    · obtain rfl : i = n := by omega
      have HF : Stow (Cf.firstErr Pd.err ps = 0) := ⟨Cf.firstErr_none (fun j hj => HZ.out j hj (by rw [← HNL.out]; exact hj))⟩
      have hii : ¬ (i : Int) < i := by omega
      have HP := Stow.mk (HP.out.kept HBR.out)
      have HNM := Stow.mk (cfNames_any rank A i cap tg ap st dp dt mp mi sm ps wr HM.out.tg HM.out.mi)
      obtain ⟨ok, hok⟩ : ∃ b, Cf.namesOk ⟨rank, ps, tg, ap, st, dp, dt, mp, mi, sm⟩ = b := ⟨_, rfl⟩
      rw [hok] at HNM
      have HOK := Stow.mk hok
      have HBZ := Stow.mk (HB.out.trans (HBR.out.mono HB.out.size))
      clear hok
      have p0 := HP.out.cell (i := 0) rfl
      have p1 := HP.out.cell (i := 1) rfl
      have p2 := HP.out.cell (i := 2) rfl
      have p3 := HP.out.cell (i := 3) rfl
      have p4 := HP.out.cell (i := 4) rfl
      have p5 := HP.out.cell (i := 5) rfl
      have p6 := HP.out.cell (i := 6) rfl
      have p7 := HP.out.cell (i := 7) rfl
      have p8 := HP.out.cell (i := 8) rfl
      have p9 := HP.out.cell (i := 9) rfl
      cases ok with
      | false =>
        have HE := Stow.mk (Cf.one_names (r := ⟨rank, ps, tg, ap, st, dp, dt, mp, mi, sm⟩) (by simp only; have := HNL.out; omega) HF.out HOK.out)
        go_wp2_with fail
        refine HNM.out.mono ?_
        rintro e w1 ⟨rfl, hb1⟩
        have HB1 := Stow.mk (HBZ.out.trans (hb1.mono HBZ.out.size))
        clear hb1
        go_wp2_with fail
        go_ret
        exact ⟨by rw [HE.out]; rfl, HB1.out⟩
      | true =>
        have HE := Stow.mk (Cf.one_nums (r := ⟨rank, ps, tg, ap, st, dp, dt, mp, mi, sm⟩) (by simp only; have := HNL.out; omega) HF.out HOK.out)
        go_wp2_with fail
        refine HNM.out.mono ?_
        rintro e w1 ⟨rfl, hb1⟩
        have HB1 := Stow.mk (HBZ.out.trans (hb1.mono HBZ.out.size))
        have HP := Stow.mk (HP.out.kept hb1)
        have HV := Stow.mk (Held.made w1 ((Cf.nums ⟨rank, ps, tg, ap, st, dp, dt, mp, mi, sm⟩).map fun n => Value.int .i64 n) 3)
        have HB2 := Stow.mk (HB1.out.trans ((Below.alloc' (Below.self w1) (.cells ((Cf.nums ⟨rank, ps, tg, ap, st, dp, dt, mp, mi, sm⟩).map fun n => Value.int .i64 n).toArray 3)).mono HB1.out.size))
        clear hb1 p0 p1 p2 p3 p4 p5 p6 p7 p8 p9
        have p0 := HP.out.cell (i := 0) rfl
        have p1 := HP.out.cell (i := 1) rfl
        have p2 := HP.out.cell (i := 2) rfl
        have p3 := HP.out.cell (i := 3) rfl
        have p4 := HP.out.cell (i := 4) rfl
        have p5 := HP.out.cell (i := 5) rfl
        have p6 := HP.out.cell (i := 6) rfl
        have p7 := HP.out.cell (i := 7) rfl
        have p8 := HP.out.cell (i := 8) rfl
        have p9 := HP.out.cell (i := 9) rfl
        go_upto_region 13 with fail
        generalize hX : World.alloc w1 _ = X
        rw [show w1.alloc (.cells ((Cf.nums ⟨rank, ps, tg, ap, st, dp, dt, mp, mi, sm⟩).map fun n => Value.int .i64 n).toArray 3) = X from hX] at HV HB2
        obtain ⟨V, hV⟩ : ∃ V, Cf.nums ⟨rank, ps, tg, ap, st, dp, dt, mp, mi, sm⟩ = V := ⟨_, rfl⟩
        have hVL : V.length = 7 := by rw [← hV]; rfl
        rw [hV] at HV HE
        have HVL := Stow.mk hVL
        clear hX hV hVL p0 p1 p2 p3 p4 p5 p6 p7 p8 p9
        go_loop [7, 44] (fun _ u => ∃ j : Nat, u = .int .i64 (j : Int) ∧ j ≤ 7 ∧ Stow (∀ k (hk : k < V.length), k < j → Cf.inR V[k] = true)) (fun _ u => 7 - (intOf u).toNat)
        case atStart => exact ⟨0, rfl, by omega, ⟨fun k hk h => by omega⟩⟩
        case round =>
          obtain ⟨j, rfl, hj, HIN⟩ := hrel
          by_cases hlt : j < 7
          · have hlt' : j < V.length := by rw [HVL.out]; exact hlt
            have q := HV.out.cell (i := j) (v := .int .i64 V[j]) (by simp [hlt'])
            obtain ⟨x, hx⟩ : ∃ x, V[j] = x := ⟨_, rfl⟩
            have HX := Stow.mk hx
            rw [hx] at q
            have hjj : (j : Int) < 7 := by omega
            have hj0 : (0 : Int) ≤ j := by omega
            clear hx
            by_cases hx0 : x < 0
            · have HBAD : Stow (Cf.one ⟨rank, ps, tg, ap, st, dp, dt, mp, mi, sm⟩ = 12) := ⟨by
                rw [HE.out, if_neg]
                rw [Cf.all_bad hlt' (by rw [HX.out]; simp [Cf.inR]; omega)]
                exact id⟩
              go_wp2_with fail
              go_ret
              exact ⟨by rw [HBAD.out]; rfl, HB2.out⟩
            · by_cases hx1 : 999999 < x
              · have HBAD : Stow (Cf.one ⟨rank, ps, tg, ap, st, dp, dt, mp, mi, sm⟩ = 12) := ⟨by
                  rw [HE.out, if_neg]
                  rw [Cf.all_bad hlt' (by rw [HX.out]; simp [Cf.inR]; omega)]
                  exact id⟩
                go_wp2_with fail
                go_ret
                exact ⟨by rw [HBAD.out]; rfl, HB2.out⟩
              · go_wp2_with fail
                refine ⟨⟨j + 1, by simp, by omega, ⟨fun k hk hkj => ?_⟩⟩, by simp [intOf]; omega⟩
                by_cases hkl : k < j
                · exact HIN.out k hk hkl
                · obtain rfl : k = j := by omega
                  rw [HX.out]
                  simp [Cf.inR]
                  omega
          · obtain rfl : j = 7 := by omega
            have HGOOD : Stow (Cf.one ⟨rank, ps, tg, ap, st, dp, dt, mp, mi, sm⟩ = 0) := ⟨by
              rw [HE.out, if_pos]
              exact Cf.all_good (fun k hk => HIN.out k hk (by rw [← HVL.out]; exact hk))⟩
            go_wp2_with fail
            go_ret
            exact ⟨by rw [HGOOD.out]; rfl, HB2.out⟩
end Go.Proofs.YtfbhdkkmcfnghaaGreatDoor
