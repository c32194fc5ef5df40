/- Walk of conf.Check. Conditions: the rules' memory. -/
import Derived.Test.YtfbhdkkmcfnghaaGreatDoorCfOne
namespace Go.Proofs.YtfbhdkkmcfnghaaGreatDoor
open Go.RowKit
set_option linter.unusedVariables false
set_option linter.unusedSimpArgs false

set_option maxHeartbeats 4000000 in
set_option maxRecDepth 100000 in
theorem cfCheck_any (c : Cf) (A : Option Addr) (cap : Nat) (R : List Rm) (w : World) (h : RsR w A cap R) (hc : c.rs = R.map Rm.r) (hf : c.f.length ≤ 140737488355328) : Calls Tryz.prog 29 #[.agg #[.slice A R.length cap, .string (bs c.f)]] w fun e w' => e = .returned (.int .i64 (Cf.check c : Nat)) ∧ Below w.heap.size w w' := by
  have HR := Stow.mk h
  have hfl : c.f.length ≤ 140737488355328 := hf
  obtain ⟨n, hn⟩ : ∃ n, R.length = n := ⟨_, rfl⟩
  have HNL := Stow.mk hn
  have hnl : n ≤ 9223372036854775807 := by have := SlR.len h.row; rw [List.length_map] at this; omega
  have HC : Stow (c.rs = R.map Rm.r) := ⟨hc⟩
  obtain ⟨crs, cf⟩ := c
  simp only at HC hfl
  rw [hn]
  clear h hf hc hn
  have HFM := Stow.mk (fun W => cfPrintable_any cf W (by omega))
  obtain ⟨ok, hok⟩ : ∃ b, Cf.fmtOk cf = b := ⟨_, rfl⟩
  rw [hok] at HFM
  have HOK := Stow.mk hok
  clear hok
  have hp0 := Held.made w [.slice A n cap, .string (bs cf)] 54
  have HB := Stow.mk (Below.alloc' (Below.self w) (.cells #[.slice A n cap, .string (bs cf)] 54))
  obtain ⟨W, hW⟩ : ∃ W, w.alloc (.cells #[.slice A n cap, .string (bs cf)] 54) = W := ⟨_, rfl⟩
  rw [show w.alloc (.cells [.slice A n cap, .string (bs cf)].toArray 54) = W from hW] at hp0
  rw [hW] at HB
  have HW := Stow.mk hW
  have HP := Stow.mk hp0
  have p0 := hp0.cell (i := 0) rfl
  have p1 := hp0.cell (i := 1) rfl
  clear hp0 hW
  cases ok with
  | false =>
    have HE : Stow (Cf.check ⟨crs, cf⟩ = 15) := ⟨by unfold Cf.check; rw [if_pos HOK.out]⟩
    go_enter Tryz.func29, Tryz.ntmps29
    go_upto_region 1 with fail
    rw [HW.out]
    go_wp2_with fail
    refine (HFM.out _).mono ?_
    rintro e w1 ⟨rfl, rfl⟩
    go_wp2_with fail
    go_ret
    exact ⟨by rw [HE.out]; rfl, HB.out⟩
  | true =>
    have hlc : crs.length = n := by rw [HC.out, List.length_map, HNL.out]
    by_cases h16 : 16 < n
    · have HE : Stow (Cf.check ⟨crs, cf⟩ = 8) := ⟨by unfold Cf.check; rw [if_neg (by simp [HOK.out]), if_pos (by simp only; omega)]⟩
      have h16i : (16 : Int) < n := by omega
      clear hlc
      go_enter Tryz.func29, Tryz.ntmps29
      go_upto_region 1 with fail
      rw [HW.out]
      go_wp2_with fail
      refine (HFM.out _).mono ?_
      rintro e w1 ⟨rfl, rfl⟩
      go_wp2_with fail
      go_ret
      exact ⟨by rw [HE.out]; rfl, HB.out⟩
    · have HE : Stow (Cf.check ⟨crs, cf⟩ = Cf.firstErr Cf.one crs) := ⟨by unfold Cf.check; rw [if_neg (by simp [HOK.out]), if_neg (by simp only; omega)]⟩
      have h16i : ¬ (16 : Int) < n := by omega
      clear hlc
      go_enter Tryz.func29, Tryz.ntmps29
      go_upto_region 1 with fail
      rw [HW.out]
      go_wp2_with fail
      refine (HFM.out _).mono ?_
      rintro e w1 ⟨rfl, rfl⟩
      go_wp2_with fail
      clear p0 p1
      go_loopw [4, 5, 19] (fun _ _ u wr => ∃ i : Nat, u = .int .i64 (i : Int) ∧ i ≤ n ∧ Stow (∀ j (hj : j < crs.length), j < i → Cf.one crs[j] = 0) ∧ Stow (Below w1.heap.size w1 wr)) (fun _ _ u _ => n - (intOf u).toNat)
      case atStart => exact ⟨0, rfl, by omega, ⟨fun j hj h => by omega⟩, ⟨Below.self _⟩⟩
      case round =>
        obtain ⟨i, rfl, hi, HZ, HBR⟩ := hrel
        have p0 := (HP.out.kept HBR.out).cell (i := 0) rfl
        by_cases hlt : i < n
        · have hlt' : i < R.length := by rw [HNL.out]; exact hlt
          have hltc : i < crs.length := by rw [HC.out, List.length_map]; exact hlt'
          have hbw := HB.out.trans (HBR.out.mono HB.out.size)
          obtain ⟨b, off, rfl, hblt, _⟩ := SlR.open HR.out.row (by simp; omega)
          have hra := (rm_at (SlR.keep HR.out.row hbw) hlt').2
          have hre := (HR.out.each _ (List.getElem_mem hlt')).keep hbw
          have hcr : crs[i] = R[i].r := by simp [HC.out]
          obtain ⟨m, hm⟩ : ∃ m, R[i] = m := ⟨_, rfl⟩
          rw [hm] at hra hre hcr
          have HCR := Stow.mk hcr
          obtain ⟨⟨rank, ps, tg, ap, st, dp, dt, mp, mi, sm⟩, mA, mcap⟩ := m
          have q0 : wr.cell? ⟨b, off + i * 10, none⟩ = some (.int .i64 rank) := hra 0 _ rfl
          have q1 := hra 1 _ rfl
          have q2 := hra 2 _ rfl
          have q3 := hra 3 _ rfl
          have q4 := hra 4 _ rfl
          have q5 := hra 5 _ rfl
          have q6 := hra 6 _ rfl
          have q7 := hra 7 _ rfl
          have q8 := hra 8 _ rfl
          have q9 := hra 9 _ rfl
          simp only at q1 q2 q3 q4 q5 q6 q7 q8 q9
          have HBX := Stow.mk (Below.alloc' (Below.self wr) (.cells #[.int .i64 rank, .slice mA ps.length mcap, .string (bs tg), .int .i64 ap, .int .i64 st, .int .i64 dp, .int .i64 dt, .int .i64 mp, .string (bs mi), .int .i64 sm] 95))
          have HCK := Stow.mk (cfOne_any ⟨⟨rank, ps, tg, ap, st, dp, dt, mp, mi, sm⟩, mA, mcap⟩ (wr.alloc (.cells #[.int .i64 rank, .slice mA ps.length mcap, .string (bs tg), .int .i64 ap, .int .i64 st, .int .i64 dp, .int .i64 dt, .int .i64 mp, .string (bs mi), .int .i64 sm] 95)) (hre.keep HBX.out))
          obtain ⟨er, her⟩ : ∃ e, Cf.one ⟨rank, ps, tg, ap, st, dp, dt, mp, mi, sm⟩ = e := ⟨_, rfl⟩
          simp only at HCK
          rw [her] at HCK
          unfold Rm.cells at HCK
          have HER := Stow.mk her
          have hii : (i : Int) < n := by omega
          have hi0 : (0 : Int) ≤ i := by omega
          clear hm her hre hra hcr hbw
          by_cases h0 : er = 0
          · subst h0
            go_wp2_with fail
            refine HCK.out.mono ?_
            rintro e w3 ⟨rfl, hb3⟩
            have HB1 := Stow.mk (HBR.out.trans ((HBX.out.trans (hb3.mono HBX.out.size)).mono HBR.out.size))
            clear hb3 q0 q1 q2 q3 q4 q5 q6 q7 q8 q9
            go_wp2_with fail
            refine ⟨⟨i + 1, by simp, by omega, ⟨fun j hj hji => ?_⟩, HB1⟩, by simp [intOf]; omega⟩
            by_cases hjl : j < i
            · exact HZ.out j hj hjl
            · obtain rfl : j = i := by omega
              rw [HCR.out]
              exact HER.out
          · have hne : ((er : Int) == 0) = false := by simp; omega
            have HEE : Stow (Cf.check ⟨crs, cf⟩ = er) := ⟨by
              have h1 := Cf.firstErr_at (e := Cf.one) hltc (fun j hj => HZ.out j (by omega) hj) (by rw [HCR.out]; simp only; rw [HER.out]; exact h0)
              rw [HE.out, h1, HCR.out]
              exact HER.out⟩
            have hnz : ¬ (er : Int) = 0 := by omega
            go_wp2_with fail
            refine HCK.out.mono ?_
            rintro e w3 ⟨rfl, hb3⟩
            have HB1 := Stow.mk (HB.out.trans ((HBR.out.trans ((HBX.out.trans (hb3.mono HBX.out.size)).mono HBR.out.size)).mono HB.out.size))
            clear hb3 q0 q1 q2 q3 q4 q5 q6 q7 q8 q9
            go_wp2_with fail
            go_ret
            exact ⟨by rw [HEE.out]; rfl, HB1.out⟩
        · obtain rfl : i = n := by omega
          have HEE : Stow (Cf.check ⟨crs, cf⟩ = 0) := ⟨by
            rw [HE.out]
            exact Cf.firstErr_none (fun j hj => HZ.out j hj (by rw [HC.out, List.length_map, HNL.out] at hj; exact hj))⟩
          have hii : ¬ (i : Int) < i := by omega
          go_wp2_with fail
          go_ret
          exact ⟨by rw [HEE.out]; rfl, HB.out.trans (HBR.out.mono HB.out.size)⟩
end Go.Proofs.YtfbhdkkmcfnghaaGreatDoor
