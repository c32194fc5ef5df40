/- Walk of the statement: configs come back. Conditions: the config's memory; texts no longer than an address space; what the library's variables hold. -/
import Derived.Test.YtfbhdkkmcfnghaaGreatDoorCfKnown
import Derived.Test.YtfbhdkkmcfnghaaGreatDoorCfFew
import Derived.Deep.DeepCutAuto
namespace Go.Proofs.YtfbhdkkmcfnghaaGreatDoor
open Go.RowKit
set_option linter.unusedVariables false
set_option linter.unusedSimpArgs false

theorem Cf.read_bad {t : List UInt8} {d : Cf} {n e : Nat} (h : Cf.read t = (d, n, e)) (he : e ≠ 0) : d = ⟨[], []⟩ ∧ (n = 0 ∨ e = 3) := by
  unfold Cf.read at h
  split at h
  · simp only [Prod.mk.injEq] at h
    exact ⟨h.1.symm, .inl h.2.1.symm⟩
  · simp only at h
    split at h
    · simp only [Prod.mk.injEq] at h
      exact ⟨h.1.symm, .inr h.2.2.symm⟩
    · split at h
      · simp only [Prod.mk.injEq] at h
        exact ⟨h.1.symm, .inl h.2.1.symm⟩
      · simp only [Prod.mk.injEq] at h
        exact absurd h.2.2.symm he
theorem Cf.write_ok {c : Cf} (h : Cf.check c = 0) : Cf.write c = (Cf.text c, 0) := by unfold Cf.write; rw [if_neg (by simp [h])]
set_option maxHeartbeats 4000000 in
set_option maxRecDepth 100000 in
theorem back13 (c : Cf) (A : Option Addr) (cap : Nat) (R : List Rm) (t : List UInt8) (w : World) (h : RsR w A cap R) (hc : c.rs = R.map Rm.r) (hf : c.f.length ≤ 140737488355328) (ht : t.length ≤ 140737488355328) (hm : MaxIs w) (hP : Pow10 w) :
    Calls Tryz.prog 7 #[.agg #[.slice A R.length cap, .string (bs c.f)], .string (bs t)] w fun e w' => e = .returned (.bool true) ∧ Below w.heap.size w w' := by
  have HM := Stow.mk hm
  have HPW := Stow.mk hP
  have hp0 := Held.made w [.slice A R.length cap, .string (bs c.f)] 54
  have hb0 := Below.alloc' (Below.self w) (.cells #[.slice A R.length cap, .string (bs c.f)] 54)
  obtain ⟨W, hW⟩ : ∃ W, w.alloc (.cells #[.slice A R.length cap, .string (bs c.f)] 54) = W := ⟨_, rfl⟩
  rw [show w.alloc (.cells [.slice A R.length cap, .string (bs c.f)].toArray 54) = W from hW] at hp0
  rw [hW] at hb0
  have HX := Stow.mk hW
  have HP := Stow.mk hp0
  have HB := Stow.mk hb0
  have HFW := Stow.mk (cfFew_any c A cap R W (h.keep hb0) hc hf)
  have HRS := Stow.mk (h.keep hb0)
  have HC := Stow.mk hc
  have p0 := hp0.cell (i := 0) rfl
  have p1 := hp0.cell (i := 1) rfl
  obtain ⟨q, hq⟩ : ∃ q, Cf.few c = q := ⟨_, rfl⟩
  rw [hq] at HFW
  clear h hW hp0 hb0 hc hq hm hP
  cases q with
  | false =>
    go_enter Tryz.func7, Tryz.ntmps7
    go_upto_region 1 with fail
    rw [HX.out]
    go_wp2_with fail
    refine HFW.out.mono ?_
    rintro e w1 ⟨rfl, hb1⟩
    have HB1 := Stow.mk (Below.call HB.out hb1)
    clear hb1 p0 p1
    go_wp2_with fail
    refine (known13_any _ (HM.out.keep HB1.out) (HPW.out.keep HB1.out)).mono ?_
    rintro e wk ⟨rfl, hbk⟩
    have HBK := Stow.mk (Below.call HB1.out hbk)
    clear hbk
    go_wp2_with fail
    go_ret
    exact ⟨rfl, HBK.out⟩
  | true =>
    by_cases h6 : 6000 < t.length
    · have h6i : (6000 : Int) < t.length := by omega
      go_enter Tryz.func7, Tryz.ntmps7
      go_upto_region 1 with fail
      rw [HX.out]
      go_wp2_with fail
      refine HFW.out.mono ?_
      rintro e w1 ⟨rfl, hb1⟩
      have HB1 := Stow.mk (Below.call HB.out hb1)
      clear hb1 p0 p1
      go_wp2_with fail
      refine (known13_any _ (HM.out.keep HB1.out) (HPW.out.keep HB1.out)).mono ?_
      rintro e wk ⟨rfl, hbk⟩
      have HBK := Stow.mk (Below.call HB1.out hbk)
      clear hbk
      go_wp2_with fail
      go_ret
      exact ⟨rfl, HBK.out⟩
    · have h6i : ¬ (6000 : Int) < t.length := by omega
      go_enter Tryz.func7, Tryz.ntmps7
      go_upto_region 1 with fail
      rw [HX.out]
      go_wp2_with fail
      refine HFW.out.mono ?_
      rintro e w1 ⟨rfl, hb1⟩
      have HP1 := Stow.mk (HP.out.kept hb1)
      have HB1 := Stow.mk (Below.call HB.out hb1)
      have HR1 := Stow.mk (HRS.out.keep hb1)
      clear hb1 p0 p1 HFW HRS HP HX HB
      have p0 := HP1.out.cell (i := 0) rfl
      have p1 := HP1.out.cell (i := 1) rfl
      have HWR := Stow.mk (cfWrite_any c A cap R w1 HR1.out HC.out hf (HPW.out.keep HB1.out))
      obtain ⟨s, es, hws⟩ : ∃ s e, Cf.write c = (s, e) := ⟨_, _, rfl⟩
      rw [hws] at HWR
      simp only at HWR
      have HWS := Stow.mk hws
      clear hws
      go_wp2_with fail
      refine HWR.out.mono ?_
      rintro e w2 ⟨rfl, hb2⟩
      have HP2 := Stow.mk (HP1.out.kept hb2)
      have HB2 := Stow.mk (Below.call HB1.out hb2)
      have HR2 := Stow.mk (HR1.out.keep hb2)
      clear hb2 p0 p1 HWR HP1 HB1 HR1
      go_upto_region 4 with fail
      have hsl : s.length ≤ 20000 := by
        have h := HWS.out
        unfold Cf.write at h
        split at h
        · simp only [Prod.mk.injEq] at h; rw [← h.1]; simp
        · rename_i h0
          simp only [Prod.mk.injEq] at h
          rw [← h.1]
          exact Cf.text_len (Decidable.byContradiction h0)
      go_cut [38] (fun bv wx => bv = .bool (decide (es = 0 ∧ s.length ≤ 4096)) ∧ wx = w2)
      case first =>
        by_cases e0 : es = 0
        · subst e0
          have hd : decide ((s.length : Int) ≤ 4096) = decide (s.length ≤ 4096) := by
            rw [Bool.eq_iff_iff, decide_eq_true_eq, decide_eq_true_eq]; omega
          have HD : Stow (decide (0 = 0 ∧ s.length ≤ 4096) = decide (s.length ≤ 4096)) := ⟨by simp⟩
          go_wp2_with fail
          go_meet
          exact ⟨by rw [HD.out]; try rfl, rfl⟩
        · have e0i : ((es : Int) == 0) = false := by simp; omega
          have HD : Stow (decide (es = 0 ∧ s.length ≤ 4096) = false) := ⟨by simp [e0]⟩
          go_wp2_with fail
          go_meet
          exact ⟨by rw [HD.out], rfl⟩
      case rest =>
        obtain ⟨rfl, hw2⟩ := hcut
        obtain rfl : w2 = wc := hw2.symm
        obtain ⟨bc, hbc⟩ : ∃ b, decide (es = 0 ∧ s.length ≤ 4096) = b := ⟨_, rfl⟩
        rw [hbc]
        have HBC := Stow.mk hbc
        clear hbc
        go_upto_if 38 with fail
        go_cut [2] (fun _ wx => Stow (Below w.heap.size w wx))
        case first =>
          cases bc with
          | false =>
            go_wp2_with fail
            go_meet
            exact HB2
          | true =>
            have hcond : es = 0 ∧ s.length ≤ 4096 := by have := HBC.out; simpa using this
            obtain ⟨rfl, hs4⟩ := hcond
            have hck : Cf.check c = 0 := by
              have h := HWS.out
              unfold Cf.write at h
              split at h
              · simp only [Prod.mk.injEq] at h; exact h.2
              · rename_i h0; exact Decidable.byContradiction h0
            have hst : Cf.text c = s := by
              have h := HWS.out
              rw [Cf.write_ok hck] at h
              simpa using h
            have hrd : Cf.read s = (c, 0, 0) := by
              rw [← hst]
              exact Cf.read_text hck (by rw [hst]; exact hs4)
            have HRD := cfRead_any s w2 (by omega) (HM.out.keep HB2.out)
            unfold ReadOut at HRD
            rw [hrd] at HRD
            have HRD' := Stow.mk HRD
            clear HRD hck hst hrd
            go_wp2_with fail
            refine HRD'.out.mono ?_
            rintro e w3 ⟨A3, k3, R3, rfl, hb3, hr3, hm3⟩
            (try simp only at hm3)
            have hl3 : R3.length = R.length := by
              have h1 := congrArg List.length hm3
              have h2 := congrArg List.length HC.out
              simp only [List.length_map] at h1 h2
              omega
            rw [hl3]
            have hb4 := Below.alloc' (Below.self w3) (.cells #[.slice A3 R.length k3, .string (bs c.f)] 54)
            have hd := Held.made w3 [.slice A3 R.length k3, .string (bs c.f)] 54
            obtain ⟨W4, hW4⟩ : ∃ W, w3.alloc (.cells #[.slice A3 R.length k3, .string (bs c.f)] 54) = W := ⟨_, rfl⟩
            rw [show w3.alloc (.cells [.slice A3 R.length k3, .string (bs c.f)].toArray 54) = W4 from hW4] at hd
            rw [hW4] at hb4
            have HX4 := Stow.mk hW4
            have HSM := Stow.mk (cfSame_any R.length R3 R A3 A k3 cap c.f W4 hl3 (hr3.keep hb4) ((HR2.out.keep hb3).keep hb4) (by rw [← hm3, HC.out]))
            have hp4 := (HP2.out.kept hb3).kept hb4
            have HB4 := Stow.mk (Below.call (Below.call HB2.out hb3) hb4)
            have p0 := hp4.cell (i := 0) rfl
            have p1 := hp4.cell (i := 1) rfl
            have d0 := hd.cell (i := 0) rfl
            have d1 := hd.cell (i := 1) rfl
            clear hb3 hr3 hm3 hl3 hb4 hd hW4 hp4 HRD'
            go_upto_region 6 with fail
            rw [HX4.out]
            go_wp2_with fail
            refine HSM.out.mono ?_
            rintro e w5 ⟨rfl, hb5⟩
            have HB5 := Stow.mk (Below.call HB4.out hb5)
            clear hb5 p0 p1 d0 d1
            go_wp2_with fail
            go_meet
            exact HB5
        case rest =>
          have HB3 := hcut
          clear HB2 HP2 HR2 HBC
          have HRD := cfRead_any t wc ht (HM.out.keep HB3.out)
          obtain ⟨d, n, er, hrd⟩ : ∃ d n e, Cf.read t = (d, n, e) := ⟨_, _, _, rfl⟩
          unfold ReadOut at HRD
          rw [hrd] at HRD
          simp only at HRD
          have HRD' := Stow.mk HRD
          have HRT := Stow.mk hrd
          clear HRD hrd hcut
          go_wp2_with fail
          refine HRD'.out.mono ?_
          rintro e w3 ⟨A3, k3, R3, rfl, hb3, hr3, hm3⟩
          have hd := Held.made w3 [.slice A3 R3.length k3, .string (bs d.f)] 54
          have hb4 := Below.alloc' (Below.self w3) (.cells #[.slice A3 R3.length k3, .string (bs d.f)] 54)
          obtain ⟨W4, hW4⟩ : ∃ W, w3.alloc (.cells #[.slice A3 R3.length k3, .string (bs d.f)] 54) = W := ⟨_, rfl⟩
          rw [show w3.alloc (.cells [.slice A3 R3.length k3, .string (bs d.f)].toArray 54) = W4 from hW4] at hd
          rw [hW4] at hb4
          have HX4 := Stow.mk hW4
          have HR4 := Stow.mk (hr3.keep hb4)
          have HD4 := Stow.mk hd
          have HE3 := Stow.mk hm3
          have HB4 := Stow.mk (Below.call (Below.call HB3.out hb3) hb4)
          clear hb3 hr3 hm3 hb4 hd hW4 HRD' HB3
          go_upto_region 9 with fail
          rw [HX4.out]
          have d0 := HD4.out.cell (i := 0) rfl
          have d1 := HD4.out.cell (i := 1) rfl
          by_cases e0 : er = 0
          · subst e0
            obtain ⟨hck, rfl⟩ := Cf.read_ok HRT.out
            obtain ⟨hdf, hdr, hdo⟩ := Cf.check_ok hck
            have htl := Cf.text_len hck
            have HWR := cfWrite_any d A3 k3 R3 W4 HR4.out HE3.out (by omega) (HPW.out.keep HB4.out)
            rw [Cf.write_ok hck] at HWR
            simp only at HWR
            have HWR' := Stow.mk HWR
            have HCK := Stow.mk hck
            clear HWR hdo
            go_wp2_with fail
            refine HWR'.out.mono ?_
            rintro e w5 ⟨rfl, hb5⟩
            have HB5 := Stow.mk (Below.call HB4.out hb5)
            have HR5 := Stow.mk (HR4.out.keep hb5)
            have HD5 := Stow.mk (HD4.out.kept hb5)
            have HRD := cfRead_any (Cf.text d) w5 (by omega) (HM.out.keep HB5.out)
            clear hb5 d0 d1 HWR' HB4 HR4 HD4
            obtain ⟨s2, hs2⟩ : ∃ s, Cf.text d = s := ⟨_, rfl⟩
            rw [hs2] at HRD htl ⊢
            by_cases hl4 : s2.length ≤ 4096
            · have hrd2 : Cf.read s2 = (d, 0, 0) := by
                rw [← hs2]
                exact Cf.read_text hck (by rw [hs2]; exact hl4)
              unfold ReadOut at HRD
              rw [hrd2] at HRD
              have HRD' := Stow.mk HRD
              have hl4i : ¬ (4096 : Int) < s2.length := by omega
              clear HRD hrd2 hck hs2
              go_wp2_with fail
              refine HRD'.out.mono ?_
              rintro e w6 ⟨A6, k6, R6, rfl, hb6, hr6, hm6⟩
              (try simp only at hm6)
              have hl6 : R6.length = R3.length := by
                have h1 := congrArg List.length hm6
                have h2 := congrArg List.length HE3.out
                simp only [List.length_map] at h1 h2
                omega
              rw [hl6]
              have hb7 := Below.alloc' (Below.self w6) (.cells #[.slice A6 R3.length k6, .string (bs d.f)] 54)
              have hd7 := Held.made w6 [.slice A6 R3.length k6, .string (bs d.f)] 54
              obtain ⟨W7, hW7⟩ : ∃ W, w6.alloc (.cells #[.slice A6 R3.length k6, .string (bs d.f)] 54) = W := ⟨_, rfl⟩
              rw [show w6.alloc (.cells [.slice A6 R3.length k6, .string (bs d.f)].toArray 54) = W7 from hW7] at hd7
              rw [hW7] at hb7
              have HX7 := Stow.mk hW7
              have HSM := Stow.mk (cfSame_any R3.length R6 R3 A6 A3 k6 k3 d.f W7 hl6 (hr6.keep hb7) ((HR5.out.keep hb6).keep hb7) (by rw [← hm6, HE3.out]))
              have hp7 := (HD5.out.kept hb6).kept hb7
              have HB7 := Stow.mk (Below.call (Below.call HB5.out hb6) hb7)
              have p0 := hp7.cell (i := 0) rfl
              have p1 := hp7.cell (i := 1) rfl
              have d0 := hd7.cell (i := 0) rfl
              have d1 := hd7.cell (i := 1) rfl
              clear hb6 hr6 hm6 hl6 hb7 hd7 hW7 hp7 HRD'
              go_upto_region 13 with fail
              rw [HX7.out]
              go_wp2_with fail
              refine HSM.out.mono ?_
              rintro e w8 ⟨rfl, hb8⟩
              have HB8 := Stow.mk (Below.call HB7.out hb8)
              clear hb8 p0 p1 d0 d1
              go_wp2_with fail
              refine (known13_any _ (HM.out.keep HB8.out) (HPW.out.keep HB8.out)).mono ?_
              rintro e wk ⟨rfl, hbk⟩
              have HBK := Stow.mk (Below.call HB8.out hbk)
              clear hbk
              go_wp2_with fail
              go_ret
              exact ⟨rfl, HBK.out⟩
            · have hl4i : (4096 : Int) < s2.length := by omega
              have HRD' := Stow.mk HRD
              clear HRD hck hs2
              go_wp2_with fail
              refine HRD'.out.mono ?_
              rintro e w6 ⟨A6, k6, R6, rfl, hb6, hr6, hm6⟩
              have HB6 := Stow.mk (Below.call HB5.out hb6)
              clear hb6 hr6 hm6
              have HB7 : Stow (Below w.heap.size w (w6.alloc (.cells #[.slice A6 R6.length k6, .string (bs (Cf.read s2).1.f)] 54))) := ⟨Below.alloc' HB6.out _⟩
              go_wp2_with fail
              refine (known13_any _ (HM.out.keep HB7.out) (HPW.out.keep HB7.out)).mono ?_
              rintro e wk ⟨rfl, hbk⟩
              have HBK := Stow.mk (Below.call HB7.out hbk)
              clear hbk
              go_wp2_with fail
              go_ret
              exact ⟨rfl, HBK.out⟩
          · obtain ⟨rfl, hne⟩ := Cf.read_bad HRT.out e0
            have hl3 : R3 = [] := by
              have := congrArg List.length HE3.out
              simpa using this.symm
            subst hl3
            have e0i : ((er : Int) == 0) = false := by simp; omega
            have e0j : ((er : Int) != 0) = true := by simp; omega
            have HSM := Stow.mk (cfSame_any 0 [] [] A3 none k3 0 [] W4 rfl HR4.out (RsR.none W4) rfl)
            have hn0 : (0 : Int) ≤ n := by omega
            by_cases hn : n = 0
            · subst hn
              go_wp2_with fail
              refine HSM.out.mono ?_
              rintro e w5 ⟨rfl, hb5⟩
              have HB5 := Stow.mk (Below.call HB4.out hb5)
              clear hb5 d0 d1
              go_wp2_with fail
              refine (known13_any _ (HM.out.keep HB5.out) (HPW.out.keep HB5.out)).mono ?_
              rintro e wk ⟨rfl, hbk⟩
              have HBK := Stow.mk (Below.call HB5.out hbk)
              clear hbk
              go_wp2_with fail
              go_ret
              exact ⟨rfl, HBK.out⟩
            · have hn1 : ((n : Int) == 0) = false := by simp; omega
              obtain rfl : er = 3 := by rcases hne with h | h; exact absurd h hn; exact h
              go_wp2_with fail
              refine HSM.out.mono ?_
              rintro e w5 ⟨rfl, hb5⟩
              have HB5 := Stow.mk (Below.call HB4.out hb5)
              clear hb5 d0 d1
              go_wp2_with fail
              refine (known13_any _ (HM.out.keep HB5.out) (HPW.out.keep HB5.out)).mono ?_
              rintro e wk ⟨rfl, hbk⟩
              have HBK := Stow.mk (Below.call HB5.out hbk)
              clear hbk
              go_wp2_with fail
              go_ret
              exact ⟨rfl, HBK.out⟩
end Go.Proofs.YtfbhdkkmcfnghaaGreatDoor
