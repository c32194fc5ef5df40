/- Walk of the config reader's read. Conditions: the reader's memory; what a variable of the library's holds. -/
import Derived.Test.YtfbhdkkmcfnghaaGreatDoorCfRdRule
namespace Go.Proofs.YtfbhdkkmcfnghaaGreatDoor
open Go.RowKit
set_option linter.unusedVariables false
set_option linter.unusedSimpArgs false

theorem Cf.preds_le : ∀ (l : List (List UInt8)) (k : Nat) (x : Ru), k ≤ (Cf.predsR k l x).2.1 ∧ (Cf.predsR k l x).2.1 ≤ k + l.length
  | [], k, x => ⟨Nat.le_refl _, Nat.le_refl _⟩
  | a :: t, k, x => by
    unfold Cf.predsR
    split
    · split <;> simp
    · split
      · rename_i p _
        have := Cf.preds_le t (k + 1) { x with ps := x.ps ++ [p] }
        simp only [List.length_cons]
        omega
      · simp
theorem Cf.opts_le : ∀ (l : List (List UInt8)) (k : Nat) (x : Ru) (last : Nat), k ≤ (Cf.optsR k l x last).2.1 ∧ (Cf.optsR k l x last).2.1 ≤ k + l.length
  | [], k, x, last => ⟨Nat.le_refl _, Nat.le_refl _⟩
  | a :: t, k, x, last => by
    unfold Cf.optsR
    simp only
    split
    · simp
    · split
      · simp
      · have := Cf.opts_le t (k + 1) (Cf.opt x a).2.2 (Cf.opt x a).1
        simp only [List.length_cons]
        omega
theorem Cf.rule_le {L : List (List UInt8)} {k : Nat} (hk : k < L.length) : k ≤ (Cf.ruleR L k).2.1 ∧ (Cf.ruleR L k).2.1 ≤ L.length ∧ ((Cf.ruleR L k).2.2 = true → k < (Cf.ruleR L k).2.1) := by
  unfold Cf.ruleR
  split
  · exact ⟨Nat.le_refl _, Nat.le_of_lt hk, fun h => by simp at h⟩
  · rename_i n _
    have h1 := Cf.preds_le (L.drop (k + 1)) (k + 1) (Cf.newRu n)
    rw [List.length_drop] at h1
    simp only
    split
    · have h2 := Cf.opts_le (L.drop (Cf.predsR (k + 1) (L.drop (k + 1)) (Cf.newRu n)).2.1) (Cf.predsR (k + 1) (L.drop (k + 1)) (Cf.newRu n)).2.1 (Cf.predsR (k + 1) (L.drop (k + 1)) (Cf.newRu n)).1 0
      rw [List.length_drop] at h2
      omega
    · rename_i hh
      exact ⟨by omega, by omega, fun h => absurd h hh⟩
theorem Cf.body_rule {L : List (List UInt8)} {n k : Nat} {rs : List Ru} (h : (Pg.cut (L.getD k [])).1 = Cf.wRule) : Cf.bodyR L (n + 1) k rs = if (Cf.ruleR L k).2.2 = true then Cf.bodyR L n (Cf.ruleR L k).2.1 (rs ++ [(Cf.ruleR L k).1]) else (rs, (Cf.ruleR L k).2.1, false) := by
  conv => lhs; unfold Cf.bodyR
  simp only
  rw [if_pos h]
theorem Cf.body_end {L : List (List UInt8)} {n k : Nat} {rs : List Ru} (h : (Pg.cut (L.getD k [])).1 = Cf.wEnd) : Cf.bodyR L (n + 1) k rs = if L.getD k [] = Cf.wEnd then (rs, k + 1, decide (k + 1 = L.length)) else (rs, k, false) := by
  conv => lhs; unfold Cf.bodyR
  simp only
  rw [if_neg (by rw [h]; decide), if_pos h]
theorem Cf.body_no {L : List (List UInt8)} {n k : Nat} {rs : List Ru} (h : (Pg.cut (L.getD k [])).1 ≠ Cf.wRule) (h2 : (Pg.cut (L.getD k [])).1 ≠ Cf.wEnd) : Cf.bodyR L (n + 1) k rs = (rs, k, false) := by
  conv => lhs; unfold Cf.bodyR
  simp only
  rw [if_neg h, if_neg h2]
/-- Amid the rules. -/
structure RdJ (w0 wl : World) (g : Nat) (LA : Option Addr) (lc : Nat) (L : List (List UInt8)) (f : List UInt8) (O : List Ru × Nat × Bool) (k : Nat) (vr : Value) (R : List Rm) : Prop where
  rd : RdM wl.heap.size wl g LA lc L k vr R f
  be : Below g w0 wl
  left : ∃ n, L.length < n + k ∧ Cf.bodyR L n k (R.map Rm.r) = O
  few : R.length ≤ k
  k : k ≤ L.length
set_option maxHeartbeats 4000000 in
set_option maxRecDepth 100000 in
theorem rdRead_any {N : Nat} {w : World} {g : Nat} {LA : Option Addr} {lc : Nat} {L : List (List UInt8)} {vr : Value} (h : RdM N w g LA lc L 0 vr [] []) (hL : LsOk L) (hm : MaxIs w) (hg0 : 0 < g) :
    Calls Tryz.prog 67 #[.pointer (some ⟨g, 0, none⟩)] w fun e w' => e = .returned (.bool (Cf.linesR L).2.2) ∧ Below g w w' ∧ ∃ vr' R', RdM w'.heap.size w' g LA lc L (Cf.linesR L).2.1 vr' R' (Cf.fmtR L).1 ∧ R'.map Rm.r = (Cf.linesR L).1 := by
  have HWD := Stow.mk (rdWord_any h hL hm)
  have hlen : (L.getD 0 []).length ≤ 4096 := by
    by_cases hk : 0 < L.length
    · rw [Cf.getD_at hk]; exact hL.2 _ (List.getElem_mem hk)
    · rw [Cf.getD_no hk]; simp
  have hq : (Pg.cut (L.getD 0 [])).1 = Cf.wFormat → 0 < L.length := fun h => by
    refine Decidable.byContradiction fun hn => ?_
    rw [Cf.getD_no hn] at h
    cases h
  obtain ⟨O, hO⟩ : ∃ O, Cf.linesR L = O := ⟨_, rfl⟩
  obtain ⟨ff, hff⟩ : ∃ ff, Cf.fmtR L = ff := ⟨_, rfl⟩
  have hO2 := hO
  unfold Cf.linesR at hO2
  rw [hff] at hO2 ⊢
  unfold Cf.fmtR at hff
  obtain ⟨a, ha⟩ : ∃ a, (Pg.cut (L.getD 0 [])).1 = a := ⟨_, rfl⟩
  obtain ⟨b, hb⟩ : ∃ b, (Pg.cut (L.getD 0 [])).2 = b := ⟨_, rfl⟩
  rw [ha, hb] at HWD hff
  rw [ha] at hq
  rw [hO]
  have HH := Stow.mk h
  have HM := Stow.mk hm
  have HL := Stow.mk hL
  have hsz := h.hN
  have hgN := h.gN
  have HOO := Stow.mk hO2
  have HFF := Stow.mk hff
  have HQ := Stow.mk hq
  clear ha hb hO h hm hL hO2 hff hq
  go_enter Tryz.func67, Tryz.ntmps67
  go_wp2_with fail
  refine HWD.out.mono ?_
  rintro e w1 ⟨rfl, hb1⟩
  have HB1 := Stow.mk hb1
  have HR1 := Stow.mk ((HH.out.keep (hb1.mono hsz)).more (Nat.le_trans hsz hb1.size) (Nat.le_refl _))
  clear hb1 HWD
  go_upto_region 2 with fail
  go_cut [17] (fun bv wx => bv = .bool (decide (a = Cf.wFormat ∧ b ≠ [])) ∧ wx = w1)
  case first =>
    by_cases hf : a = Cf.wFormat
    · have g_f : (a == [102, 111, 114, 109, 97, 116]) = true := by rw [hf]; rfl
      rcases b with _ | ⟨c, t⟩
      · have HD : Stow (decide (a = Cf.wFormat ∧ ([] : List UInt8) ≠ []) = false) := ⟨by simp⟩
        clear hf
        go_wp2_with fail
        go_meet
        exact ⟨by rw [HD.out], rfl⟩
      · have HD : Stow (decide (a = Cf.wFormat ∧ (c :: t) ≠ []) = true) := ⟨by simp [hf]⟩
        clear hf
        go_wp2_with fail
        go_meet
        exact ⟨by rw [HD.out], rfl⟩
    · have g_f : (a == [102, 111, 114, 109, 97, 116]) = false := by rw [beq_eq_false_iff_ne]; exact hf
      have HD : Stow (decide (a = Cf.wFormat ∧ b ≠ []) = false) := ⟨by simp [hf]⟩
      clear hf
      go_wp2_with fail
      go_meet
      exact ⟨by rw [HD.out], rfl⟩
  case rest =>
  obtain ⟨rfl, hw1⟩ := hcut
  obtain rfl : w1 = wc := hw1.symm
  obtain ⟨bc, hbc⟩ : ∃ c, decide (a = Cf.wFormat ∧ b ≠ []) = c := ⟨_, rfl⟩
  rw [hbc]
  have HBC := Stow.mk hbc
  clear hbc
  go_upto_if 17 with fail
  go_cut [0] (fun pv wx => pv = .pointer (some ⟨g, 0, none⟩) ∧ Stow (∃ vr R, RdJ w wx g LA lc L ff.1 O ff.2 vr R))
  case first =>
    cases bc with
    | true =>
      have hcond : a = Cf.wFormat ∧ b ≠ [] := by have := HBC.out; simpa using this
      have hL0 := HQ.out hcond.1
      have h1 := HFF.out
      rw [if_pos hcond] at h1
      have h2 := HOO.out
      rw [← h1] at h2
      have c1 : w1.cell? ⟨g, 1, none⟩ = some (.int .i64 0) := HR1.out.hd.cell (i := 1) rfl
      have hBg : Below g w w1 := HB1.out.mono (by omega)
      have c3 := HR1.out.hd.cell (i := 3) rfl
      have f1 := HR1.out.hd.free 1
      have f3 := HR1.out.hd.free 3
      have HJJ : Stow (RdJ w ((w1.setCell ⟨g, 3, none⟩ (.string (bs b))).setCell ⟨g, 1, none⟩ (.int .i64 1)) g LA lc L ff.1 O ff.2 vr []) := ⟨by
        rw [← h1]
        have hr := (HR1.out.fmt b).at 1
        refine ⟨hr.more ?_ (Nat.le_refl _), (hBg.setCell (p := ⟨g, 3, none⟩) (Nat.le_refl _) _).setCell (p := ⟨g, 1, none⟩) (Nat.le_refl _) _, ⟨_, by omega, h2⟩, by simp, by omega⟩
        simp⟩
      have HBG := Stow.mk hBg
      clear h1 h2 hcond hBg
      go_wp2_with fail
      go_meet
      exact ⟨rfl, ⟨_, _, HJJ.out⟩⟩
    | false =>
      have hcond : ¬ (a = Cf.wFormat ∧ b ≠ []) := by have := HBC.out; simpa using this
      have h1 := HFF.out
      rw [if_neg hcond] at h1
      have h2 := HOO.out
      rw [← h1] at h2
      have HNO : Stow (RdJ w w1 g LA lc L ff.1 O ff.2 vr []) := ⟨by
        rw [← h1]
        exact ⟨HR1.out, HB1.out.mono (by omega), ⟨_, by simp, h2⟩, by simp, by simp⟩⟩
      clear h1 h2 hcond
      go_wp2_with fail
      go_meet
      exact ⟨rfl, ⟨_, _, HNO.out⟩⟩
  case rest =>
    obtain ⟨rfl, HE⟩ := hcut
    clear HR1 HB1 HFF HOO HQ HH HBC
    go_wp2_with fail
    go_loopw [5] (fun _ wr => ∃ (k : Nat) (vr : Value) (R : List Rm), Stow (RdJ w wr g LA lc L ff.1 O k vr R)) (fun _ wr => L.length + 1 - cellNat wr g)
    case atStart => obtain ⟨vr1, R1, hh⟩ := HE.out; exact ⟨_, vr1, R1, ⟨hh⟩⟩
    case round =>
      obtain ⟨k, vr1, R1, HJ⟩ := hrel
      obtain ⟨n, hn, hO⟩ := HJ.out.left
      have hkL := HJ.out.k
      obtain ⟨m, rfl⟩ : ∃ m, n = m + 1 := ⟨n - 1, by omega⟩
      have HMl := Stow.mk (HM.out.low HJ.out.be hg0)
      have HWq := Stow.mk (rdWord_any HJ.out.rd HL.out HMl.out)
      have hqs : (Pg.cut (L.getD k [])).1 ≠ [] → k < L.length := fun h => by
        refine Decidable.byContradiction fun hn => ?_
        rw [Cf.getD_no hn] at h
        exact h rfl
      have br := Cf.body_rule (L := L) (n := m) (k := k) (rs := R1.map Rm.r)
      have be := Cf.body_end (L := L) (n := m) (k := k) (rs := R1.map Rm.r)
      have bn := Cf.body_no (L := L) (n := m) (k := k) (rs := R1.map Rm.r)
      rw [hO] at br be bn
      obtain ⟨la, hla⟩ : ∃ a, (Pg.cut (L.getD k [])).1 = a := ⟨_, rfl⟩
      obtain ⟨lb, hlb⟩ : ∃ b, (Pg.cut (L.getD k [])).2 = b := ⟨_, rfl⟩
      rw [hla] at HWq hqs br be bn
      rw [hlb] at HWq
      have hgl := HJ.out.rd.gN
      have hLn := HL.out.1
      clear hla hlb hO HE
      go_wp2_with fail
      refine HWq.out.mono ?_
      rintro e w3 ⟨rfl, hb3⟩
      have HR3 := Stow.mk ((HJ.out.rd.keep hb3).more hb3.size (Nat.le_refl _))
      have HB3 : Stow (Below g w w3) := ⟨HJ.out.be.trans (hb3.mono (by omega))⟩
      clear hb3 HWq
      by_cases hr : la = Cf.wRule
      · have g_r : (la == [114, 117, 108, 101]) = true := by rw [hr]; rfl
        have hk := hqs (by rw [hr]; decide)
        have hbr := br hr
        have hle := Cf.rule_le hk
        have hc := rdRule_any HR3.out HL.out (HM.out.low HB3.out hg0) (by have := HJ.out.few; omega) hk hg0
        obtain ⟨P, hP⟩ : ∃ P, Cf.ruleR L k = P := ⟨_, rfl⟩
        rw [hP] at hbr hle hc
        obtain ⟨x, k2, ok⟩ := P
        simp only at hbr hle hc
        have HC := Stow.mk hc
        clear br be bn hr hc hP hqs
        cases ok with
        | false =>
          simp only [Bool.false_eq_true, if_false, List.append_nil] at hbr HC
          subst hbr
          go_wp2_with fail
          refine HC.out.mono ?_
          rintro e w4 ⟨rfl, hb4, vr4, R4, hr4, hm4⟩
          have HR4 := Stow.mk (And.intro hr4 hm4)
          have HB4 : Stow (Below g w w4) := ⟨HB3.out.trans hb4⟩
          clear hb4 hr4 hm4
          go_wp2_with fail
          go_ret
          exact ⟨rfl, HB4.out, vr4, R4, HR4.out.1, HR4.out.2⟩
        | true =>
          simp only [if_true] at hbr HC
          have HBR := Stow.mk hbr
          have hlt := hle.2.2 rfl
          have hk2 := hle.2.1
          clear hbr hle
          go_wp2_with fail
          refine HC.out.mono ?_
          rintro e w4 ⟨rfl, hb4, vr4, R4, hr4, hm4⟩
          have HB4 : Stow (Below g w w4) := ⟨HB3.out.trans hb4⟩
          have hl4 : R4.length = R1.length + 1 := by
            have := congrArg List.length hm4
            simpa using this
          have HJ4 : Stow (RdJ w w4 g LA lc L ff.1 O k2 vr4 R4) := ⟨⟨hr4, HB4.out, ⟨m, by omega, by rw [hm4]; exact HBR.out.symm⟩, by have := HJ.out.few; omega, hk2⟩⟩
          have HMS : Stow (L.length + 1 - cellNat w4 g < L.length + 1 - cellNat wr g) := ⟨by rw [cellNat_rd HJ4.out.rd, cellNat_rd HJ.out.rd]; omega⟩
          clear hb4 hr4 hm4 hl4
          go_wp2_with fail
          (try go_step3)
          exact ⟨⟨k2, vr4, R4, HJ4⟩, HMS.out⟩
      · have g_r : (la == [114, 117, 108, 101]) = false := by rw [beq_eq_false_iff_ne]; exact hr
        by_cases he : la = Cf.wEnd
        · have g_e : (la == [101, 110, 100]) = true := by rw [he]; rfl
          have hk := hqs (by rw [he]; decide)
          have hbe := be he
          obtain ⟨b0, off, hLA, hcl⟩ := HR3.out.line hk
          rw [Cf.getD_at hk] at hbe
          obtain ⟨l, hl⟩ : ∃ l, L[k] = l := ⟨_, rfl⟩
          rw [hl] at hbe hcl
          have c0 := HR3.out.hd.cell (i := 0) rfl
          rw [hLA] at c0
          have c1 := HR3.out.hd.cell (i := 1) rfl
          have f1 := HR3.out.hd.free 1
          obtain ⟨nl, hnl⟩ : ∃ n, L.length = n := ⟨_, rfl⟩
          have HNL := Stow.mk hnl
          rw [hnl] at c0 hk hbe
          have hk0 : (0 : Int) ≤ k := by omega
          have hk1 : (k : Int) < nl := by omega
          have HLA := Stow.mk hLA
          clear br be bn hr he hqs hl hnl hLA
          by_cases hw : l = Cf.wEnd
          · have g_l : (l == [101, 110, 100]) = true := by rw [hw]; rfl
            have g_l2 : (l != [101, 110, 100]) = false := by rw [bne, g_l]; rfl
            rw [if_pos hw] at hbe
            subst hbe
            have HRE : Stow (∀ n m, RdM (((w3.drewN n).setCell ⟨g, 1, none⟩ (.int .i64 ((k : Int) + 1))).drewN m).heap.size (((w3.drewN n).setCell ⟨g, 1, none⟩ (.int .i64 ((k : Int) + 1))).drewN m) g LA lc L (k + 1) vr1 R1 ff.1) := ⟨fun n m => (((HR3.out.keep (Below.drewN' (Below.self w3) n)).at (k + 1)).keep (Below.drewN' (Below.refl _ _) m)).more (by simp) (Nat.le_refl _)⟩
            have hdk : ((k : Int) + 1 == (nl : Int)) = decide (k + 1 = nl) := by
              rw [Bool.eq_iff_iff, beq_iff_eq, decide_eq_true_eq]
              omega
            have HDK := Stow.mk hdk
            clear hdk
            clear hw
            go_upto_region 12 with fail
            go_quiet (fail)
            go_wp2_with fail
            go_quiet (fail)
            go_wp2_with fail
            go_ret
            exact ⟨by show _ = Ending.returned (.bool (decide (k + 1 = nl))); rw [← HDK.out]; rfl, Below.drewN' ((Below.drewN' HB3.out _).setCell (p := ⟨g, 1, none⟩) (Nat.le_refl _) _) _, vr1, R1, HRE.out _ _, rfl⟩
          · have g_l : (l == [101, 110, 100]) = false := by rw [beq_eq_false_iff_ne]; exact hw
            have g_l2 : (l != [101, 110, 100]) = true := by rw [bne, g_l]; rfl
            rw [if_neg hw] at hbe
            subst hbe
            clear hw
            go_upto_region 12 with fail
            go_quiet (fail)
            go_wp2_with fail
            go_ret
            exact ⟨rfl, Below.drewN' HB3.out _, vr1, R1, HR3.out.keep (Below.drewN' (Below.self w3) _), rfl⟩
        · have g_e : (la == [101, 110, 100]) = false := by rw [beq_eq_false_iff_ne]; exact he
          have hbn := bn hr he
          subst hbn
          clear br be hr he hqs bn
          go_wp2_with fail
          go_ret
          exact ⟨rfl, HB3.out, vr1, R1, HR3.out, rfl⟩
end Go.Proofs.YtfbhdkkmcfnghaaGreatDoor
