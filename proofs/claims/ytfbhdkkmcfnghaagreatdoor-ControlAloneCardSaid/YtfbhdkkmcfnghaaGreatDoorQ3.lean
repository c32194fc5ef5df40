/- Walk of the config reader's read. Conditions: the reader's memory; what a variable of the library's holds.; Walk of conf.Read. Conditions: a text's length; what a variable of the library's holds.; Walks of atomic.Int64's Add, Load and Store. Conditions: the cell's memory.; Walks of a control plane's New and judge. Conditions: the plane's memory; a text's length; what the library's variables hold.; Walk of a control plane's Publish. Conditions: the plane's memory; a text's length; what the library's variables hold.; Walks of a control plane's At, Versions, Refused. Conditions: the plane's memory. -/
import Derived.Test.YtfbhdkkmcfnghaaGreatDoorCfRdRule
import Derived.Test.YtfbhdkkmcfnghaaGreatDoorCfCheck
import Derived.Test.YtfbhdkkmcfnghaaGreatDoorOwnKit
import Derived.Laws.LoneSync
import Derived.Laws.Pointers
import Derived.Test.YtfbhdkkmcfnghaaGreatDoorQ2
import Derived.Test.YtfbhdkkmcfnghaaGreatDoorQ0
import Derived.Deep.AppendLies

section
namespace Go.Proofs.YtfbhdkkmcfnghaaGreatDoor
open Go.RowKit
set_option linter.unusedVariables false
set_option linter.unusedSimpArgs false

theorem Cf.preds_le : ∀ (l : List (List UInt8)) (k : Nat) (x : Ru), k ≤ (Cf.predsR k l x).2.1 ∧ (Cf.predsR k l x).2.1 ≤ k + l.length
  | [], k, x => ⟨Nat.le_refl _, Nat.le_refl _⟩
  | a :: t, k, x => by
    unfold Cf.predsR
    split
    · split <;> simp
    · split
      · rename_i p _
        have := Cf.preds_le t (k + 1) { x with ps := x.ps ++ [p] }
        simp only [List.length_cons]
        omega
      · simp
theorem Cf.opts_le : ∀ (l : List (List UInt8)) (k : Nat) (x : Ru) (last : Nat), k ≤ (Cf.optsR k l x last).2.1 ∧ (Cf.optsR k l x last).2.1 ≤ k + l.length
  | [], k, x, last => ⟨Nat.le_refl _, Nat.le_refl _⟩
  | a :: t, k, x, last => by
    unfold Cf.optsR
    simp only
    split
    · simp
    · split
      · simp
      · have := Cf.opts_le t (k + 1) (Cf.opt x a).2.2 (Cf.opt x a).1
        simp only [List.length_cons]
        omega
theorem Cf.rule_le {L : List (List UInt8)} {k : Nat} (hk : k < L.length) : k ≤ (Cf.ruleR L k).2.1 ∧ (Cf.ruleR L k).2.1 ≤ L.length ∧ ((Cf.ruleR L k).2.2 = true → k < (Cf.ruleR L k).2.1) := by
  unfold Cf.ruleR
  split
  · exact ⟨Nat.le_refl _, Nat.le_of_lt hk, fun h => by simp at h⟩
  · rename_i n _
    have h1 := Cf.preds_le (L.drop (k + 1)) (k + 1) (Cf.newRu n)
    rw [List.length_drop] at h1
    simp only
    split
    · have h2 := Cf.opts_le (L.drop (Cf.predsR (k + 1) (L.drop (k + 1)) (Cf.newRu n)).2.1) (Cf.predsR (k + 1) (L.drop (k + 1)) (Cf.newRu n)).2.1 (Cf.predsR (k + 1) (L.drop (k + 1)) (Cf.newRu n)).1 0
      rw [List.length_drop] at h2
      omega
    · rename_i hh
      exact ⟨by omega, by omega, fun h => absurd h hh⟩
theorem Cf.body_rule {L : List (List UInt8)} {n k : Nat} {rs : List Ru} (h : (Pg.cut (L.getD k [])).1 = Cf.wRule) : Cf.bodyR L (n + 1) k rs = if (Cf.ruleR L k).2.2 = true then Cf.bodyR L n (Cf.ruleR L k).2.1 (rs ++ [(Cf.ruleR L k).1]) else (rs, (Cf.ruleR L k).2.1, false) := by
  conv => lhs; unfold Cf.bodyR
  simp only
  rw [if_pos h]
theorem Cf.body_end {L : List (List UInt8)} {n k : Nat} {rs : List Ru} (h : (Pg.cut (L.getD k [])).1 = Cf.wEnd) : Cf.bodyR L (n + 1) k rs = if L.getD k [] = Cf.wEnd then (rs, k + 1, decide (k + 1 = L.length)) else (rs, k, false) := by
  conv => lhs; unfold Cf.bodyR
  simp only
  rw [if_neg (by rw [h]; decide), if_pos h]
theorem Cf.body_no {L : List (List UInt8)} {n k : Nat} {rs : List Ru} (h : (Pg.cut (L.getD k [])).1 ≠ Cf.wRule) (h2 : (Pg.cut (L.getD k [])).1 ≠ Cf.wEnd) : Cf.bodyR L (n + 1) k rs = (rs, k, false) := by
  conv => lhs; unfold Cf.bodyR
  simp only
  rw [if_neg h, if_neg h2]
/-- Amid the rules. -/
structure RdJ (w0 wl : World) (g : Nat) (LA : Option Addr) (lc : Nat) (L : List (List UInt8)) (f : List UInt8) (O : List Ru × Nat × Bool) (k : Nat) (vr : Value) (R : List Rm) : Prop where
  rd : RdM wl.heap.size wl g LA lc L k vr R f
  be : Below g w0 wl
  left : ∃ n, L.length < n + k ∧ Cf.bodyR L n k (R.map Rm.r) = O
  few : R.length ≤ k
  k : k ≤ L.length
set_option maxHeartbeats 4000000 in
set_option maxRecDepth 100000 in
theorem rdRead_any {N : Nat} {w : World} {g : Nat} {LA : Option Addr} {lc : Nat} {L : List (List UInt8)} {vr : Value} (h : RdM N w g LA lc L 0 vr [] []) (hL : LsOk L) (hm : MaxIs w) (hg0 : 0 < g) :
    Calls Tryz.prog 67 #[.pointer (some ⟨g, 0, none⟩)] w fun e w' => e = .returned (.bool (Cf.linesR L).2.2) ∧ Below g w w' ∧ ∃ vr' R', RdM w'.heap.size w' g LA lc L (Cf.linesR L).2.1 vr' R' (Cf.fmtR L).1 ∧ R'.map Rm.r = (Cf.linesR L).1 := by
  have HWD := Stow.mk (rdWord_any h hL hm)
  have hlen : (L.getD 0 []).length ≤ 4096 := by
    by_cases hk : 0 < L.length
    · rw [Cf.getD_at hk]; exact hL.2 _ (List.getElem_mem hk)
    · rw [Cf.getD_no hk]; simp
  have hq : (Pg.cut (L.getD 0 [])).1 = Cf.wFormat → 0 < L.length := fun h => by
    refine Decidable.byContradiction fun hn => ?_
    rw [Cf.getD_no hn] at h
    cases h
  obtain ⟨O, hO⟩ : ∃ O, Cf.linesR L = O := ⟨_, rfl⟩
  obtain ⟨ff, hff⟩ : ∃ ff, Cf.fmtR L = ff := ⟨_, rfl⟩
  have hO2 := hO
  unfold Cf.linesR at hO2
  rw [hff] at hO2 ⊢
  unfold Cf.fmtR at hff
  obtain ⟨a, ha⟩ : ∃ a, (Pg.cut (L.getD 0 [])).1 = a := ⟨_, rfl⟩
  obtain ⟨b, hb⟩ : ∃ b, (Pg.cut (L.getD 0 [])).2 = b := ⟨_, rfl⟩
  rw [ha, hb] at HWD hff
  rw [ha] at hq
  rw [hO]
  have HH := Stow.mk h
  have HM := Stow.mk hm
  have HL := Stow.mk hL
  have hsz := h.hN
  have hgN := h.gN
  have HOO := Stow.mk hO2
  have HFF := Stow.mk hff
  have HQ := Stow.mk hq
  clear ha hb hO h hm hL hO2 hff hq
  go_enter Tryz.func67, Tryz.ntmps67
  go_wp2_with fail
  refine HWD.out.mono ?_
  rintro e w1 ⟨rfl, hb1⟩
  have HB1 := Stow.mk hb1
  have HR1 := Stow.mk ((HH.out.keep (hb1.mono hsz)).more (Nat.le_trans hsz hb1.size) (Nat.le_refl _))
  clear hb1 HWD
  go_upto_region 2 with fail
  go_cut [17] (fun bv wx => bv = .bool (decide (a = Cf.wFormat ∧ b ≠ [])) ∧ wx = w1)
  case first =>
    by_cases hf : a = Cf.wFormat
    · have g_f : (a == [102, 111, 114, 109, 97, 116]) = true := by rw [hf]; rfl
      rcases b with _ | ⟨c, t⟩
      · have HD : Stow (decide (a = Cf.wFormat ∧ ([] : List UInt8) ≠ []) = false) := ⟨by simp⟩
        clear hf
        go_wp2_with fail
        go_meet
        exact ⟨by rw [HD.out], rfl⟩
      · have HD : Stow (decide (a = Cf.wFormat ∧ (c :: t) ≠ []) = true) := ⟨by simp [hf]⟩
        clear hf
        go_wp2_with fail
        go_meet
        exact ⟨by rw [HD.out], rfl⟩
    · have g_f : (a == [102, 111, 114, 109, 97, 116]) = false := by rw [beq_eq_false_iff_ne]; exact hf
      have HD : Stow (decide (a = Cf.wFormat ∧ b ≠ []) = false) := ⟨by simp [hf]⟩
      clear hf
      go_wp2_with fail
      go_meet
      exact ⟨by rw [HD.out], rfl⟩
  case rest =>
  obtain ⟨rfl, hw1⟩ := hcut
  obtain rfl : w1 = wc := hw1.symm
  obtain ⟨bc, hbc⟩ : ∃ c, decide (a = Cf.wFormat ∧ b ≠ []) = c := ⟨_, rfl⟩
  rw [hbc]
  have HBC := Stow.mk hbc
  clear hbc
  go_upto_if 17 with fail
  go_cut [0] (fun pv wx => pv = .pointer (some ⟨g, 0, none⟩) ∧ Stow (∃ vr R, RdJ w wx g LA lc L ff.1 O ff.2 vr R))
  case first =>
    cases bc with
    | true =>
      have hcond : a = Cf.wFormat ∧ b ≠ [] := by have := HBC.out; simpa using this
      have hL0 := HQ.out hcond.1
      have h1 := HFF.out
      rw [if_pos hcond] at h1
      have h2 := HOO.out
      rw [← h1] at h2
      have c1 : w1.cell? ⟨g, 1, none⟩ = some (.int .i64 0) := HR1.out.hd.cell (i := 1) rfl
      have hBg : Below g w w1 := HB1.out.mono (by omega)
      have c3 := HR1.out.hd.cell (i := 3) rfl
      have f1 := HR1.out.hd.free 1
      have f3 := HR1.out.hd.free 3
      have HJJ : Stow (RdJ w ((w1.setCell ⟨g, 3, none⟩ (.string (bs b))).setCell ⟨g, 1, none⟩ (.int .i64 1)) g LA lc L ff.1 O ff.2 vr []) := ⟨by
        rw [← h1]
        have hr := (HR1.out.fmt b).at 1
        refine ⟨hr.more ?_ (Nat.le_refl _), (hBg.setCell (p := ⟨g, 3, none⟩) (Nat.le_refl _) _).setCell (p := ⟨g, 1, none⟩) (Nat.le_refl _) _, ⟨_, by omega, h2⟩, by simp, by omega⟩
        simp⟩
      have HBG := Stow.mk hBg
      clear h1 h2 hcond hBg
      go_wp2_with fail
      go_meet
      exact ⟨rfl, ⟨_, _, HJJ.out⟩⟩
    | false =>
      have hcond : ¬ (a = Cf.wFormat ∧ b ≠ []) := by have := HBC.out; simpa using this
      have h1 := HFF.out
      rw [if_neg hcond] at h1
      have h2 := HOO.out
      rw [← h1] at h2
      have HNO : Stow (RdJ w w1 g LA lc L ff.1 O ff.2 vr []) := ⟨by
        rw [← h1]
        exact ⟨HR1.out, HB1.out.mono (by omega), ⟨_, by simp, h2⟩, by simp, by simp⟩⟩
      clear h1 h2 hcond
      go_wp2_with fail
      go_meet
      exact ⟨rfl, ⟨_, _, HNO.out⟩⟩
  case rest =>
    obtain ⟨rfl, HE⟩ := hcut
    clear HR1 HB1 HFF HOO HQ HH HBC
    go_wp2_with fail
    go_loopw [5] (fun _ wr => ∃ (k : Nat) (vr : Value) (R : List Rm), Stow (RdJ w wr g LA lc L ff.1 O k vr R)) (fun _ wr => L.length + 1 - cellNat wr g)
    case atStart => obtain ⟨vr1, R1, hh⟩ := HE.out; exact ⟨_, vr1, R1, ⟨hh⟩⟩
    case round =>
      obtain ⟨k, vr1, R1, HJ⟩ := hrel
      obtain ⟨n, hn, hO⟩ := HJ.out.left
      have hkL := HJ.out.k
      obtain ⟨m, rfl⟩ : ∃ m, n = m + 1 := ⟨n - 1, by omega⟩
      have HMl := Stow.mk (HM.out.low HJ.out.be hg0)
      have HWq := Stow.mk (rdWord_any HJ.out.rd HL.out HMl.out)
      have hqs : (Pg.cut (L.getD k [])).1 ≠ [] → k < L.length := fun h => by
        refine Decidable.byContradiction fun hn => ?_
        rw [Cf.getD_no hn] at h
        exact h rfl
      have br := Cf.body_rule (L := L) (n := m) (k := k) (rs := R1.map Rm.r)
      have be := Cf.body_end (L := L) (n := m) (k := k) (rs := R1.map Rm.r)
      have bn := Cf.body_no (L := L) (n := m) (k := k) (rs := R1.map Rm.r)
      rw [hO] at br be bn
      obtain ⟨la, hla⟩ : ∃ a, (Pg.cut (L.getD k [])).1 = a := ⟨_, rfl⟩
      obtain ⟨lb, hlb⟩ : ∃ b, (Pg.cut (L.getD k [])).2 = b := ⟨_, rfl⟩
      rw [hla] at HWq hqs br be bn
      rw [hlb] at HWq
      have hgl := HJ.out.rd.gN
      have hLn := HL.out.1
      clear hla hlb hO HE
      go_wp2_with fail
      refine HWq.out.mono ?_
      rintro e w3 ⟨rfl, hb3⟩
      have HR3 := Stow.mk ((HJ.out.rd.keep hb3).more hb3.size (Nat.le_refl _))
      have HB3 : Stow (Below g w w3) := ⟨HJ.out.be.trans (hb3.mono (by omega))⟩
      clear hb3 HWq
      by_cases hr : la = Cf.wRule
      · have g_r : (la == [114, 117, 108, 101]) = true := by rw [hr]; rfl
        have hk := hqs (by rw [hr]; decide)
        have hbr := br hr
        have hle := Cf.rule_le hk
        have hc := rdRule_any HR3.out HL.out (HM.out.low HB3.out hg0) (by have := HJ.out.few; omega) hk hg0
        obtain ⟨P, hP⟩ : ∃ P, Cf.ruleR L k = P := ⟨_, rfl⟩
        rw [hP] at hbr hle hc
        obtain ⟨x, k2, ok⟩ := P
        simp only at hbr hle hc
        have HC := Stow.mk hc
        clear br be bn hr hc hP hqs
        cases ok with
        | false =>
          simp only [Bool.false_eq_true, if_false, List.append_nil] at hbr HC
          subst hbr
          go_wp2_with fail
          refine HC.out.mono ?_
          rintro e w4 ⟨rfl, hb4, vr4, R4, hr4, hm4⟩
          have HR4 := Stow.mk (And.intro hr4 hm4)
          have HB4 : Stow (Below g w w4) := ⟨HB3.out.trans hb4⟩
          clear hb4 hr4 hm4
          go_wp2_with fail
          go_ret
          exact ⟨rfl, HB4.out, vr4, R4, HR4.out.1, HR4.out.2⟩
        | true =>
          simp only [if_true] at hbr HC
          have HBR := Stow.mk hbr
          have hlt := hle.2.2 rfl
          have hk2 := hle.2.1
          clear hbr hle
          go_wp2_with fail
          refine HC.out.mono ?_
          rintro e w4 ⟨rfl, hb4, vr4, R4, hr4, hm4⟩
          have HB4 : Stow (Below g w w4) := ⟨HB3.out.trans hb4⟩
          have hl4 : R4.length = R1.length + 1 := by
            have := congrArg List.length hm4
            simpa using this
          have HJ4 : Stow (RdJ w w4 g LA lc L ff.1 O k2 vr4 R4) := ⟨⟨hr4, HB4.out, ⟨m, by omega, by rw [hm4]; exact HBR.out.symm⟩, by have := HJ.out.few; omega, hk2⟩⟩
          have HMS : Stow (L.length + 1 - cellNat w4 g < L.length + 1 - cellNat wr g) := ⟨by rw [cellNat_rd HJ4.out.rd, cellNat_rd HJ.out.rd]; omega⟩
          clear hb4 hr4 hm4 hl4
          go_wp2_with fail
          (try go_step3)
          exact ⟨⟨k2, vr4, R4, HJ4⟩, HMS.out⟩
      · have g_r : (la == [114, 117, 108, 101]) = false := by rw [beq_eq_false_iff_ne]; exact hr
        by_cases he : la = Cf.wEnd
        · have g_e : (la == [101, 110, 100]) = true := by rw [he]; rfl
          have hk := hqs (by rw [he]; decide)
          have hbe := be he
          obtain ⟨b0, off, hLA, hcl⟩ := HR3.out.line hk
          rw [Cf.getD_at hk] at hbe
          obtain ⟨l, hl⟩ : ∃ l, L[k] = l := ⟨_, rfl⟩
          rw [hl] at hbe hcl
          have c0 := HR3.out.hd.cell (i := 0) rfl
          rw [hLA] at c0
          have c1 := HR3.out.hd.cell (i := 1) rfl
          have f1 := HR3.out.hd.free 1
          obtain ⟨nl, hnl⟩ : ∃ n, L.length = n := ⟨_, rfl⟩
          have HNL := Stow.mk hnl
          rw [hnl] at c0 hk hbe
          have hk0 : (0 : Int) ≤ k := by omega
          have hk1 : (k : Int) < nl := by omega
          have HLA := Stow.mk hLA
          clear br be bn hr he hqs hl hnl hLA
          by_cases hw : l = Cf.wEnd
          · have g_l : (l == [101, 110, 100]) = true := by rw [hw]; rfl
            have g_l2 : (l != [101, 110, 100]) = false := by rw [bne, g_l]; rfl
            rw [if_pos hw] at hbe
            subst hbe
            have HRE : Stow (∀ n m, RdM (((w3.drewN n).setCell ⟨g, 1, none⟩ (.int .i64 ((k : Int) + 1))).drewN m).heap.size (((w3.drewN n).setCell ⟨g, 1, none⟩ (.int .i64 ((k : Int) + 1))).drewN m) g LA lc L (k + 1) vr1 R1 ff.1) := ⟨fun n m => (((HR3.out.keep (Below.drewN' (Below.self w3) n)).at (k + 1)).keep (Below.drewN' (Below.refl _ _) m)).more (by simp) (Nat.le_refl _)⟩
            have hdk : ((k : Int) + 1 == (nl : Int)) = decide (k + 1 = nl) := by
              rw [Bool.eq_iff_iff, beq_iff_eq, decide_eq_true_eq]
              omega
            have HDK := Stow.mk hdk
            clear hdk
            clear hw
            go_upto_region 12 with fail
            go_quiet (fail)
            go_wp2_with fail
            go_quiet (fail)
            go_wp2_with fail
            go_ret
            exact ⟨by show _ = Ending.returned (.bool (decide (k + 1 = nl))); rw [← HDK.out]; rfl, Below.drewN' ((Below.drewN' HB3.out _).setCell (p := ⟨g, 1, none⟩) (Nat.le_refl _) _) _, vr1, R1, HRE.out _ _, rfl⟩
          · have g_l : (l == [101, 110, 100]) = false := by rw [beq_eq_false_iff_ne]; exact hw
            have g_l2 : (l != [101, 110, 100]) = true := by rw [bne, g_l]; rfl
            rw [if_neg hw] at hbe
            subst hbe
            clear hw
            go_upto_region 12 with fail
            go_quiet (fail)
            go_wp2_with fail
            go_ret
            exact ⟨rfl, Below.drewN' HB3.out _, vr1, R1, HR3.out.keep (Below.drewN' (Below.self w3) _), rfl⟩
        · have g_e : (la == [101, 110, 100]) = false := by rw [beq_eq_false_iff_ne]; exact he
          have hbn := bn hr he
          subst hbn
          clear br be hr he hqs bn
          go_wp2_with fail
          go_ret
          exact ⟨rfl, HB3.out, vr1, R1, HR3.out, rfl⟩
end Go.Proofs.YtfbhdkkmcfnghaaGreatDoor
end

section
namespace Go.Proofs.YtfbhdkkmcfnghaaGreatDoor
open Go.RowKit
set_option linter.unusedVariables false
set_option linter.unusedSimpArgs false

theorem Cf.pieces_len (c : UInt8) : ∀ l : List UInt8, (Ts.pieces c l).length ≤ l.length + 1 ∧ ∀ p ∈ Ts.pieces c l, p.length ≤ l.length
  | [] => by simp [Ts.pieces]
  | b :: t => by
    have ih := Cf.pieces_len c t
    unfold Ts.pieces
    split
    · refine ⟨by simp; omega, fun p hp => ?_⟩
      rcases List.mem_cons.1 hp with rfl | hp
      · simp
      · have := ih.2 p hp; simp; omega
    · split
      · refine ⟨by simp, fun p hp => ?_⟩
        simp at hp; subst hp; simp
      · rename_i q qs hq
        rw [hq] at ih
        refine ⟨by simp at ih ⊢; omega, fun p hp => ?_⟩
        rcases List.mem_cons.1 hp with rfl | hp
        · have := ih.2 q (by simp); simp; omega
        · have := ih.2 p (by simp [hp]); simp; omega
theorem Cf.split_bytes (c : UInt8) (l : List UInt8) : Lib.splitB (bs [c]) 0 (Lib.countB (bs l) (bs [c])) (bs l) = (Ts.pieces c l).map bs := by
  refine bs_list ?_
  rw [Lib.splitB_data]
  exact Ts.split_pieces c l
theorem splitN_lib (l : List UInt8) (w : World) (hl : l.length < 4294967281) (hm : MaxIs w) :
    Calls Tryz.prog 66 #[.string (bs l), .string ⟨#[10]⟩] w fun e w' => e = .returned (.slice (some ⟨w.heap.size, 0, none⟩) (Ts.pieces 10 l).length (Ts.pieces 10 l).length) ∧ w' = w.alloc (.cells ((Ts.pieces 10 l).map fun p => Value.string (bs p)).toArray 9) := by
  obtain ⟨m, hm⟩ := hm
  have hn : Lib.countB (bs l) (bs [10]) + 1 = (Ts.pieces 10 l).length := by
    rw [← Lib.splitB_all (bs [10]) (by rw [bs_size]; simp) 0 _ (bs l) rfl, Cf.split_bytes, List.length_map]
  have h := Tryz.strings_Split (bs l) (bs [10]) m w (by rw [bs_size]; exact hl) hm (by rw [bs_size]; simp)
  rw [hn, Cf.split_bytes, List.map_map] at h
  exact h
theorem rdR_results (W : World) (g : Nat) (a b c d : Value) (tmps : Array Value) (hH : Held W g [a, b]) (h2 : tmps[2]?.getD undef = .pointer (some ⟨g, 0, none⟩)) (h3 : tmps[3]?.getD undef = c) (h4 : tmps[4]?.getD undef = d) :
    (results Tryz.f31 tmps).run Tryz.prog W = .ok (.tuple #[.agg #[a, b], c, d]) W := by
  have c0 := hH.cell (i := 0) rfl
  have c1 := hH.cell (i := 1) rfl
  simp [results, Tryz.results31, go_sem, h2, h3, h4, c0, c1]
theorem RdM.rules {N : Nat} {w : World} {g : Nat} {LA A : Option Addr} {lc cap : Nat} {L : List (List UInt8)} {k : Nat} {R : List Rm} {f : List UInt8} (h : RdM N w g LA lc L k (.slice A R.length cap) R f) : RsR w A cap R :=
  ⟨own_of_cells (enc := Rm.cells) (fun _ => rfl) h.row rfl, h.each⟩
theorem Cf.body_le {L : List (List UInt8)} : ∀ (n k : Nat) (rs : List Ru), k ≤ L.length → (Cf.bodyR L n k rs).2.1 ≤ L.length
  | 0, k, rs, h => h
  | n + 1, k, rs, h => by
    have hq : (Pg.cut (L.getD k [])).1 ≠ [] → k < L.length := fun h => by
      refine Decidable.byContradiction fun hn => ?_
      rw [Cf.getD_no hn] at h
      exact h rfl
    by_cases h1 : (Pg.cut (L.getD k [])).1 = Cf.wRule
    · rw [Cf.body_rule h1]
      have hl := Cf.rule_le (hq (by rw [h1]; decide))
      split
      · exact Cf.body_le n _ _ hl.2.1
      · exact hl.2.1
    by_cases h2 : (Pg.cut (L.getD k [])).1 = Cf.wEnd
    · rw [Cf.body_end h2]
      have := hq (by rw [h2]; decide)
      split
      · exact this
      · exact h
    · rw [Cf.body_no h1 h2]; exact h
theorem Cf.lines_le (L : List (List UInt8)) : (Cf.linesR L).2.1 ≤ L.length := by
  unfold Cf.linesR
  refine Cf.body_le _ _ _ ?_
  unfold Cf.fmtR
  split
  · rename_i h
    refine Decidable.byContradiction fun hn => ?_
    rw [Cf.getD_no (by omega)] at h
    cases h.1
  · exact Nat.zero_le _
theorem RdM.rules_turn {N p : Nat} {w w' : World} {g : Nat} {LA A : Option Addr} {lc cap : Nat} {L : List (List UInt8)} {k : Nat} {R : List Rm} {f : List UInt8} (h : RdM N w g LA lc L k (.slice A R.length cap) R f) (ht : Turn (fun i => i = p) w w') (hp : p < g) : RsR w' A cap R :=
  ⟨slrTurn h.rules.row ht (fun ad ha e => by subst ha; have := (World.ownsRow.lt h.row ad.block rfl).1; omega), fun m hm => (h.each m hm).turn ht (fun ad ha e => by have := (h.eachA m hm ad ha).1; omega)⟩
theorem Cf.fmt_len {L : List (List UInt8)} (h : LsOk L) : (Cf.fmtR L).1.length ≤ 4096 := by
  unfold Cf.fmtR
  split
  · rename_i hc
    have hk : 0 < L.length := by
      refine Decidable.byContradiction fun hn => ?_
      rw [Cf.getD_no (by omega)] at hc
      cases hc.1
    have := (Pg.cut_le (L.getD 0 [])).2
    have h2 : (L.getD 0 []).length ≤ 4096 := by rw [Cf.getD_at hk]; exact h.2 _ (List.getElem_mem hk)
    simp only
    omega
  · simp
/-- What conf.Read gives. -/
def ReadOut (t : List UInt8) (w : World) (e : Ending) (w' : World) : Prop :=
  ∃ A cap R, e = .returned (.tuple #[.agg #[.slice A R.length cap, .string (bs (Cf.read t).1.f)], .int .i64 ((Cf.read t).2.1 : Nat), .int .i64 ((Cf.read t).2.2 : Nat)]) ∧ Below w.heap.size w w' ∧ RsR w' A cap R ∧ (Cf.read t).1.rs = R.map Rm.r
theorem RsR.none (w : World) : RsR w none 0 [] := ⟨SlR.nil w 10, by simp⟩
set_option maxHeartbeats 4000000 in
set_option maxRecDepth 100000 in
theorem cfRead_any (t : List UInt8) (w : World) (ht : t.length ≤ 140737488355328) (hm : MaxIs w) : Calls Tryz.prog 31 #[.string (bs t)] w (ReadOut t w) := by
  have hp0 := Held.made w [.slice none 0 0, .string ⟨#[]⟩] 54
  have hb0 := Below.alloc' (Below.self w) (.cells #[.slice none 0 0, .string ⟨#[]⟩] 54)
  have hs0 : (w.alloc (.cells #[.slice none 0 0, .string ⟨#[]⟩] 54)).heap.size = w.heap.size + 1 := by simp
  by_cases hlong : 4096 < t.length
  · have HR : Stow (Cf.read t = (⟨[], []⟩, 0, 6)) := ⟨by unfold Cf.read; rw [if_pos hlong]⟩
    have hli : (4096 : Int) < t.length := by omega
    have f0 := hp0.free 0
    have f1 := hp0.free 1
    have HP := Stow.mk hp0
    have HB := Stow.mk hb0
    clear hp0 hb0 hs0
    go_enter Tryz.func31, Tryz.ntmps31
    go_wp2_with fail
    refine bodyPost_ret (rdR_results _ w.heap.size _ _ _ _ _ HP.out rfl rfl rfl) rfl ?_
    exact ⟨none, 0, [], by rw [HR.out]; rfl, HB.out, RsR.none _, by rw [HR.out]; rfl⟩
  · have hli : ¬ (4096 : Int) < t.length := by omega
    obtain ⟨W0, hW0⟩ : ∃ W, w.alloc (.cells #[.slice none 0 0, .string ⟨#[]⟩] 54) = W := ⟨_, rfl⟩
    rw [show w.alloc (.cells [.slice none 0 0, .string ⟨#[]⟩].toArray 54) = W0 from hW0] at hp0
    rw [hW0] at hb0 hs0
    have hplen := Cf.pieces_len 10 t
    have hpne := Ts.pieces_ne (c := 10) t
    have HSP := splitN_lib t W0 (by omega) (hm.keep hb0)
    have hRD : Cf.read t = if (Cf.linesR (Ts.pieces 10 t).dropLast).2.2 = false ∨ (Ts.pieces 10 t).getLastD [] ≠ [] then (⟨[], []⟩, (Cf.linesR (Ts.pieces 10 t).dropLast).2.1 + 1, 3)
        else if Cf.check ⟨(Cf.linesR (Ts.pieces 10 t).dropLast).1, (Cf.fmtR (Ts.pieces 10 t).dropLast).1⟩ ≠ 0 then (⟨[], []⟩, 0, Cf.check ⟨(Cf.linesR (Ts.pieces 10 t).dropLast).1, (Cf.fmtR (Ts.pieces 10 t).dropLast).1⟩)
        else (⟨(Cf.linesR (Ts.pieces 10 t).dropLast).1, (Cf.fmtR (Ts.pieces 10 t).dropLast).1⟩, 0, 0) := by
      unfold Cf.read
      rw [if_neg hlong]
    obtain ⟨P, hP⟩ : ∃ P, Ts.pieces 10 t = P := ⟨_, rfl⟩
    rw [hP] at HSP hplen hpne hRD
    obtain ⟨m, hm1⟩ : ∃ m, P.length = m + 1 := ⟨P.length - 1, by have := List.length_pos_iff.2 hpne; omega⟩
    obtain ⟨rd, hrd⟩ : ∃ r, Cf.read t = r := ⟨_, rfl⟩
    unfold ReadOut
    rw [hrd] at hRD ⊢
    obtain ⟨L, hL⟩ : ∃ L, P.dropLast = L := ⟨_, rfl⟩
    have hLl : L.length = m := by rw [← hL, List.length_dropLast, hm1]; rfl
    have hLok : LsOk L := ⟨by omega, fun l hl => by
      rw [← hL] at hl
      have := hplen.2 l (List.dropLast_subset P hl)
      omega⟩
    obtain ⟨q, hq⟩ : ∃ q, P.getLastD [] = q := ⟨_, rfl⟩
    have hqm : P[m]? = some q := by
      have e : P.getLast? = P[P.length - 1]? := List.getLast?_eq_getElem?
      rw [hm1, Nat.add_sub_cancel] at e
      rw [← hq, List.getLastD_eq_getLast?, e, List.getElem?_eq_getElem (by omega)]
      rfl
    rw [hL, hq] at hRD
    have hrow := World.ownsRow_lit (base := W0.heap.size) (e := 9) (size := 1) W0 (P.map fun p => Value.string (bs p)).toArray P.length (Nat.le_refl _) (by unfold maxLen; omega) (by simp)
    have hsl0 := slr_own_text (X := P) (n := P.length) (by have h := hrow; rw [List.toList_toArray] at h; exact h) rfl
    rw [hm1] at HSP hsl0
    have hsl := hsl0.take m (by rw [List.length_map]; omega)
    rw [← List.map_take, show P.take m = L by rw [← hL, List.dropLast_eq_take, hm1]; rfl] at hsl
    have HSP' := Stow.mk HSP
    have HX := Stow.mk hW0
    have HP0 := Stow.mk hp0
    have HB0 := Stow.mk hb0
    have HRD := Stow.mk hRD
    have HM := Stow.mk hm
    have HSL0 := Stow.mk hsl0
    have HSL := Stow.mk hsl
    have HQM := Stow.mk hqm
    have HPM := Stow.mk hm1
    have HLL := Stow.mk hLl
    have HLOK := Stow.mk hLok
    have HS0 := Stow.mk hs0
    have hmb : m ≤ 4096 := by omega
    have w0 : IntKind.i64.wrap (m : Int) = (m : Int) := IntWalk.i64_in _ (by omega)
    have hm0 : (0 : Int) ≤ m := by omega
    clear hs0 HSP hW0 hp0 hb0 hRD hm hsl0 hsl hqm hrow hq hL hP hpne hplen hrd hLok hm1
    go_enter Tryz.func31, Tryz.ntmps31
    go_upto_region 1 with fail
    rw [HX.out]
    go_wp2_with fail
    refine HSP'.out.mono ?_
    rintro e w1 ⟨rfl, hw1⟩
    have HB1 : Stow (Below W0.heap.size W0 w1) := ⟨by rw [hw1]; exact Below.alloc' (Below.self W0) _⟩
    have HS1 : Stow (w1.heap.size = W0.heap.size + 1) := ⟨by rw [hw1]; simp⟩
    rw [← hw1] at HSL HSL0
    clear hw1 HSP'
    go_upto_region 5 with fail
    have hr2 := Held.made w1 [.slice (some ⟨W0.heap.size, 0, none⟩) m (m + 1), .int .i64 0, .slice none 0 0, .string ⟨#[]⟩] 112
    have hb2 := Below.alloc' (Below.self w1) (.cells #[.slice (some ⟨W0.heap.size, 0, none⟩) m (m + 1), .int .i64 0, .slice none 0 0, .string ⟨#[]⟩] 112)
    have hs2 : (w1.alloc (.cells #[.slice (some ⟨W0.heap.size, 0, none⟩) m (m + 1), .int .i64 0, .slice none 0 0, .string ⟨#[]⟩] 112)).heap.size = w1.heap.size + 1 := by simp
    obtain ⟨W2, hW2⟩ : ∃ W, w1.alloc (.cells #[.slice (some ⟨W0.heap.size, 0, none⟩) m (m + 1), .int .i64 0, .slice none 0 0, .string ⟨#[]⟩] 112) = W := ⟨_, rfl⟩
    rw [show w1.alloc (.cells [.slice (some ⟨W0.heap.size, 0, none⟩) m (m + 1), .int .i64 0, .slice none 0 0, .string ⟨#[]⟩].toArray 112) = W2 from hW2] at hr2
    rw [hW2] at hb2 hs2 ⊢
    have hgs : w1.heap.size = w.heap.size + 2 := by rw [HS1.out, HS0.out]
    have hRd : RdM W2.heap.size W2 w1.heap.size (some ⟨W0.heap.size, 0, none⟩) (m + 1) L 0 (.slice none 0 0) [] [] := ⟨by rw [hLl]; exact hr2, by rw [hLl]; exact HSL.out.keep hb2, World.ownsRow_nil _ _ _ _, by simp, (fun ad ha => by cases ha; show W0.heap.size < w1.heap.size; have := HS1.out; omega), by simp, (fun i hi => by cases hi), by omega, Nat.le_refl _⟩
    have hBW2 : Below w.heap.size w W2 := Below.call (Below.call HB0.out (HB1.out.mono (by have := HS0.out; omega))) hb2
    have HRC := Stow.mk (rdRead_any hRd HLOK.out (HM.out.keep hBW2) (by omega))
    have HPW2 : Stow (Held W2 w.heap.size [.slice none 0 0, .string ⟨#[]⟩]) := ⟨(HP0.out.kept HB1.out).kept hb2⟩
    have HBW2 := Stow.mk hBW2
    have hqc : W2.cell? ⟨W0.heap.size, m, none⟩ = some (.string (bs q)) := by
      obtain ⟨b, off, hA, hlt, hc⟩ := HSL0.out.open (by rw [List.length_map, HPM.out]; omega)
      simp only [Option.some.injEq, Addr.mk.injEq] at hA
      obtain ⟨rfl, rfl, _⟩ := hA
      have h := hc m [Value.string (bs q)] (by rw [List.getElem?_map, HQM.out]; rfl) 0 _ rfl
      rw [hb2.cell (p := ⟨W0.heap.size, m, none⟩) hlt]
      simpa using h
    have HQC := Stow.mk hqc
    have HGS := Stow.mk hgs
    have hkb := Cf.lines_le L
    rw [hLl] at hkb
    have hfl := Cf.fmt_len HLOK.out
    obtain ⟨O, hO⟩ : ∃ O, Cf.linesR L = O := ⟨_, rfl⟩
    obtain ⟨F, hF⟩ : ∃ F, Cf.fmtR L = F := ⟨_, rfl⟩
    rw [hO] at hkb
    rw [hF] at hfl
    rw [hO, hF] at HRC HRD
    obtain ⟨rs, k, ok⟩ := O
    obtain ⟨f, kf⟩ := F
    simp only at HRC HRD hkb hfl
    clear hr2 hb2 hs2 hW2 hgs hRd hBW2 hqc hO hF HSL HSL0 HQM HPM HX HP0 HB0 HB1 HS1
    go_wp2_with fail
    refine HRC.out.mono ?_
    rintro e w3 ⟨rfl, hb3, vr3, R3, hr3, hm3⟩
    have HB3 : Stow (Below w.heap.size w w3) := ⟨HBW2.out.trans (hb3.mono (by have := HGS.out; omega))⟩
    have HP3 : Stow (Held w3 w.heap.size [.slice none 0 0, .string ⟨#[]⟩]) := ⟨HPW2.out.turn (Turn.of_below' hb3) (by have := HGS.out; omega)⟩
    have HQ3 : Stow (w3.cell? ⟨W0.heap.size, m, none⟩ = some (.string (bs q))) := ⟨by rw [hb3.cell (p := ⟨W0.heap.size, m, none⟩) (by show W0.heap.size < w1.heap.size; have := HGS.out; have := HS0.out; omega)]; exact HQC.out⟩
    have HR3 := Stow.mk hr3
    have HM3 := Stow.mk hm3
    clear hb3 hr3 hm3 HRC HBW2 HPW2 HQC
    have c1 := HR3.out.hd.cell (i := 1) rfl
    have c2 := HR3.out.hd.cell (i := 2) rfl
    have c3 := HR3.out.hd.cell (i := 3) rfl
    have p0 := HP3.out.cell (i := 0) rfl
    have p1 := HP3.out.cell (i := 1) rfl
    have f0 := HP3.out.free 0
    have f1 := HP3.out.free 1
    cases ok with
    | false =>
      have HRE : Stow (rd = (⟨[], []⟩, k + 1, 3)) := ⟨by rw [HRD.out, if_pos (.inl rfl)]⟩
      have hk1 : (k : Int) + 1 ≤ 9223372036854775807 := by omega
      have hne : w1.heap.size ≠ w.heap.size := by have := HGS.out; omega
      have cz : ((w3.setCell ⟨w.heap.size, 0, none⟩ (.slice none 0 0)).setCell ⟨w.heap.size, 1, none⟩ (.string ⟨#[]⟩)).cell? ⟨w1.heap.size, 1, none⟩ = some (.int .i64 (k : Int)) := ((HR3.out.hd.offO (Only.set w.heap.size w3 0 (.slice none 0 0)) hne).offO (Only.set w.heap.size _ 1 (.string ⟨#[]⟩)) hne).cell (i := 1) rfl
      go_upto_region 6 with fail
      go_region
      all_goals
        go_wp2_with fail
        refine bodyPost_ret (rdR_results _ w.heap.size _ _ _ _ _ (by first | exact HP3.out | exact (HP3.out.set 0 (.slice none 0 0)).set 1 (.string ⟨#[]⟩)) rfl rfl rfl) rfl ?_
        refine ⟨none, 0, [], by rw [HRE.out]; rfl, by first | exact HB3.out | exact Below.drew ((HB3.out.setCell (p := ⟨w.heap.size, 0, none⟩) (Nat.le_refl _) _).setCell (p := ⟨w.heap.size, 1, none⟩) (Nat.le_refl _) _), RsR.none _, by rw [HRE.out]; rfl⟩
    | true =>
      rcases q with _ | ⟨qc, qt⟩
      · have HRE : Stow (rd = if Cf.check ⟨rs, f⟩ ≠ 0 then (⟨[], []⟩, 0, Cf.check ⟨rs, f⟩) else (⟨rs, f⟩, 0, 0)) := ⟨by rw [HRD.out, if_neg (by simp)]⟩
        obtain ⟨A, cap, rfl⟩ := own_form HR3.out.row
        have HCK := Stow.mk (cfCheck_any ⟨rs, f⟩ A cap R3 w3 HR3.out.rules HM3.out.symm (by simp only; omega))
        obtain ⟨er, her⟩ : ∃ e, Cf.check ⟨rs, f⟩ = e := ⟨_, rfl⟩
        rw [her] at HCK HRE
        simp only at HCK
        have hq3 := HQ3.out
        clear her
        by_cases h0 : er = 0
        · subst h0
          have HRE2 : Stow (rd = (⟨rs, f⟩, 0, 0)) := ⟨by rw [HRE.out, if_neg (by simp)]⟩
          go_wp2_with fail
          refine HCK.out.mono ?_
          rintro e w4 ⟨rfl, hb4⟩
          have HR4 := Stow.mk (HR3.out.keep hb4)
          have HP4 := Stow.mk (HP3.out.kept hb4)
          have HB4 : Stow (Below w.heap.size w w4) := ⟨Below.call HB3.out hb4⟩
          clear hb4 c1 c2 c3 p0 p1 f0 f1 hq3
          have c2 := HR4.out.hd.cell (i := 2) rfl
          have c3 := HR4.out.hd.cell (i := 3) rfl
          have p0 := HP4.out.cell (i := 0) rfl
          have p1 := HP4.out.cell (i := 1) rfl
          have f0 := HP4.out.free 0
          have f1 := HP4.out.free 1
          go_wp2_with fail
          refine bodyPost_ret (rdR_results _ w.heap.size _ _ _ _ _ ((HP4.out.set 0 (.slice A R3.length cap)).set 1 (.string (bs f))) rfl rfl rfl) rfl ?_
          refine ⟨A, cap, R3, by rw [HRE2.out]; rfl, (HB4.out.setCell (p := ⟨w.heap.size, 0, none⟩) (Nat.le_refl _) _).setCell (p := ⟨w.heap.size, 1, none⟩) (Nat.le_refl _) _, ?_, by rw [HRE2.out]; exact HM3.out.symm⟩
          exact HR4.out.rules_turn (p := w.heap.size) ((Turn.setC w4 w.heap.size 0 _).trans (Turn.setC _ w.heap.size 1 _) (fun i hi => .inl hi)) (by have := HGS.out; omega)
        · have HRE2 : Stow (rd = (⟨[], []⟩, 0, er)) := ⟨by rw [HRE.out, if_pos h0]⟩
          have hez : ((er : Int) == 0) = false := by simp; omega
          have hez2 : ((er : Int) != 0) = true := by simp; omega
          go_wp2_with fail
          refine HCK.out.mono ?_
          rintro e w4 ⟨rfl, hb4⟩
          have HP4 := Stow.mk (HP3.out.kept hb4)
          have HB4 : Stow (Below w.heap.size w w4) := ⟨Below.call HB3.out hb4⟩
          clear hb4 c1 c2 c3 p0 p1 f0 f1 hq3
          have p0 := HP4.out.cell (i := 0) rfl
          have p1 := HP4.out.cell (i := 1) rfl
          have f0 := HP4.out.free 0
          have f1 := HP4.out.free 1
          go_wp2_with fail
          refine bodyPost_ret (rdR_results _ w.heap.size _ _ _ _ _ (by first | exact HP4.out | exact (HP4.out.set 0 (.slice none 0 0)).set 1 (.string ⟨#[]⟩)) rfl rfl rfl) rfl ?_
          exact ⟨none, 0, [], by rw [HRE2.out]; rfl, by first | exact HB4.out | exact ((HB4.out.setCell (p := ⟨w.heap.size, 0, none⟩) (Nat.le_refl _) _).setCell (p := ⟨w.heap.size, 1, none⟩) (Nat.le_refl _) _), RsR.none _, by rw [HRE2.out]; rfl⟩
      · have HRE : Stow (rd = (⟨[], []⟩, k + 1, 3)) := ⟨by rw [HRD.out, if_pos (.inr (by simp))]⟩
        have hq3 := HQ3.out
        have hk1 : (k : Int) + 1 ≤ 9223372036854775807 := by omega
        have hne : w1.heap.size ≠ w.heap.size := by have := HGS.out; omega
        have cz : ((w3.setCell ⟨w.heap.size, 0, none⟩ (.slice none 0 0)).setCell ⟨w.heap.size, 1, none⟩ (.string ⟨#[]⟩)).cell? ⟨w1.heap.size, 1, none⟩ = some (.int .i64 (k : Int)) := ((HR3.out.hd.offO (Only.set w.heap.size w3 0 (.slice none 0 0)) hne).offO (Only.set w.heap.size _ 1 (.string ⟨#[]⟩)) hne).cell (i := 1) rfl
        go_upto_region 6 with fail
        go_region
        all_goals
          go_wp2_with fail
          refine bodyPost_ret (rdR_results _ w.heap.size _ _ _ _ _ (by first | exact HP3.out | exact (HP3.out.set 0 (.slice none 0 0)).set 1 (.string ⟨#[]⟩)) rfl rfl rfl) rfl ?_
          refine ⟨none, 0, [], by rw [HRE.out]; rfl, by first | exact HB3.out | exact Below.drew ((HB3.out.setCell (p := ⟨w.heap.size, 0, none⟩) (Nat.le_refl _) _).setCell (p := ⟨w.heap.size, 1, none⟩) (Nat.le_refl _) _), RsR.none _, by rw [HRE.out]; rfl⟩
end Go.Proofs.YtfbhdkkmcfnghaaGreatDoor
end

section
namespace Go.Proofs.YtfbhdkkmcfnghaaGreatDoor
open Go.RowKit
set_option linter.unusedVariables false

theorem i64_load (a : Addr) (d : Int) (w : World) (hc : w.cell? a = some (.int .i64 d)) :
    Calls Tryz.prog 57 #[.pointer (some a)] w fun e w' => e = .returned (.int .i64 d) ∧ w' = w := by
  have hl := run_call_load (P := Tryz.prog) Tryz.func108 (by kernel_rfl) (by kernel_rfl) (by kernel_rfl) .i64 (by kernel_rfl) hc
  go_enter Tryz.func57, Tryz.ntmps57
  go_wp2
  go_ret
  exact ⟨rfl, rfl⟩
theorem i64_plus (a : Addr) (d e : Nat) (w : World) (hc : w.cell? a = some (.int .i64 (d : Nat))) (hz : w.frozen? a = false) (hs : d + e ≤ 9223372036854775807) :
    Calls Tryz.prog 52 #[.pointer (some a), .int .i64 (e : Nat)] w fun x w' => x = .returned (.int .i64 ((d + e : Nat) : Int)) ∧ w' = w.setCell a (.int .i64 ((d + e : Nat) : Int)) := by
  have hadd := run_call_add (P := Tryz.prog) Tryz.func104 (by kernel_rfl) (by kernel_rfl) (by kernel_rfl) .i64 (by kernel_rfl) (y := (e : Int)) (s := ((d + e : Nat) : Int)) hc hz (by simp [go_sem]; rw [IntKind.wrap_i64]; omega)
  go_enter Tryz.func52, Tryz.ntmps52
  go_wp2
  go_ret
  exact ⟨rfl, rfl⟩
end Go.Proofs.YtfbhdkkmcfnghaaGreatDoor
end

section
namespace Go.Proofs.YtfbhdkkmcfnghaaGreatDoor
open Go.RowKit
set_option linter.unusedVariables false
set_option linter.unusedSimpArgs false

set_option maxHeartbeats 1000000 in
set_option maxRecDepth 100000 in
theorem ctNew_any (N : List (List UInt8)) (NA : Option Addr) (nc : Nat) (w : World) (hN : SlR w 1 (.slice NA N.length nc) (strs N)) (hl : N.length ≤ 1000) :
    Calls Tryz.prog 18 #[.slice NA N.length nc] w fun e w' => ∃ g, e = .returned (.pointer (some ⟨g, 0, none⟩)) ∧ w.heap.size ≤ g ∧ PlM w' (fun k => w.heap.size ≤ k ∧ k < w'.heap.size ∧ k ≠ g) g ⟨N, [], 0⟩ ∧ Below w.heap.size w w' := by
  have HC := Stow.mk (cloneN_any N NA nc w hN hl)
  obtain ⟨n, hn⟩ : ∃ n, N.length = n := ⟨_, rfl⟩
  rw [hn] at HC ⊢
  have HNL := Stow.mk hn
  clear hN hl hn
  go_enter Tryz.func18, Tryz.ntmps18
  go_wp2_with fail
  refine HC.out.mono ?_
  rintro e w1 ⟨A1, c1, rfl, hO1, hb1⟩
  have HO := Stow.mk hO1
  have HB := Stow.mk hb1
  clear hO1 hb1 HC
  go_wp2_with fail
  go_ret
  have hH := Held.made w1 [.slice A1 n c1, .slice none 0 0, .int .i64 0, .int .i64 0] 86
  have hb2 := Below.alloc' (Below.self w1) (.cells #[.slice A1 n c1, .slice none 0 0, .int .i64 0, .int .i64 0] 86)
  have hs2 : (w1.alloc (.cells #[.slice A1 n c1, .slice none 0 0, .int .i64 0, .int .i64 0] 86)).heap.size = w1.heap.size + 1 := by simp
  have hs1 := HB.out.size
  refine ⟨w1.heap.size, rfl, hs1, ⟨A1, c1, .slice none 0 0, [], ?_⟩, HB.out.trans (hb2.mono hs1)⟩
  refine ⟨by unfold Ct.cells; rw [HNL.out]; exact hH, fun h => h.2.2 rfl, fun k hk => hk.2.1, ?_, fun a e => ?_, fun a e h => (by cases h), World.ownsRow_nil _ _ _ _, (fun i hi => by cases hi), (fun t ht => by cases ht), (fun t ht => by cases ht), rfl, (fun i hi => by cases hi)⟩
  · have h := own_of_cells (L := N) (enc := strC) (fun _ => rfl) HO.out HNL.out.symm
    have h2 := SlR.keep h hb2
    rw [HNL.out]
    exact h2
  · have := World.ownsRow.lt HO.out a.block (by subst e; rfl)
    exact ⟨this.1, by rw [hs2]; omega, by omega⟩
/-- Cells without a number. -/
def NoI (cs : List Value) : Prop := ∀ k : Int, Value.int .i64 k ∉ cs
theorem slr_turnI {w w' : World} {g c n cap : Nat} {cs : List Value} {A : Option Addr} {L : List (List Value)} (hH : Held w g cs) (hn : NoI cs) (h : SlR w c (.slice A n cap) L) (hx : ∀ x ∈ L, ∃ k : Int, x[0]? = some (.int .i64 k)) (ht : Turn (· = g) w w') : SlR w' c (.slice A n cap) L := by
  by_cases hL : L = []
  · obtain ⟨A', cap', hv, h1, h2, h3⟩ := h
    exact ⟨A', cap', hv, h1, h2, fun hne => absurd hL hne⟩
  · refine slrTurn h ht (fun ad had heq => ?_)
    obtain ⟨A', cap', hv, _, _, h3⟩ := h
    simp only [Value.slice.injEq] at hv
    obtain ⟨rfl, rfl, rfl⟩ := hv
    obtain ⟨b, off, hA, hlt, hc⟩ := h3 hL
    rw [had] at hA
    obtain rfl := Option.some.inj hA
    simp only at heq
    subst heq
    obtain ⟨x, t, rfl⟩ := List.exists_cons_of_ne_nil hL
    obtain ⟨k, hk⟩ := hx x (List.mem_cons_self ..)
    have h1 := hc 0 x rfl 0 _ hk
    obtain ⟨t', hg⟩ := hH
    rw [cell_of_row w b _ _ t' (0, 0) hg] at h1
    have h2 : cs[off + 0 * c + 0]? = some (.int .i64 k) := by simpa using h1
    exact hn k (List.mem_of_getElem? h2)
theorem RsR.turnI {w w' : World} {g cap : Nat} {cs : List Value} {A : Option Addr} {R : List Rm} (hH : Held w g cs) (hn : NoI cs) (h : RsR w A cap R) (ht : Turn (· = g) w w') : RsR w' A cap R :=
  ⟨slr_turnI hH hn h.row (fun x hx => by obtain ⟨m, _, rfl⟩ := List.mem_map.1 hx; exact ⟨_, rfl⟩) ht, fun m hm => ⟨slr_turnI hH hn (h.each m hm).row (fun x hx => by obtain ⟨m, _, rfl⟩ := List.mem_map.1 hx; exact ⟨_, rfl⟩) ht, (h.each m hm).fits, (h.each m hm).tg, (h.each m hm).mi⟩⟩
theorem jd_results (W : World) (g : Nat) (a b d : Value) (tmps : Array Value) (hH : Held W g [a, b]) (h2 : tmps[4]?.getD undef = .pointer (some ⟨g, 0, none⟩)) (h3 : tmps[5]?.getD undef = d) :
    (results Tryz.f50 tmps).run Tryz.prog W = .ok (.tuple #[.agg #[a, b], d]) W := by
  have c0 := hH.cell (i := 0) rfl
  have c1 := hH.cell (i := 1) rfl
  simp [results, Tryz.results50, go_sem, h2, h3, c0, c1]
def JudgeOut (p : Ct.Pl) (t : List UInt8) (w : World) (e : Ending) (w' : World) : Prop :=
  ∃ A cap R f, e = .returned (.tuple #[.agg #[.slice A R.length cap, .string (bs f)], .int .i64 (Ct.why p t : Nat)]) ∧ Below w.heap.size w w' ∧ (Ct.why p t = 0 → RsR w' A cap R ∧ (Cf.read t).1.rs = R.map Rm.r ∧ f = (Cf.read t).1.f)
theorem Ct.why1 {p : Ct.Pl} {t : List UInt8} {c : Cf} {l e : Nat} (h : Cf.read t = (c, l, e)) (he : e ≠ 0) : Ct.why p t = e := by unfold Ct.why; rw [h]; simp only; rw [if_pos he]
theorem Ct.why2 {p : Ct.Pl} {t : List UInt8} {c : Cf} {l : Nat} (h : Cf.read t = (c, l, 0)) (he : Ct.check p.N c ≠ 0) : Ct.why p t = Ct.check p.N c := by unfold Ct.why; rw [h]; simp only; rw [if_neg (by simp), if_pos he]
theorem Ct.why3 {p : Ct.Pl} {t : List UInt8} {c : Cf} {l : Nat} (h : Cf.read t = (c, l, 0)) (he : Ct.check p.N c = 0) : Ct.why p t = if 16 ≤ p.T.length then 8 else 0 := by unfold Ct.why; rw [h]; simp only; rw [if_neg (by simp), if_neg (by simp [he])]
theorem Cf.read_fmt {t : List UInt8} : (Cf.read t).1.f.length ≤ 4096 := by
  unfold Cf.read
  split
  · simp
  · simp only
    split
    · simp
    · split
      · simp
      · rename_i h
        simp only [ne_eq, Decidable.not_not] at h
        unfold Cf.check at h
        split at h
        · cases h
        · rename_i h1
          unfold Cf.fmtOk at h1
          simp only [Bool.not_eq_false, Bool.and_eq_true, decide_eq_true_eq] at h1
          have h2 := h1.2
          show (fmtR (Ts.pieces 10 t).dropLast).1.length ≤ 4096
          omega
set_option maxHeartbeats 4000000 in
set_option maxRecDepth 100000 in
theorem ctJudge_any {w : World} {P : Nat → Prop} {g : Nat} {p : Ct.Pl} (h : PlM w P g p) (t : List UInt8) (ht : t.length ≤ 140737488355328) (hm : MaxIs w) :
    Calls Tryz.prog 50 #[.pointer (some ⟨g, 0, none⟩), .string (bs t)] w (JudgeOut p t w) := by
  obtain ⟨NA, nc, tv, L, hp⟩ := h
  have hz := Held.made w [.slice none 0 0, .string ⟨#[]⟩] 54
  have hb := Below.alloc' (Below.self w) (.cells #[.slice none 0 0, .string ⟨#[]⟩] 54)
  have hg : g < w.heap.size := hp.hd.lt
  obtain ⟨W0, hW0⟩ : ∃ W, w.alloc (.cells #[.slice none 0 0, .string ⟨#[]⟩] 54) = W := ⟨_, rfl⟩
  rw [show w.alloc (.cells [.slice none 0 0, .string ⟨#[]⟩].toArray 54) = W0 from hW0] at hz
  rw [hW0] at hb
  have hsz : W0.heap.size = w.heap.size + 1 := by rw [← hW0]; simp
  have HR := Stow.mk (cfRead_any t W0 ht (hm.keep hb))
  have HF := Stow.mk (Cf.read_fmt (t := t))
  obtain ⟨q, hq⟩ : ∃ q, Cf.read t = q := ⟨_, rfl⟩
  have HRD := Stow.mk hq
  unfold ReadOut at HR
  unfold JudgeOut
  rw [hq] at HR HF ⊢
  obtain ⟨c, ln, er⟩ := q
  simp only at HR HF ⊢
  obtain ⟨y, hy⟩ : ∃ y, Ct.why p t = y := ⟨_, rfl⟩
  rw [hy]
  have HY := Stow.mk hy
  have HP := Stow.mk (hp.keep hb)
  have HZ := Stow.mk hz
  have HB := Stow.mk hb
  have HW0 := Stow.mk hW0
  have HSZ := Stow.mk hsz
  clear hp hz hb hW0 hq hy hm ht hsz
  go_enter Tryz.func50, Tryz.ntmps50
  go_upto_region 1 with fail
  rw [HW0.out]
  go_wp2_with fail
  refine HR.out.mono ?_
  rintro e w1 ⟨A, cap, R, rfl, hb1, hrs, hcr⟩
  have hbx := Below.alloc' (Below.self w1) (.cells #[.slice A R.length cap, .string (bs c.f)] 54)
  have hX := Held.made w1 [.slice A R.length cap, .string (bs c.f)] 54
  have HZ := Stow.mk ((HZ.out.kept hb1).kept hbx)
  have HP := Stow.mk ((HP.out.keep hb1).keep hbx)
  have HRS := Stow.mk (hrs.keep hbx)
  have hb2 := HB.out.trans ((hb1.trans (hbx.mono hb1.size)).mono HB.out.size)
  have HCR := Stow.mk hcr
  have hw1 : w.heap.size + 1 ≤ w1.heap.size := by rw [← HSZ.out]; exact hb1.size
  obtain ⟨W2, hW2⟩ : ∃ W, w1.alloc (.cells #[.slice A R.length cap, .string (bs c.f)] 54) = W := ⟨_, rfl⟩
  rw [show w1.alloc (.cells [.slice A R.length cap, .string (bs c.f)].toArray 54) = W2 from hW2] at hX
  rw [hW2] at HZ HP HRS hb2
  have HX := Stow.mk hX
  have HB := Stow.mk hb2
  have HW2 := Stow.mk hW2
  have HSW2 : Stow (W2.heap.size = w1.heap.size + 1) := ⟨by rw [← hW2]; simp⟩
  clear hX hb2 hW2 hb1 hrs hcr hbx HR
  have z0 := HZ.out.cell (i := 0) rfl
  have z1 := HZ.out.cell (i := 1) rfl
  have zf := HZ.out.free
  by_cases he : er = 0
  · subst he
    go_upto_region 2 with fail
    rw [HW2.out]
    have hltx : w1.heap.size < W2.heap.size := by have := HSW2.out; omega
    have hltg : g < W2.heap.size := by omega
    have HK : Stow (∀ z : Later W2.heap.size W2, Calls Tryz.prog 101 #[.agg #[.slice A R.length cap, .string (bs c.f)], .slice NA p.N.length nc] z.1 fun e w' => e = .returned (.int .i64 (Ct.check p.N c : Nat)) ∧ Below z.1.heap.size z.1 w') := ⟨fun z => tbCheck_any p.N NA nc c A cap R z.1 (SlR.keep HP.out.ns z.2) (HRS.out.keep z.2) HCR.out (by have := HF.out; omega)⟩
    obtain ⟨k, hk⟩ : ∃ k, Ct.check p.N c = k := ⟨_, rfl⟩
    rw [hk] at HK
    have HKK := Stow.mk hk
    clear z0 z1 zf hk
    have g0 : ∀ z : Later W2.heap.size W2, z.1.cell? ⟨w1.heap.size, 0, none⟩ = some (.slice A R.length cap) := fun z => z.cell (HX.out.cell (i := 0) rfl) hltx
    have g1 : ∀ z : Later W2.heap.size W2, z.1.cell? ⟨w1.heap.size, 1, none⟩ = some (.string (bs c.f)) := fun z => z.cell (HX.out.cell (i := 1) rfl) hltx
    have g2 : ∀ z : Later W2.heap.size W2, z.1.cell? ⟨g, 0, none⟩ = some (.slice NA p.N.length nc) := fun z => z.cell (HP.out.hd.cell (i := 0) rfl) hltg
    go_upto_region 4 with fail
    refine wp_region_later W2.heap.size (by kernel_rfl) (by kernel_rfl) ?_
    repeat (go_big_quiet_step ((go_at_call 101; exact Calls.later (Nat.le_refl _) (HK.out _))))
    refine wpQuiet_nil ?_
    rintro ⟨wx, hbx⟩
    clear g0 g1 g2
    have HZ := Stow.mk (HZ.out.kept hbx)
    have HP := Stow.mk (HP.out.keep hbx)
    have HRS := Stow.mk (HRS.out.keep hbx)
    have HX := Stow.mk (HX.out.kept hbx)
    have HB := Stow.mk (HB.out.trans (hbx.mono HB.out.size))
    clear HK
    have z0 := HZ.out.cell (i := 0) rfl
    have z1 := HZ.out.cell (i := 1) rfl
    have zf0 := HZ.out.free 0
    have zf1 := HZ.out.free 1
    by_cases hk0 : k = 0
    · subst hk0
      have p1 := HP.out.hd.cell (i := 1) rfl
      have x0 := HX.out.cell (i := 0) rfl
      have x1 := HX.out.cell (i := 1) rfl
      have HTL : Stow (p.T.length = L.length) := ⟨HP.out.len⟩
      obtain ⟨At, ct, rfl⟩ := own_form HP.out.row
      have hY : y = if 16 ≤ p.T.length then 8 else 0 := by rw [← HY.out]; exact Ct.why3 HRD.out HKK.out
      rw [HTL.out] at hY
      by_cases h16 : 16 ≤ L.length
      · have HWY : Stow (y = 8) := ⟨by rw [hY, if_pos h16]⟩
        have h16i : (16 : Int) ≤ L.length := by omega
        have HZ := Stow.mk ((HZ.out.set 0 (.slice none 0 0)).set 1 (.string ⟨#[]⟩))
        have HB := Stow.mk ((HB.out.setCell (p := ⟨w.heap.size, 0, none⟩) (Nat.le_refl _) (.slice none 0 0)).setCell (p := ⟨w.heap.size, 1, none⟩) (Nat.le_refl _) (.string ⟨#[]⟩))
        clear hY
        go_wp2_with fail
        refine bodyPost_ret (jd_results _ w.heap.size (.slice none 0 0) (.string ⟨#[]⟩) _ _ HZ.out rfl rfl) rfl ?_
        exact ⟨none, 0, [], [], by rw [HWY.out]; rfl, HB.out, fun h => by rw [HWY.out] at h; cases h⟩
      · have HWY : Stow (y = 0) := ⟨by rw [hY, if_neg h16]⟩
        have h16i : ¬ (16 : Int) ≤ L.length := by omega
        have hne : w1.heap.size ≠ w.heap.size := by omega
        have HZ0 := HZ
        have HZ := Stow.mk ((HZ.out.set 0 (.slice A R.length cap)).set 1 (.string (bs c.f)))
        have ho : Only w.heap.size wx ((wx.setCell ⟨w.heap.size, 0, none⟩ (.slice A R.length cap)).setCell ⟨w.heap.size, 1, none⟩ (.string (bs c.f))) := (Only.set _ _ 0 _).trans (Only.set _ _ 1 _)
        have HB2 := Stow.mk ((HB.out.setCell (p := ⟨w.heap.size, 0, none⟩) (Nat.le_refl _) (.slice A R.length cap)).setCell (p := ⟨w.heap.size, 1, none⟩) (Nat.le_refl _) (.string (bs c.f)))
        have HRS2 : Stow (RsR ((wx.setCell ⟨w.heap.size, 0, none⟩ (.slice A R.length cap)).setCell ⟨w.heap.size, 1, none⟩ (.string (bs c.f))) A cap R) := ⟨RsR.turnI HZ0.out (by intro k hk; simp at hk) HRS.out (Turn.of_grown ho (.inl rfl))⟩
        clear hY ho
        go_wp2_with fail
        refine bodyPost_ret (jd_results _ w.heap.size (.slice A R.length cap) (.string (bs c.f)) _ _ HZ.out rfl rfl) rfl ?_
        exact ⟨A, cap, R, c.f, by rw [HWY.out]; rfl, HB2.out, fun _ => ⟨HRS2.out, HCR.out, rfl⟩⟩
    · have HWY : Stow (y = k) := ⟨by rw [← HY.out, Ct.why2 HRD.out (by rw [HKK.out]; exact hk0)]; exact HKK.out⟩
      have hne : ((k : Int) == 0) = false := by simp; omega
      have HZ := Stow.mk ((HZ.out.set 0 (.slice none 0 0)).set 1 (.string ⟨#[]⟩))
      have HB := Stow.mk ((HB.out.setCell (p := ⟨w.heap.size, 0, none⟩) (Nat.le_refl _) (.slice none 0 0)).setCell (p := ⟨w.heap.size, 1, none⟩) (Nat.le_refl _) (.string ⟨#[]⟩))
      have HK0 := Stow.mk hk0
      have hnz : ¬ (k : Int) = 0 := by omega
      clear hk0
      go_wp2_with fail
      refine bodyPost_ret (jd_results _ w.heap.size (.slice none 0 0) (.string ⟨#[]⟩) _ _ HZ.out rfl rfl) rfl ?_
      exact ⟨none, 0, [], [], by rw [HWY.out]; rfl, HB.out, fun h => by rw [HWY.out] at h; exact absurd h HK0.out⟩
  · have HWY : Stow (y = er) := ⟨by rw [← HY.out]; exact Ct.why1 HRD.out he⟩
    have hne : ((er : Int) == 0) = false := by simp; omega
    have hnz : ¬ (er : Int) = 0 := by omega
    have HE0 := Stow.mk he
    have zf0 := HZ.out.free 0
    have zf1 := HZ.out.free 1
    have HZ := Stow.mk ((HZ.out.set 0 (.slice none 0 0)).set 1 (.string ⟨#[]⟩))
    have HB := Stow.mk ((HB.out.setCell (p := ⟨w.heap.size, 0, none⟩) (Nat.le_refl _) (.slice none 0 0)).setCell (p := ⟨w.heap.size, 1, none⟩) (Nat.le_refl _) (.string ⟨#[]⟩))
    clear he zf
    go_upto_region 2 with fail
    rw [HW2.out]
    go_wp2_with fail
    refine bodyPost_ret (jd_results _ w.heap.size (.slice none 0 0) (.string ⟨#[]⟩) _ _ HZ.out rfl rfl) rfl ?_
    exact ⟨none, 0, [], [], by rw [HWY.out]; rfl, HB.out, fun h => by rw [HWY.out] at h; exact absurd h HE0.out⟩
end Go.Proofs.YtfbhdkkmcfnghaaGreatDoor
end

section
namespace Go.Proofs.YtfbhdkkmcfnghaaGreatDoor
open Go.RowKit
set_option linter.unusedVariables false
set_option linter.unusedSimpArgs false

theorem info_tbl : (Tryz.prog.info? 46).map (fun i => (i.zero, i.size, i.bytes)) = some (some (.agg #[.int .i64 0, .slice none 0 0, .string ByteArray.empty]), 3, 48) := by kernel_rfl
/-- Blocks of P, and those that are new since B. -/
def NewP (P : Nat → Prop) (B N : Nat) (k : Nat) : Prop := P k ∨ (B ≤ k ∧ k < N)
theorem TbN.tbr {w w' : World} {t : Tm} (h : TbN w w' t) (hf : t.f.length ≤ 4096) : TbR w' (fun k => w.heap.size ≤ k ∧ k < w'.heap.size) t :=
  ⟨h.own.read, ⟨fun a e => (by have := World.ownsRow.lt h.own.own a.block (by rw [e]; rfl); exact this), fun m hm a e => ⟨(h.own.apart m hm a e).1, h.own.lt m hm a e⟩⟩, hf⟩
/-- A table more: the row lies in its old block, or in a new one (H). -/
theorem PlAt.more {w w1 w2 : World} {P : Nat → Prop} {g nc B : Nat} {p : Ct.Pl} {NA : Option Addr} {tv : Value} {L : List Tm} {g' cap' H : Nat} {t : Tm} {c : Cf}
    (h : PlAt w P g p NA nc tv L) (hP : ∀ k, P k → k < B) (hg : g < B) (ht : TbR w (fun k => B ≤ k ∧ k < w.heap.size) t) (hn : t.n = L.length + 1) (hc : t.c = c)
    (hb : Below w.heap.size w w1) (hgr : w1.grownBy w2 tv.ownBlock) (hown : w2.ownsRow 0 46 3 (.slice (some ⟨g', 0, none⟩) (L.length + 1) cap') (L.length + 1) (L.flatMap Tm.cells ++ t.cells)) (hat : tv.ownBlock = some g' ∨ g' = H) (hH : w1.heap.size = H) (hBw : B ≤ w.heap.size) (hlt : g' < w2.heap.size) :
    PlAt ((w2.setCell ⟨g, 1, none⟩ (.slice (some ⟨g', 0, none⟩) (L.length + 1) cap')).setCell ⟨g, 2, none⟩ (.int .i64 ((p.T.length + 1 : Nat) : Int))) (NewP P B w2.heap.size) g { p with T := p.T ++ [c] } NA nc (.slice (some ⟨g', 0, none⟩) (L.length + 1) cap') (L ++ [t]) ∧ Turn (fun k => k = g ∨ P k) w ((w2.setCell ⟨g, 1, none⟩ (.slice (some ⟨g', 0, none⟩) (L.length + 1) cap')).setCell ⟨g, 2, none⟩ (.int .i64 ((p.T.length + 1 : Nat) : Int))) := by
  have hs1 := hb.size
  have ho : Only g w2 ((w2.setCell ⟨g, 1, none⟩ (.slice (some ⟨g', 0, none⟩) (L.length + 1) cap')).setCell ⟨g, 2, none⟩ (.int .i64 ((p.T.length + 1 : Nat) : Int))) := (Only.set g w2 1 _).trans (Only.set g _ 2 _)
  have t1 : Turn (fun k => tv.ownBlock = some k) w w2 := by
    have a : Turn (fun k => tv.ownBlock = some k) w w1 := Turn.of_below hb
    have b : Turn (fun k => tv.ownBlock = some k) w1 w2 := ⟨hgr.os, hgr.tape, hgr.output, hgr.size, fun k hk hn => hgr.block k hk (fun e => hn e.symm)⟩
    exact a.trans b (fun i hi => .inl hi)
  have t2 := Turn.of_grown ho (F := (· = g)) (.inl rfl)
  have hs2 : ((w2.setCell ⟨g, 1, none⟩ (.slice (some ⟨g', 0, none⟩) (L.length + 1) cap')).setCell ⟨g, 2, none⟩ (.int .i64 ((p.T.length + 1 : Nat) : Int))).heap.size = w2.heap.size := by simp
  have hw2 := hgr.size
  have hgo : tv.ownBlock ≠ some g := fun e => h.gP (h.rowP g e)
  have hg' : g' ≠ g := by
    rcases hat with e | e
    · intro e2; subst e2; exact hgo e
    · omega
  have hneP : ∀ k, P k → ¬ k = g := fun k hk e => h.gP (e ▸ hk)
  have hnew : ∀ k, (B ≤ k ∧ k < w.heap.size) → tv.ownBlock ≠ some k := fun k hk e => by have := hP k (h.rowP k e); omega
  have fin : ∀ k, P k → tv.ownBlock ≠ some k → (Value.slice (some ⟨g', 0, none⟩) (L.length + 1) cap').ownBlock ≠ some k := fun k hk ho e => by
    have e' : g' = k := by cases e; rfl
    subst e'
    rcases hat with e | e
    · exact ho e
    · have := h.low g' hk; omega
  have hin : NewP P B w2.heap.size g' := by
    rcases hat with e | e
    · exact .inl (h.rowP g' e)
    · exact .inr ⟨by omega, hlt⟩
  refine ⟨⟨?_, ?_, ?_, ?_, fun a e => .inl (h.nsP a e), fun a e => fin _ (h.nsP a e) (h.nsO a e), ?_, fun i hi => by cases hi; exact hin, ?_, ?_, by rw [List.map_append, h.eq]; simp [hc], ?_⟩, ?_⟩
  · have h1 := (h.hd.kept hb)
    have h2 := (held_grown h1 hgr hgo).set 1 (.slice (some ⟨g', 0, none⟩) (L.length + 1) cap')
    have h3 := h2.set 2 (.int .i64 ((p.T.length + 1 : Nat) : Int))
    unfold Ct.cells
    simp only [List.length_append, List.length_cons, List.length_nil, Nat.zero_add]
    exact h3
  · rintro (hk | hk)
    · exact h.gP hk
    · omega
  · intro k hk
    rw [hs2]
    rcases hk with hk | hk
    · have := h.low k hk; omega
    · exact hk.2
  · exact slrTurn (slrTurn h.ns t1 (fun a e => h.nsO a e)) t2 (fun a e => hneP _ (h.nsP a e))
  · have h1 := own_turn hown t2 (fun i hi => by cases hi; exact hg')
    simpa using h1
  · intro x hx
    rcases List.mem_append.1 hx with hx | hx
    · have h1 := (h.each x hx).rs.turn (h.off x hx) t1 (fun k hk => hk)
      exact ⟨h1.turn (h.each x hx).at_ t2 hneP, (h.each x hx).at_.mono (fun k hk => .inl hk), (h.each x hx).f⟩
    · simp only [List.mem_singleton] at hx
      subst hx
      have h1 := ht.rs.turn ht.at_ t1 hnew
      exact ⟨h1.turn ht.at_ t2 (fun k hk e => by omega), ht.at_.mono (fun k hk => .inr ⟨hk.1, by omega⟩), ht.f⟩
  · intro x hx
    rcases List.mem_append.1 hx with hx | hx
    · have h1 := h.off x hx
      have h2 := (h.each x hx).at_
      exact ⟨fun a e => fin _ (h2.1 a e) (h1.1 a e), fun m hm a e => fin _ (h2.2 m hm a e) (h1.2 m hm a e)⟩
    · simp only [List.mem_singleton] at hx
      subst hx
      have fin : ∀ k, (B ≤ k ∧ k < w.heap.size) → (Value.slice (some ⟨g', 0, none⟩) (L.length + 1) cap').ownBlock ≠ some k := fun k hk e => by
        have e' : g' = k := by cases e; rfl
        subst e'
        rcases hat with e | e
        · have := hP g' (h.rowP g' e); omega
        · omega
      exact ht.at_.mono fin
  · intro i hi
    by_cases hil : i < L.length
    · rw [List.getElem_append_left hil]; exact h.no i hil
    · have : i = L.length := by simp at hi; omega
      subst this
      rw [List.getElem_append_right (Nat.le_refl _)]
      simpa using hn
  · exact (t1.mono (F' := fun k => k = g ∨ P k) (fun k e => .inr (h.rowP k e))).trans t2 (fun i hi => .inl (.inl hi))
theorem keep_set3 {w : World} {a : Addr} {b : Nat} {v1 v2 v3 : Value} {x : Option Value} (h : w.cell? a = x) (hne : b ≠ a.block) : (((w.setCell ⟨b, 0, none⟩ v1).setCell ⟨b, 1, none⟩ v2).setCell ⟨b, 2, none⟩ v3).cell? a = x := by
  rw [World.cell?_setCell_far _ _ _ _ hne, World.cell?_setCell_far _ _ _ _ hne, World.cell?_setCell_far _ _ _ _ hne]
  exact h
theorem i64_plus1 (a : Addr) (d : Nat) (w : World) (hc : w.cell? a = some (.int .i64 (d : Nat))) (hz : w.frozen? a = false) (hs : d + 1 ≤ 9223372036854775807) :
    Calls Tryz.prog 52 #[.pointer (some a), .int .i64 1] w fun x w' => x = .returned (.int .i64 ((d + 1 : Nat) : Int)) ∧ w' = w.setCell a (.int .i64 ((d + 1 : Nat) : Int)) := i64_plus a d 1 w hc hz hs
set_option maxHeartbeats 1000000 in
set_option maxRecDepth 100000 in
theorem ctPub_nil (t : List UInt8) (w : World) : Calls Tryz.prog 19 #[.pointer none, .string (bs t)] w fun e w' => e = .returned (.tuple #[.int .i64 0, .int .i64 1]) ∧ w' = w := by
  go_enter Tryz.func19, Tryz.ntmps19
  go_wp2_with fail
  refine bodyPost_ret (results_tmp2 rfl _ _ _) rfl ?_
  exact ⟨rfl, rfl⟩
set_option maxHeartbeats 4000000 in
set_option maxRecDepth 100000 in
theorem ctPub_any {w : World} {P : Nat → Prop} {g : Nat} {p : Ct.Pl} (h : PlM w P g p) (hok : p.Ok) (hbad : p.bad ≤ 1000000) (t : List UInt8) (ht : t.length ≤ 140737488355328) (hm : MaxIs w) :
    Calls Tryz.prog 19 #[.pointer (some ⟨g, 0, none⟩), .string (bs t)] w fun e w' => e = .returned (.tuple #[.int .i64 ((if Ct.why p t = 0 then p.T.length + 1 else 0 : Nat) : Int), .int .i64 (Ct.why p t : Nat)]) ∧ PlM w' (NewP P w.heap.size w'.heap.size) g (Ct.publish p t) ∧ Turn (fun k => k = g ∨ P k) w w' := by
  have HJ := Stow.mk (ctJudge_any h t ht hm)
  obtain ⟨NA, nc, tv, L, hp⟩ := h
  have HP := Stow.mk hp
  have hg : g < w.heap.size := hp.hd.lt
  have HLOW := Stow.mk hp.low
  have HTL := Stow.mk hp.len
  have hfew := hok.few
  rw [HTL.out] at hfew
  unfold JudgeOut at HJ
  obtain ⟨n, hn⟩ : ∃ n, (if Ct.why p t = 0 then p.T.length + 1 else 0) = n := ⟨_, rfl⟩
  rw [hn]
  obtain ⟨y, hy⟩ : ∃ y, Ct.why p t = y := ⟨_, rfl⟩
  rw [hy] at HJ hn ⊢
  have HY := Stow.mk hy
  have HN := Stow.mk hn
  clear hp hy hok ht hm hn
  go_enter Tryz.func19, Tryz.ntmps19
  go_wp2_with fail
  refine HJ.out.mono ?_
  rintro e w1 ⟨A, cap, R, f, rfl, hb1, hyes⟩
  have hbx := Below.alloc' (Below.self w1) (.cells #[.slice A R.length cap, .string (bs f)] 54)
  have hX := Held.made w1 [.slice A R.length cap, .string (bs f)] 54
  have hb2 := hb1.trans (hbx.mono hb1.size)
  have HP2 := Stow.mk ((HP.out.keep hb1).keep hbx)
  have hs1 := hb1.size
  obtain ⟨W2, hW2⟩ : ∃ W, w1.alloc (.cells #[.slice A R.length cap, .string (bs f)] 54) = W := ⟨_, rfl⟩
  rw [show w1.alloc (.cells [.slice A R.length cap, .string (bs f)].toArray 54) = W2 from hW2] at hX
  rw [hW2] at hbx hb2 HP2
  have HX := Stow.mk hX
  have HB2 := Stow.mk hb2
  have HW2 := Stow.mk hW2
  have HSW2 : Stow (W2.heap.size = w1.heap.size + 1) := ⟨by rw [← hW2]; simp⟩
  by_cases hy0 : y = 0
  rotate_left
  · have hnz : ((y : Int) == 0) = false := by simp; omega
    have hnz2 : ¬ (y : Int) = 0 := by omega
    have HPB : Stow (Ct.publish p t = { p with bad := p.bad + 1 }) := ⟨Ct.publish_no (by rw [HY.out]; exact hy0)⟩
    have HI := Stow.mk (i64_plus1 ⟨g, 3, none⟩ p.bad W2 (HP2.out.hd.cell (i := 3) rfl) (HP2.out.hd.free 3) (by omega))
    obtain rfl : 0 = n := by rw [← HN.out, if_neg hy0]
    clear hX hb2 hW2 hb1 hyes hbx HJ hy0
    go_upto_region 4 with fail
    rw [HW2.out]
    go_wp2_with fail
    refine HI.out.mono ?_
    rintro e w3 ⟨rfl, hw3⟩
    have HP3 := Stow.mk (HP2.out.bad (p.bad + 1))
    have HT3 : Stow (Turn (fun k => k = g ∨ P k) w w3) := ⟨by
      rw [hw3]
      exact (Turn.of_below HB2.out).trans (Turn.setC W2 g 3 (.int .i64 ((p.bad + 1 : Nat) : Int))) (fun i hi => .inl (.inl hi))⟩
    rw [← hw3] at HP3
    clear hw3 HI HP2 HX
    go_wp2_with fail
    refine bodyPost_ret (results_tmp2 rfl _ _ _) rfl ?_
    refine ⟨rfl, ?_, HT3.out⟩
    rw [HPB.out]
    obtain ⟨a1, a2, a3, a4, a5, a6, a7, a8, a9, a10, a11, a12⟩ := HP3.out
    exact ⟨NA, nc, tv, L, a1, by
      rintro (hk | hk)
      · exact a2 hk
      · omega, by
      rintro k (hk | hk)
      · exact a3 k hk
      · exact hk.2, a4, fun a e => .inl (a5 a e), a6, a7, fun i e => .inl (a8 i e), fun x hx => (a9 x hx).mono (fun k hk => .inl hk), a10, a11, a12⟩
  · subst hy0
    obtain ⟨hrs, hcr, hf⟩ := hyes rfl
    subst hf
    obtain rfl : p.T.length + 1 = n := by rw [← HN.out, if_pos rfl]
    obtain ⟨_, hck, h16⟩ := Ct.why_check HY.out
    rw [HTL.out] at h16
    have HRS := Stow.mk (hrs.keep hbx)
    have HPB : Stow (Ct.publish p t = { p with T := p.T ++ [⟨Ct.order (Cf.read t).1.rs, (Cf.read t).1.f⟩] }) := ⟨Ct.publish_yes HY.out⟩
    have e1 : ((L.length + 1 : Nat) : Int) = (L.length : Int) + 1 := by omega
    have HC := Stow.mk (fun (V : World) (hV1 : SlR V 1 (.slice NA p.N.length nc) (strs p.N)) (hV2 : RsR V A cap R) => tbCompile_any p.N NA nc (Cf.read t).1 A cap R (L.length + 1) V hV1 hV2 hcr hck ⟨by omega, by omega⟩)
    rw [e1] at HC
    clear e1
    obtain ⟨c, hc⟩ : ∃ c, (Cf.read t).1 = c := ⟨_, rfl⟩
    have hfc : c.f.length ≤ 4096 := by rw [← hc]; exact Cf.read_fmt
    rw [hc] at HC HPB HX HW2 ⊢
    have HFC := Stow.mk hfc
    have hb3 := Below.alloc' (Below.self W2) (.cells #[.int .i64 0, .slice none 0 0, .string ⟨#[]⟩] 46)
    have hT := Held.made W2 [.int .i64 0, .slice none 0 0, .string ⟨#[]⟩] 46
    have hsz3 : (W2.alloc (.cells #[.int .i64 0, .slice none 0 0, .string ⟨#[]⟩] 46)).heap.size = W2.heap.size + 1 := by simp
    obtain ⟨W3, hW3⟩ : ∃ W, W2.alloc (.cells #[.int .i64 0, .slice none 0 0, .string ⟨#[]⟩] 46) = W := ⟨_, rfl⟩
    rw [show W2.alloc (.cells [.int .i64 0, .slice none 0 0, .string ⟨#[]⟩].toArray 46) = W3 from hW3] at hT
    rw [hW3] at hb3 hsz3
    have HX := Stow.mk (HX.out.kept hb3)
    have HP := Stow.mk (HP2.out.keep hb3)
    have HRS := Stow.mk (HRS.out.keep hb3)
    have HB := Stow.mk (HB2.out.trans (hb3.mono HB2.out.size))
    have HT := Stow.mk hT
    have HW3 := Stow.mk hW3
    have HS3 : Stow (W3.heap.size = w1.heap.size + 1 + 1 ∧ W2.heap.size = w1.heap.size + 1) := ⟨by rw [hsz3, HSW2.out], HSW2.out⟩
    clear hX hb2 hb1 hyes hbx HJ hrs hcr hck hW2 hb3 hT hsz3 hW3 hc hfc HP2 HB2 HN
    obtain ⟨At, ct, rfl⟩ := own_form HP.out.row
    go_upto_region 4 with fail
    rw [HW2.out]
    go_upto_region 6 with fail
    rw [HW3.out]
    rw [HS3.out.2] at HT ⊢
    have x0 := HX.out.cell (i := 0) rfl
    have x1 := HX.out.cell (i := 1) rfl
    have g0 := HP.out.hd.cell (i := 0) rfl
    have g1 := HP.out.hd.cell (i := 1) rfl
    have t0 := HT.out.cell (i := 0) rfl
    have hgn : g ≠ w1.heap.size + 1 := by omega
    have hgn2 : (g == w1.heap.size + 1) = false := by simp; omega
    have hgn3 : (w1.heap.size + 1 == g) = false := by simp; omega
    have hk1 := x0
    have hk2 := x1
    have hk3 := g0
    have hk4 := g1
    have ew : IntKind.i64.wrap ((L.length : Int) + 1) = (L.length : Int) + 1 := IntWalk.i64_in _ (by omega)
    go_region_held3 (fun w' => w'.cell? ⟨w1.heap.size, 0, none⟩ = some (.slice A R.length cap) ∧ w'.cell? ⟨w1.heap.size, 1, none⟩ = some (.string (bs c.f)) ∧ w'.cell? ⟨g, 0, none⟩ = some (.slice NA p.N.length nc) ∧ w'.cell? ⟨g, 1, none⟩ = some (.slice At L.length ct)) (first | exact ⟨hk1, hk2, hk3, hk4⟩ | exact ⟨keep_set3 hk1 (by simp), keep_set3 hk2 (by simp), keep_set3 hk3 (fun e => hgn e.symm), keep_set3 hk4 (fun e => hgn e.symm)⟩ | go_keep)
      (first | (go_at_call 51; refine (HC.out _ (SlR.keep HP.out.ns (Below.drew (Below.self W3))) (HRS.out.keep (Below.drew (Below.self W3)))).mono ?_; rintro e w4 ⟨tm, rfl, hn4, hc4, hN4⟩; have HN4 := Stow.mk hn4; clear hn4; have hB4 : Below W3.heap.size W3 w4 := Below.call (Below.drew (Below.self W3)) hN4.below; have hX4 := HX.out.kept hB4; have hP4 := HP.out.keep hB4; have hT4 := HT.out.kept hB4; have hk1 := hX4.cell (i := 0) rfl; have hk2 := hX4.cell (i := 1) rfl; have hk3 := hP4.hd.cell (i := 0) rfl; have hk4 := hP4.hd.cell (i := 1) rfl; have r0 := hT4.cell (i := 0) rfl; have r1 := hT4.cell (i := 1) rfl; have r2 := hT4.cell (i := 2) rfl; have s0 := hT4.free 0; have s1 := hT4.free 1; have s2 := hT4.free 2; unfold Tm.cells))
    have hT5 := ((hT4.set 0 (.int .i64 (tm.n : Int))).set 1 (.slice tm.A tm.R.length tm.cap)).set 2 (.string (bs tm.f))
    have ho5 : Only (w1.heap.size + 1) w4 (((w4.setCell ⟨w1.heap.size + 1, 0, none⟩ (.int .i64 (tm.n : Int))).setCell ⟨w1.heap.size + 1, 1, none⟩ (.slice tm.A tm.R.length tm.cap)).setCell ⟨w1.heap.size + 1, 2, none⟩ (.string (bs tm.f))) := ((Only.set _ _ 0 _).trans (Only.set _ _ 1 _)).trans (Only.set _ _ 2 _)
    have hft : tm.f.length ≤ 4096 := by have := congrArg Cf.f hc4; simp only [Tm.c] at this; rw [this]; exact HFC.out
    have hbt := HB.out.trans (hB4.mono HB.out.size)
    have hP5 := hP4.turn (F := (· = w1.heap.size + 1)) (Turn.of_grown ho5 (.inl rfl)) (fun k hk e => by have := HLOW.out k hk; omega) hgn
    have hb5 : Below w.heap.size w _ := hbt.trans (ho5.below (by omega) hbt.size)
    have hs4 := hB4.size
    have hr5 : TbR _ (fun k => w.heap.size ≤ k ∧ k < w4.heap.size) tm := ((hN4.tbr hft).turn (F := (· = w1.heap.size + 1)) (Turn.of_grown ho5 (.inl rfl)) (fun k hk e => by have h1 := hk.1; have h2 := HS3.out.1; have h3 : W3.drew.heap.size = W3.heap.size := rfl; omega)).mono (fun k hk => ⟨by have h1 := hk.1; have h3 : W3.drew.heap.size = W3.heap.size := rfl; have := HB.out.size; omega, hk.2⟩)
    have hs5 : (((w4.setCell ⟨w1.heap.size + 1, 0, none⟩ (.int .i64 (tm.n : Int))).setCell ⟨w1.heap.size + 1, 1, none⟩ (.slice tm.A tm.R.length tm.cap)).setCell ⟨w1.heap.size + 1, 2, none⟩ (.string (bs tm.f))).heap.size = w4.heap.size := by simp
    rw [← hs5] at hr5
    obtain ⟨W5, hW5⟩ : ∃ W, (((w4.setCell ⟨w1.heap.size + 1, 0, none⟩ (.int .i64 (tm.n : Int))).setCell ⟨w1.heap.size + 1, 1, none⟩ (.slice tm.A tm.R.length tm.cap)).setCell ⟨w1.heap.size + 1, 2, none⟩ (.string (bs tm.f))) = W := ⟨_, rfl⟩
    rw [hW5] at hT5 hP5 hb5 hr5 ⊢
    have HT := Stow.mk hT5
    have HP := Stow.mk hP5
    have HB := Stow.mk hb5
    have HR5 := Stow.mk hr5
    have HC4 := Stow.mk hc4
    have HSW5 : Stow (w1.heap.size + 1 < W5.heap.size) := ⟨hT5.lt⟩
    clear hT5 ho5 hft hbt hP5 hb5 hs4 hr5 hs5 hW5 hN4 hB4 hX4 hP4 hT4 hk1 hk2 hk3 hk4 r0 r1 r2 s0 s1 s2 x0 x1 g0 g1 t0 hc4
    clear hk1 hk2 hk3 hk4
    go_upto_region 8 with fail
    have t0 := HT.out.cell (i := 0) rfl
    have t1 := HT.out.cell (i := 1) rfl
    have t2 := HT.out.cell (i := 2) rfl
    have g1 := HP.out.hd.cell (i := 1) rfl
    have gf := HP.out.hd.free 1
    have hg5 : g < W5.heap.size := HP.out.hd.lt
    have hge : (W5.heap.size == g) = false := by simp; omega
    have hbA := Below.alloc' (Below.self W5) (.cells #[.int .i64 (tm.n : Int), .slice tm.A tm.R.length tm.cap, .string (bs tm.f)] 46)
    have g1a := (HP.out.hd.kept hbA).cell (i := 1) rfl
    have HD : Stow (Held (W5.alloc (.cells #[.int .i64 (tm.n : Int), .slice tm.A tm.R.length tm.cap, .string (bs tm.f)] 46)).drew g _) := ⟨(HP.out.hd.kept hbA).drew⟩
    have HO : Stow ((W5.alloc (.cells #[.int .i64 (tm.n : Int), .slice tm.A tm.R.length tm.cap, .string (bs tm.f)] 46)).drew.ownsRow 0 46 3 (.slice At L.length ct) L.length (L.flatMap Tm.cells)) := ⟨World.ownsRow.drew (World.ownsRow.alloc HP.out.row _)⟩
    have HXN : Stow (∀ i u, ([.int .i64 (tm.n : Int), .slice tm.A tm.R.length tm.cap, .string (bs tm.f)] : List Value)[i]? = some u → (W5.alloc (.cells #[.int .i64 (tm.n : Int), .slice tm.A tm.R.length tm.cap, .string (bs tm.f)] 46)).drew.cell? ((⟨W5.heap.size, 0, none⟩ : Addr).add i) = some u) := ⟨World.news_of_block (cs := #[.int .i64 (tm.n : Int), .slice tm.A tm.R.length tm.cap, .string (bs tm.f)]) (heap_alloc_new W5 _)⟩
    have HX1 : Stow (∀ u ∈ ([.int .i64 (tm.n : Int), .slice tm.A tm.R.length tm.cap, .string (bs tm.f)] : List Value), u.oneCell' = true) := ⟨fun u hu => Tm.one tm u hu⟩
    have HN1 : Stow (L.length + 1 ≤ maxLen ∧ (L.length + 1) * 48 ≤ 140737488355328) := ⟨by unfold maxLen; omega, by omega⟩
    have HBG : Stow (Below W5.heap.size W5 (W5.alloc (.cells #[.int .i64 (tm.n : Int), .slice tm.A tm.R.length tm.cap, .string (bs tm.f)] 46)).drew) := ⟨Below.drew hbA⟩
    have HGO : Stow ((Value.slice At L.length ct).ownBlock ≠ some g) := ⟨fun e => HP.out.gP (HP.out.rowP g e)⟩
    obtain ⟨i0, hi, hz, hsz, hby⟩ := info_parts info_tbl
    have HI := Stow.mk hi
    have HZ := Stow.mk hz
    have HSZ := Stow.mk hsz
    have HBY := Stow.mk hby
    clear hi hz hsz hby hbA
    go_region_law (refine step_append_lies _ rfl (.tmp 40) (.tmp 42) 41 rfl 0 46 i0 _ 3 48 Tryz.underlying41 HI.out HZ.out HSZ.out HBY.out rfl (by decide) _ L.length _ rfl HO.out ⟨W5.heap.size, 0, none⟩ 1 1 [.int .i64 (tm.n : Int), .slice tm.A tm.R.length tm.cap, .string (bs tm.f)] rfl rfl HXN.out HX1.out (by decide) HN1.out.1 HN1.out.2 (Nat.zero_le _) _ rfl ?_; intro g' cap' w' hown hgrow hat hlt'; have HOW := Stow.mk hown; have HGR := Stow.mk hgrow; have HAT := Stow.mk hat; have HLT := Stow.mk hlt'; have ha := held_grown HD.out hgrow HGO.out; have g1' := ha.cell (i := 1) rfl; have gf' := ha.free 1; have HA := Stow.mk ha; clear hown hgrow hat ha hlt')
    all_goals
      have HI := Stow.mk (i64_plus1 ⟨g, 2, none⟩ p.T.length (w'.setCell ⟨g, 1, none⟩ (.slice (some ⟨g', 0, none⟩) (L.length + 1) cap')) ((HA.out.set 1 (.slice (some ⟨g', 0, none⟩) (L.length + 1) cap')).cell (i := 2) rfl) ((HA.out.set 1 (.slice (some ⟨g', 0, none⟩) (L.length + 1) cap')).free 2) (by have := HTL.out; omega))
      have HM := Stow.mk (HP.out.more (B := w.heap.size) (c := ⟨Ct.order c.rs, c.f⟩) HLOW.out hg HR5.out HN4.out HC4.out HBG.out HGR.out HOW.out HAT.out rfl HB.out.size HLT.out)
      have HTU := Stow.mk (Turn.trans (Turn.of_below (F := fun k => k = g ∨ P k) HB.out) HM.out.2 (fun i hi => .inl hi))
      have hs6 : ((w'.setCell ⟨g, 1, none⟩ (.slice (some ⟨g', 0, none⟩) (L.length + 1) cap')).setCell ⟨g, 2, none⟩ (.int .i64 ((p.T.length + 1 : Nat) : Int))).heap.size = w'.heap.size := by simp
      have HS6 := Stow.mk hs6
      clear g1' gf' t0 t1 t2 g1 gf g1a hs6
      go_wp2_with fail
      refine HI.out.mono ?_
      rintro e w7 ⟨rfl, hw7⟩
      have HM1 := Stow.mk HM.out.1
      have HTU := Stow.mk HTU.out
      rw [← hw7] at HM1 HTU HS6
      rw [← HS6.out] at HM1
      clear hw7 HM HI
      go_wp2_with fail
      refine bodyPost_ret (results_tmp2 rfl _ _ _) rfl ?_
      exact ⟨rfl, by rw [HPB.out]; exact ⟨_, _, _, _, HM1.out⟩, HTU.out⟩
end Go.Proofs.YtfbhdkkmcfnghaaGreatDoor
end

section
namespace Go.Proofs.YtfbhdkkmcfnghaaGreatDoor
open Go.RowKit
set_option linter.unusedVariables false
set_option linter.unusedSimpArgs false

def tmZ : Tm := ⟨0, none, 0, [], []⟩
theorem at_results (W : World) (g : Nat) (a b c d : Value) (tmps : Array Value) (hH : Held W g [a, b, c]) (h2 : tmps[4]?.getD undef = .pointer (some ⟨g, 0, none⟩)) (h3 : tmps[5]?.getD undef = d) :
    (results Tryz.f20 tmps).run Tryz.prog W = .ok (.tuple #[.agg #[a, b, c], d]) W := by
  have c0 := hH.cell (i := 0) rfl
  have c1 := hH.cell (i := 1) rfl
  have c2 := hH.cell (i := 2) rfl
  simp [results, Tryz.results20, go_sem, h2, h3, c0, c1, c2]
set_option maxHeartbeats 2000000 in
set_option maxRecDepth 100000 in
theorem ctAt_nil (v : Int) (w : World) : Calls Tryz.prog 20 #[.pointer none, .int .i64 v] w fun e w' => e = .returned (.tuple #[.agg tmZ.cells.toArray, .bool false]) ∧ Below w.heap.size w w' := by
  have hz := Held.made w [.int .i64 0, .slice none 0 0, .string ⟨#[]⟩] 46
  have hb := Below.alloc' (Below.self w) (.cells #[.int .i64 0, .slice none 0 0, .string ⟨#[]⟩] 46)
  obtain ⟨W0, hW0⟩ : ∃ W, w.alloc (.cells #[.int .i64 0, .slice none 0 0, .string ⟨#[]⟩] 46) = W := ⟨_, rfl⟩
  rw [show w.alloc (.cells [.int .i64 0, .slice none 0 0, .string ⟨#[]⟩].toArray 46) = W0 from hW0] at hz
  rw [hW0] at hb
  have hsz : W0.heap.size = w.heap.size + 1 := by rw [← hW0]; simp
  have HZ := Stow.mk hz
  have HB := Stow.mk hb
  have HW0 := Stow.mk hW0
  have HSZ := Stow.mk hsz
  clear hz hb hW0 hsz
  have z0 := HZ.out.cell (i := 0) rfl
  have z1 := HZ.out.cell (i := 1) rfl
  have z2 := HZ.out.cell (i := 2) rfl
  have f0 := HZ.out.free 0
  have f1 := HZ.out.free 1
  have f2 := HZ.out.free 2
  have HZ2 := Stow.mk (((HZ.out.set 0 (.int .i64 0)).set 1 (.slice none 0 0)).set 2 (.string ⟨#[]⟩))
  have HB2 := Stow.mk (HB.out.trans ((((Only.set w.heap.size W0 0 (.int .i64 0)).trans (Only.set _ _ 1 (.slice none 0 0))).trans (Only.set _ _ 2 (.string ⟨#[]⟩))).below (Nat.le_refl _) HB.out.size))
  go_enter Tryz.func20, Tryz.ntmps20
  go_upto_region 1 with fail
  rw [HW0.out]
  go_wp2_with fail
  refine bodyPost_ret (at_results _ w.heap.size (.int .i64 0) (.slice none 0 0) (.string ⟨#[]⟩) _ _ HZ2.out rfl rfl) rfl ?_
  exact ⟨rfl, HB2.out⟩
set_option maxHeartbeats 2000000 in
set_option maxRecDepth 100000 in
theorem ctAt_no {w : World} {P : Nat → Prop} {g : Nat} {p : Ct.Pl} (h : PlM w P g p) (v : Int) (hv : v < 1 ∨ (p.T.length : Int) < v) :
    Calls Tryz.prog 20 #[.pointer (some ⟨g, 0, none⟩), .int .i64 v] w fun e w' => e = .returned (.tuple #[.agg tmZ.cells.toArray, .bool false]) ∧ Below w.heap.size w w' := by
  obtain ⟨NA, nc, tv, L, hp⟩ := h
  have hz := Held.made w [.int .i64 0, .slice none 0 0, .string ⟨#[]⟩] 46
  have hb := Below.alloc' (Below.self w) (.cells #[.int .i64 0, .slice none 0 0, .string ⟨#[]⟩] 46)
  obtain ⟨W0, hW0⟩ : ∃ W, w.alloc (.cells #[.int .i64 0, .slice none 0 0, .string ⟨#[]⟩] 46) = W := ⟨_, rfl⟩
  rw [show w.alloc (.cells [.int .i64 0, .slice none 0 0, .string ⟨#[]⟩].toArray 46) = W0 from hW0] at hz
  rw [hW0] at hb
  have hsz : W0.heap.size = w.heap.size + 1 := by rw [← hW0]; simp
  have HZ := Stow.mk hz
  have HB := Stow.mk hb
  have HW0 := Stow.mk hW0
  have HSZ := Stow.mk hsz
  clear hz hb hW0 hsz
  have HP := Stow.mk (hp.keep HB.out)
  have z0 := HZ.out.cell (i := 0) rfl
  have z1 := HZ.out.cell (i := 1) rfl
  have z2 := HZ.out.cell (i := 2) rfl
  have f0 := HZ.out.free 0
  have f1 := HZ.out.free 1
  have f2 := HZ.out.free 2
  have HZ2 := Stow.mk (((HZ.out.set 0 (.int .i64 0)).set 1 (.slice none 0 0)).set 2 (.string ⟨#[]⟩))
  have HB2 := Stow.mk (HB.out.trans ((((Only.set w.heap.size W0 0 (.int .i64 0)).trans (Only.set _ _ 1 (.slice none 0 0))).trans (Only.set _ _ 2 (.string ⟨#[]⟩))).below (Nat.le_refl _) HB.out.size))
  obtain ⟨At, ct, rfl⟩ := own_form HP.out.row
  have g1 := HP.out.hd.cell (i := 1) rfl
  rw [hp.len] at hv
  clear hp
  by_cases h1 : v < 1
  · have d1 : decide (v < 1) = true := by simpa using h1
    clear h1 hv
    go_enter Tryz.func20, Tryz.ntmps20
    go_upto_region 1 with fail
    rw [HW0.out]
    go_wp2_with fail
    refine bodyPost_ret (at_results _ w.heap.size (.int .i64 0) (.slice none 0 0) (.string ⟨#[]⟩) _ _ HZ2.out rfl rfl) rfl ?_
    exact ⟨rfl, HB2.out⟩
  · have d1 : decide (v < 1) = false := by simpa using h1
    have h2 : (L.length : Int) < v := by omega
    have d2 : decide ((L.length : Int) < v) = true := by simpa using h2
    clear h1 hv
    go_enter Tryz.func20, Tryz.ntmps20
    go_upto_region 1 with fail
    rw [HW0.out]
    go_wp2_with fail
    refine bodyPost_ret (at_results _ w.heap.size (.int .i64 0) (.slice none 0 0) (.string ⟨#[]⟩) _ _ HZ2.out rfl rfl) rfl ?_
    exact ⟨rfl, HB2.out⟩
set_option maxHeartbeats 1000000 in
set_option maxRecDepth 100000 in
theorem ctVersions_any {w : World} {P : Nat → Prop} {g : Nat} {p : Ct.Pl} (h : PlM w P g p) : Calls Tryz.prog 23 #[.pointer (some ⟨g, 0, none⟩)] w fun e w' => e = .returned (.int .i64 (p.T.length : Nat)) ∧ w' = w := by
  obtain ⟨NA, nc, tv, L, hp⟩ := h
  have HI := Stow.mk (i64_load ⟨g, 2, none⟩ (p.T.length : Nat) w (hp.hd.cell (i := 2) rfl))
  clear hp
  go_enter Tryz.func23, Tryz.ntmps23
  go_wp2_with fail
  refine HI.out.mono ?_
  rintro e w1 ⟨rfl, rfl⟩
  go_wp2_with fail
  go_ret
  exact ⟨rfl, rfl⟩
set_option maxHeartbeats 1000000 in
set_option maxRecDepth 100000 in
theorem ctRefused_any {w : World} {P : Nat → Prop} {g : Nat} {p : Ct.Pl} (h : PlM w P g p) : Calls Tryz.prog 24 #[.pointer (some ⟨g, 0, none⟩)] w fun e w' => e = .returned (.int .i64 (p.bad : Nat)) ∧ w' = w := by
  obtain ⟨NA, nc, tv, L, hp⟩ := h
  have HI := Stow.mk (i64_load ⟨g, 3, none⟩ (p.bad : Nat) w (hp.hd.cell (i := 3) rfl))
  clear hp
  go_enter Tryz.func24, Tryz.ntmps24
  go_wp2_with fail
  refine HI.out.mono ?_
  rintro e w1 ⟨rfl, rfl⟩
  go_wp2_with fail
  go_ret
  exact ⟨rfl, rfl⟩
set_option maxHeartbeats 1000000 in
set_option maxRecDepth 100000 in
theorem ctVersions_nil (w : World) : Calls Tryz.prog 23 #[.pointer none] w fun e w' => e = .returned (.int .i64 0) ∧ w' = w := by
  go_enter Tryz.func23, Tryz.ntmps23
  go_wp2_with fail
  go_ret
  exact ⟨rfl, rfl⟩
set_option maxHeartbeats 1000000 in
set_option maxRecDepth 100000 in
theorem ctRefused_nil (w : World) : Calls Tryz.prog 24 #[.pointer none] w fun e w' => e = .returned (.int .i64 0) ∧ w' = w := by
  go_enter Tryz.func24, Tryz.ntmps24
  go_wp2_with fail
  go_ret
  exact ⟨rfl, rfl⟩
theorem RsO.only {w w' : World} {B B' g : Nat} {A : Option Addr} {cap : Nat} {R : List Rm} (h : RsO w B A cap R) (ho : Only g w w') (hg : g < B) (hB : B' ≤ B) : RsO w' B' A cap R :=
  ⟨World.ownsRow.mono (own_undr h.own ho hg) hB, fun m hm => (h.each m hm).turn (F := (· = g)) (Turn.of_grown ho (.inl rfl)) (fun a e => by have := (h.apart m hm a e).1; omega), fun m hm a e => ⟨by have := (h.apart m hm a e).1; omega, (h.apart m hm a e).2⟩, fun m hm a e => Nat.lt_of_lt_of_le (h.lt m hm a e) ho.size⟩
set_option maxHeartbeats 4000000 in
set_option maxRecDepth 100000 in
theorem ctAt_yes {w : World} {P : Nat → Prop} {g : Nat} {p : Ct.Pl} (h : PlM w P g p) (hok : p.Ok) (k : Nat) (hk : k < p.T.length) :
    Calls Tryz.prog 20 #[.pointer (some ⟨g, 0, none⟩), .int .i64 ((k + 1 : Nat) : Int)] w fun e w' => ∃ t : Tm, e = .returned (.tuple #[.agg t.cells.toArray, .bool true]) ∧ t.n = k + 1 ∧ t.c = p.T[k] ∧ TbN w w' t := by
  obtain ⟨NA, nc, tv, L, hp⟩ := h
  have hkL : k < L.length := by rw [← hp.len]; exact hk
  have htk : L[k].c = p.T[k] := by simp [← hp.eq]
  have hno := hp.no k hkL
  have htb := hp.each _ (List.getElem_mem hkL)
  have hgood := hok.good _ (List.getElem_mem hk)
  obtain ⟨hs1, hs2, hs3⟩ := Ct.check_small hgood.1
  have hL16 : L.length ≤ 16 := by rw [← hp.len]; exact hok.few
  rw [← htk] at hs1 hs2 hs3 ⊢
  have hz := Held.made w [.int .i64 0, .slice none 0 0, .string ⟨#[]⟩] 46
  have hb := Below.alloc' (Below.self w) (.cells #[.int .i64 0, .slice none 0 0, .string ⟨#[]⟩] 46)
  obtain ⟨W0, hW0⟩ : ∃ W, w.alloc (.cells #[.int .i64 0, .slice none 0 0, .string ⟨#[]⟩] 46) = W := ⟨_, rfl⟩
  rw [show w.alloc (.cells [.int .i64 0, .slice none 0 0, .string ⟨#[]⟩].toArray 46) = W0 from hW0] at hz
  rw [hW0] at hb
  have hsz : W0.heap.size = w.heap.size + 1 := by rw [← hW0]; simp
  have HZ := Stow.mk hz
  have HB := Stow.mk hb
  have HW0 := Stow.mk hW0
  have HSZ := Stow.mk hsz
  clear hz hb hW0 hsz
  have HP := Stow.mk (hp.keep HB.out)
  have HTB := Stow.mk (htb.keep HB.out)
  have HTW := Stow.mk htb
  obtain ⟨gr, cr, rfl, _, hgrl⟩ := World.ownsRow.form HP.out.row (by omega)
  have hrow := HP.out.row
  obtain ⟨c0, c1, c2⟩ := tm_at (own_of_cells (fun _ => rfl) hrow rfl) hkL
  have g1 := HP.out.hd.cell (i := 1) rfl
  obtain ⟨tm, htm⟩ : ∃ tm, L[k] = tm := ⟨_, rfl⟩
  rw [htm] at HTB HTW hs1 hs2 hs3 hno c0 c1 c2 ⊢
  clear htb hgood htk htm hp hk hrow hgrl hok
  obtain ⟨tn, tA, tcap, R, tf⟩ := tm
  simp only [Tm.c, List.length_map] at HTB HTW hs1 hs2 hs3 hno c0 c1 c2 ⊢
  subst hno
  obtain ⟨n, hn⟩ : ∃ n, R.length = n := ⟨_, rfl⟩
  have HNL := Stow.mk hn
  rw [hn] at hs1 c1
  have HPL : Stow (∀ m ∈ R, m.r.ps.length ≤ 1000) := ⟨fun m hm => by have := hs2 m.r (List.mem_map_of_mem hm); omega⟩
  clear hn hs2 hs3
  simp only [Nat.zero_add] at c0 c1 c2
  have hn16 : n ≤ 16 := hs1
  obtain ⟨v, hv⟩ : ∃ v : Int, ((k + 1 : Nat) : Int) = v := ⟨_, rfl⟩
  rw [hv] at c0 ⊢
  have HV := Stow.mk hv
  have hkd : decide ((L.length : Int) < v) = false := by simp; omega
  have hkd1 : decide (v < 1) = false := by simp; omega
  have hk1 : v - 1 = (k : Int) := by omega
  have hvb : -9223372036854775808 ≤ v ∧ v ≤ 9223372036854775807 := by omega
  clear hv
  have hki : (k : Int) < L.length := by omega
  have hk0 : (0 : Int) ≤ k := by omega
  have hbT := Below.alloc' (Below.self W0) (.cells #[.int .i64 v, .slice tA n tcap, .string (bs tf)] 46)
  have hT := Held.made W0 [.int .i64 v, .slice tA n tcap, .string (bs tf)] 46
  obtain ⟨W1, hW1⟩ : ∃ W, W0.alloc (.cells #[.int .i64 v, .slice tA n tcap, .string (bs tf)] 46) = W := ⟨_, rfl⟩
  rw [show W0.alloc (.cells [.int .i64 v, .slice tA n tcap, .string (bs tf)].toArray 46) = W1 from hW1] at hT
  rw [hW1] at hbT
  have hs1' : W1.heap.size = W0.heap.size + 1 := by rw [← hW1]; simp
  have HS1 : Stow (W1.heap.size = w.heap.size + 2 ∧ W0.heap.size = w.heap.size + 1) := ⟨by have := HSZ.out; omega⟩
  clear hs1'
  have HT := Stow.mk hT
  have HZ := Stow.mk (HZ.out.kept hbT)
  have HB := Stow.mk (HB.out.trans (hbT.mono HB.out.size))
  have HR := Stow.mk (HTB.out.rs.keep hbT)
  have HW1 := Stow.mk hW1
  have HC := Stow.mk (cloneR_any R tA tcap W1 HR.out.row (by rw [HNL.out]; omega))
  rw [HNL.out] at HC
  clear hbT hT hW1 HTB
  go_enter Tryz.func20, Tryz.ntmps20
  go_upto_region 1 with fail
  rw [HW0.out]
  go_upto_region 4 with fail
  rw [HW1.out]
  have t1 := HT.out.cell (i := 1) rfl
  have tf1 := HT.out.free 1
  clear c0 c1 c2 g1
  go_wp2_with fail
  refine HC.out.mono ?_
  rintro e w2 ⟨A1, c1, rfl, hO2, hb2⟩
  have HT2 := HT.out.kept hb2
  have HZ2 := HZ.out.kept hb2
  have hb2' := HB.out.trans (hb2.mono HB.out.size)
  have hs2 := hb2.size
  have hOn : Only W0.heap.size w2 (w2.setCell ⟨W0.heap.size, 1, none⟩ (.slice A1 n c1)) := Only.set _ _ 1 _
  have HT : Stow (Held (w2.setCell ⟨W0.heap.size, 1, none⟩ (.slice A1 n c1)) W0.heap.size [.int .i64 v, .slice A1 n c1, .string (bs tf)]) := ⟨HT2.set 1 (.slice A1 n c1)⟩
  have HZ := Stow.mk (HZ2.offO hOn (by have := HS1.out; omega))
  have HO := Stow.mk (own_undr hO2 hOn (by have := HS1.out; omega))
  have HB := Stow.mk (hb2'.trans (hOn.below (by have := HS1.out; omega) hb2'.size))
  have HR := Stow.mk (HR.out.keep hb2)
  have hs3 : (w2.setCell ⟨W0.heap.size, 1, none⟩ (.slice A1 n c1)).heap.size = w2.heap.size := by simp
  have t1' := HT2.cell (i := 1) rfl
  have tf1' := HT2.free 1
  clear hO2 hb2 hOn HC t1 tf1
  go_upto_region 5 with fail
  obtain ⟨W3, hW3⟩ : ∃ W, w2.setCell ⟨W0.heap.size, 1, none⟩ (.slice A1 n c1) = W := ⟨_, rfl⟩
  rw [hW3] at HT HZ HO HB hs3 ⊢
  clear t1' tf1' HT2 HZ2 hb2' hW3
  have t1 := HT.out.cell (i := 1) rfl
  have hnI : (n : Int) ≤ 16 := by omega
  by_cases h0 : n = 0
  · subst h0
    have HRO : Stow (RsO W3 W1.heap.size A1 c1 []) := ⟨⟨by
      have h := HO.out
      obtain rfl := List.eq_nil_of_length_eq_zero HNL.out
      exact h, by simp, by simp, by simp⟩⟩
    have HRL : Stow (([] : List Rm).length = 0) := ⟨rfl⟩
    have HRE : Stow ([].map Rm.r = R.map Rm.r) := ⟨by rw [List.eq_nil_of_length_eq_zero HNL.out]⟩
    go_wp2_with fail
    go_loopw [40] (fun u wr => u = .int .i64 0 ∧ wr = W3) (fun _ _ => 0)
    case atStart => exact ⟨rfl, rfl⟩
    case round =>
      obtain ⟨rfl, rfl⟩ := hrel
      clear t1
      have t0 := HT.out.cell (i := 0) rfl
      have t1 := HT.out.cell (i := 1) rfl
      have t2 := HT.out.cell (i := 2) rfl
      have z0 := HZ.out.cell (i := 0) rfl
      have z1 := HZ.out.cell (i := 1) rfl
      have z2 := HZ.out.cell (i := 2) rfl
      have f0 := HZ.out.free 0
      have f1 := HZ.out.free 1
      have f2 := HZ.out.free 2
      have HZ2 := Stow.mk (((HZ.out.set 0 (.int .i64 v)).set 1 (.slice A1 0 c1)).set 2 (.string (bs tf)))
      have ho : Only w.heap.size wr (((World.setCell wr ⟨w.heap.size, 0, none⟩ (.int .i64 v)).setCell ⟨w.heap.size, 1, none⟩ (.slice A1 0 c1)).setCell ⟨w.heap.size, 2, none⟩ (.string (bs tf))) := ((Only.set _ _ 0 _).trans (Only.set _ _ 1 _)).trans (Only.set _ _ 2 _)
      have HB2 := Stow.mk (HB.out.trans (ho.below (Nat.le_refl _) HB.out.size))
      have HR2 : Stow (RsO _ w.heap.size A1 c1 []) := ⟨HRO.out.only ho (by have := HS1.out; omega) (by have := HS1.out; omega)⟩
      have hW0ne : W0.heap.size ≠ w.heap.size := by have := HSZ.out; omega
      have hW0n2 : (w.heap.size == W0.heap.size) = false := by have := HSZ.out; simp; omega
      clear ho
      go_wp2_with fail
      refine bodyPost_ret (at_results _ w.heap.size (.int .i64 v) (.slice A1 0 c1) (.string (bs tf)) _ _ HZ2.out rfl rfl) rfl ?_
      refine ⟨⟨k + 1, A1, c1, [], tf⟩, ?_, rfl, ?_, HR2.out, HB2.out⟩
      · unfold Tm.cells
        simp only
        rw [HV.out, HRL.out]
        rfl
      · simp [Tm.c, HRE.out]
  · obtain ⟨gq, c1', hform, hge, hlt⟩ := World.ownsRow.form HO.out (by omega)
    simp only [Value.slice.injEq, true_and] at hform
    obtain ⟨rfl, rfl⟩ := hform
    have HCP : Stow (CpR W3 W1.heap.size gq n c1 R [] 0) := ⟨⟨rfl, rfl, HO.out, (fun x hx => by cases hx), (fun x hx => by cases hx), (fun x hx => by cases hx)⟩⟩
    clear HO hlt
    go_wp2_with fail
    go_loopw [7, 8, 40] (fun _ _ u wr => ∃ j : Nat, u = .int .i64 (j : Int) ∧ j ≤ n ∧ Stow (∃ Q, CpR wr W1.heap.size gq n c1 R Q j) ∧ Stow (Held wr W0.heap.size [.int .i64 v, .slice (some ⟨gq, 0, none⟩) n c1, .string (bs tf)]) ∧ Stow (Held wr w.heap.size [.int .i64 0, .slice none 0 0, .string ⟨#[]⟩]) ∧ Stow (Below w.heap.size w wr)) (fun _ _ u _ => n - (intOf u).toNat)
    case atStart => exact ⟨0, rfl, by omega, ⟨[], HCP.out⟩, HT, HZ, HB⟩
    case round =>
      obtain ⟨j, rfl, hj, HCQ, HT, HZ, HB⟩ := hrel
      by_cases hjl : j < n
      · obtain ⟨Q, hQ⟩ := HCQ.out
        have hjR : j < R.length := by rw [HNL.out]; exact hjl
        obtain ⟨hgl, hra, hf1⟩ := hQ.at_ HNL.out.symm hjR
        have HM := Stow.mk ((HTW.out.rs.each _ (List.getElem_mem hjR)).keep HB.out)
        have hps := HPL.out _ (List.getElem_mem hjR)
        obtain ⟨m, hm⟩ : ∃ m, R[j] = m := ⟨_, rfl⟩
        rw [hm] at hra HM hps
        have HMJ := Stow.mk hm
        have HQ := Stow.mk hQ
        obtain ⟨⟨rank, ps, tg, ap, st, dp, dt, mp, mi, sm⟩, mA, mcap⟩ := m
        simp only at hps
        have t1 := HT.out.cell (i := 1) rfl
        have q0 : wr.cell? ⟨gq, j * 10, none⟩ = some (.int .i64 rank) := hra 0 _ rfl
        have q1 := hra 1 _ rfl
        have q2 := hra 2 _ rfl
        have q3 := hra 3 _ rfl
        have q4 := hra 4 _ rfl
        have q5 := hra 5 _ rfl
        have q6 := hra 6 _ rfl
        have q7 := hra 7 _ rfl
        have q8 := hra 8 _ rfl
        have q9 := hra 9 _ rfl
        simp only at q1 q2 q3 q4 q5 q6 q7 q8 q9
        have hji : (j : Int) < n := by omega
        have hj0 : (0 : Int) ≤ j := by omega
        have hbx := Below.alloc' (Below.self wr) (.cells #[.int .i64 rank, .slice mA ps.length mcap, .string (bs tg), .int .i64 ap, .int .i64 st, .int .i64 dp, .int .i64 dt, .int .i64 mp, .string (bs mi), .int .i64 sm] 95)
        have hX := Held.made wr [.int .i64 rank, .slice mA ps.length mcap, .string (bs tg), .int .i64 ap, .int .i64 st, .int .i64 dp, .int .i64 dt, .int .i64 mp, .string (bs mi), .int .i64 sm] 95
        obtain ⟨WX, hWX⟩ : ∃ W, wr.alloc (.cells #[.int .i64 rank, .slice mA ps.length mcap, .string (bs tg), .int .i64 ap, .int .i64 st, .int .i64 dp, .int .i64 dt, .int .i64 mp, .string (bs mi), .int .i64 sm] 95) = W := ⟨_, rfl⟩
        rw [show wr.alloc (.cells [.int .i64 rank, .slice mA ps.length mcap, .string (bs tg), .int .i64 ap, .int .i64 st, .int .i64 dp, .int .i64 dt, .int .i64 mp, .string (bs mi), .int .i64 sm].toArray 95) = WX from hWX] at hX
        rw [hWX] at hbx
        have HX := Stow.mk hX
        have HBX := Stow.mk hbx
        have HWX := Stow.mk hWX
        have HTX := Stow.mk (HT.out.kept hbx)
        have HCL := Stow.mk (fun W h => cloneP_any ps mA mcap W h hps)
        clear hQ hra hm HCQ hX hbx hWX
        go_upto_region 8 with fail
        rw [HWX.out]
        clear q0 q1 q2 q3 q4 q5 q6 q7 q8 q9 hf1 t1
        have x1 := HX.out.cell (i := 1) rfl
        have t1 := HTX.out.cell (i := 1) rfl
        have hk1 := x1
        have hk2 := t1
        have hne1 : gq ≠ wr.heap.size := by omega
        have hne2 : gq ≠ W0.heap.size := by have := HS1.out; omega
        have hgl2 : gq < WX.heap.size := Nat.lt_of_lt_of_le hgl HBX.out.size
        go_region_held3 (fun w' => w'.cell? ⟨wr.heap.size, 1, none⟩ = some (.slice mA ps.length mcap) ∧ w'.cell? ⟨W0.heap.size, 1, none⟩ = some (.slice (some ⟨gq, 0, none⟩) n c1)) (first | exact ⟨hk1, hk2⟩ | exact ⟨(World.cell?_setCell_far _ _ _ _ hne1).trans hk1, (World.cell?_setCell_far _ _ _ _ hne2).trans hk2⟩)
          (first | (go_at_call 54; refine (HCL.out _ (SlR.keep HM.out.row (HBX.out.trans ((Below.drew (Below.self WX)).mono HBX.out.size)))).mono ?_; rintro e w3 ⟨A3, c3, rfl, hO3, hb3⟩; have hb3' : Below wr.heap.size wr w3 := HBX.out.trans ((Below.call (Below.drew (Below.self WX)) hb3).mono HBX.out.size); have hbX3 : Below WX.heap.size WX w3 := Below.call (Below.drew (Below.self WX)) hb3; have hQ3 := HQ.out.keep hb3'; have hX3 := HX.out.kept hbX3; have hT3 := HTX.out.kept hbX3; have hk1 := hX3.cell (i := 1) rfl; have hk2 := hT3.cell (i := 1) rfl; obtain ⟨_, hra3, hf3⟩ := hQ3.at_ HNL.out.symm hjR; rw [HMJ.out] at hra3; have q3 := hra3 1 _ rfl; clear hra3))
        have hA3 : ∀ a, A3 = some a → W1.heap.size ≤ a.block ∧ a.block ≠ gq := fun a e => by
          have h1 := World.ownsRow.lt hO3 a.block (by subst e; rfl)
          have h2 : WX.drew.heap.size = WX.heap.size := rfl
          have h3 := HBX.out.size
          have h4 := HB.out.size
          constructor
          · omega
          · omega
        have HN3 := Stow.mk (hQ3.next hjR HMJ.out A3 c3 ⟨own_of_cells (fun _ => rfl) hO3 rfl, HM.out.fits, HM.out.tg, HM.out.mi⟩ hA3 (fun a e => (World.ownsRow.lt hO3 a.block (by subst e; rfl)).2))
        have hOs : Only gq w3 (w3.setCell ⟨gq, j * 10 + 1, none⟩ (.slice A3 ps.length c3)) := Only.set _ _ _ _
        have HT5 := Stow.mk (hT3.offO hOs (fun e => hne2 e.symm))
        have hZ3 := (HZ.out.kept hb3').offO hOs (by have := HS1.out; omega)
        have HZ5 := Stow.mk hZ3
        have hB3 := HB.out.trans (hb3'.mono HB.out.size)
        have HB5 := Stow.mk (hB3.trans (hOs.below (by have := HS1.out; omega) hB3.size))
        clear hO3 hb3 hb3' hbX3 hQ3 hX3 hT3 hk1 hk2 hf3 q3 hA3 hOs hZ3 hB3 x1 t1
        clear hk1 hk2
        go_wp2_with fail
        exact ⟨⟨j + 1, by simp, by omega, ⟨_, HN3.out⟩, HT5, HZ5, HB5⟩, by simp [intOf]; omega⟩
      · obtain rfl : j = n := by omega
        obtain ⟨Q, hQ⟩ := HCQ.out
        have hji : ¬ (j : Int) < j := by omega
        have hD : RsO wr W1.heap.size (some ⟨gq, 0, none⟩) c1 Q ∧ Q.map Rm.r = R.map Rm.r ∧ Q.length = R.length := by
          have h := hQ
          rw [← HNL.out] at h
          exact h.done
        have HRO := Stow.mk hD.1
        have HRE := Stow.mk hD.2.1
        have HRL : Stow (Q.length = j) := ⟨by rw [hD.2.2, HNL.out]⟩
        clear hQ HCQ hD
        have t0 := HT.out.cell (i := 0) rfl
        have t1 := HT.out.cell (i := 1) rfl
        have t2 := HT.out.cell (i := 2) rfl
        have z0 := HZ.out.cell (i := 0) rfl
        have z1 := HZ.out.cell (i := 1) rfl
        have z2 := HZ.out.cell (i := 2) rfl
        have f0 := HZ.out.free 0
        have f1 := HZ.out.free 1
        have f2 := HZ.out.free 2
        have HZ2 := Stow.mk (((HZ.out.set 0 (.int .i64 v)).set 1 (.slice (some ⟨gq, 0, none⟩) j c1)).set 2 (.string (bs tf)))
        have ho : Only w.heap.size wr (((World.setCell wr ⟨w.heap.size, 0, none⟩ (.int .i64 v)).setCell ⟨w.heap.size, 1, none⟩ (.slice (some ⟨gq, 0, none⟩) j c1)).setCell ⟨w.heap.size, 2, none⟩ (.string (bs tf))) := ((Only.set _ _ 0 _).trans (Only.set _ _ 1 _)).trans (Only.set _ _ 2 _)
        have HB2 := Stow.mk (HB.out.trans (ho.below (Nat.le_refl _) HB.out.size))
        have HR2 : Stow (RsO _ w.heap.size (some ⟨gq, 0, none⟩) c1 Q) := ⟨HRO.out.only ho (by have := HS1.out; omega) (by have := HS1.out; omega)⟩
        have hW0ne : W0.heap.size ≠ w.heap.size := by have := HSZ.out; omega
        have hW0n2 : (w.heap.size == W0.heap.size) = false := by have := HSZ.out; simp; omega
        clear ho
        go_wp2_with fail
        refine bodyPost_ret (at_results _ w.heap.size (.int .i64 v) (.slice (some ⟨gq, 0, none⟩) j c1) (.string (bs tf)) _ _ HZ2.out rfl rfl) rfl ?_
        refine ⟨⟨k + 1, (some ⟨gq, 0, none⟩), c1, Q, tf⟩, ?_, rfl, ?_, HR2.out, HB2.out⟩
        · unfold Tm.cells
          simp only
          rw [HV.out, HRL.out]
          rfl
        · simp [Tm.c, HRE.out]
end Go.Proofs.YtfbhdkkmcfnghaaGreatDoor
end
