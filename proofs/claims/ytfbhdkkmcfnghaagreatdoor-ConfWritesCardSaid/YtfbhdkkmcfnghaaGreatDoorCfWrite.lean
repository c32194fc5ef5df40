/- Walk of conf.Write. Conditions: the config's memory; the library's table of powers. -/
import Derived.Test.YtfbhdkkmcfnghaaGreatDoorCfText
namespace Go.Proofs.YtfbhdkkmcfnghaaGreatDoor
open Go.RowKit
set_option linter.unusedVariables false
set_option linter.unusedSimpArgs false

set_option maxHeartbeats 4000000 in
set_option maxRecDepth 100000 in
theorem cfWrite_any (c : Cf) (A : Option Addr) (cap : Nat) (R : List Rm) (w : World) (h : RsR w A cap R) (hc : c.rs = R.map Rm.r) (hf : c.f.length ≤ 140737488355328) (hP : Pow10 w) :
    Calls Tryz.prog 27 #[.agg #[.slice A R.length cap, .string (bs c.f)]] w fun e w' => e = .returned (.tuple #[.string (bs (Cf.write c).1), .int .i64 ((Cf.write c).2 : Nat)]) ∧ Below w.heap.size w w' := by
  have HR := Stow.mk h
  have HPW := Stow.mk hP
  obtain ⟨n, hn⟩ : ∃ n, R.length = n := ⟨_, rfl⟩
  have HNL := Stow.mk hn
  have hnl : n ≤ 9223372036854775807 := by have := SlR.len h.row; rw [List.length_map] at this; omega
  have hp0 := Held.made w [.slice A n cap, .string (bs c.f)] 54
  have hb0 := Below.alloc' (Below.self w) (.cells #[.slice A n cap, .string (bs c.f)] 54)
  obtain ⟨W, hW⟩ : ∃ W, w.alloc (.cells #[.slice A n cap, .string (bs c.f)] 54) = W := ⟨_, rfl⟩
  rw [show w.alloc (.cells [.slice A n cap, .string (bs c.f)].toArray 54) = W from hW] at hp0
  rw [hW] at hb0
  have HCK := Stow.mk (cfCheck_any c A cap R W (h.keep hb0) hc hf)
  rw [hn] at HCK ⊢
  have HX := Stow.mk hW
  have HP := Stow.mk hp0
  have HB := Stow.mk hb0
  have HC := Stow.mk hc
  obtain ⟨er, her⟩ : ∃ e, Cf.check c = e := ⟨_, rfl⟩
  rw [her] at HCK
  have HER := Stow.mk her
  have p0 := hp0.cell (i := 0) rfl
  have p1 := hp0.cell (i := 1) rfl
  clear h hn hW hp0 hb0 hc her hP
  by_cases h0 : er = 0
  · subst h0
    obtain ⟨hf120, hr16, hones⟩ := Cf.check_ok HER.out
    have htl := Cf.text_len HER.out
    have HW : Stow (Cf.write c = (Cf.text c, 0)) := ⟨by unfold Cf.write; rw [if_neg (by simp [HER.out])]⟩
    have HONE := Stow.mk hones
    rw [HW.out]
    obtain ⟨crs, cf⟩ := c
    simp only at HC HP p1 HX HONE hf120 hr16 ⊢
    clear hones
    go_enter Tryz.func27, Tryz.ntmps27
    go_upto_region 1 with fail
    rw [HX.out]
    go_wp2_with fail
    refine HCK.out.mono ?_
    rintro e w1 ⟨rfl, hb1⟩
    have HP1 := Stow.mk (HP.out.kept hb1)
    have HB1 := Stow.mk (HB.out.trans (hb1.mono HB.out.size))
    clear hb1 p0 p1 HX HP HB
    have hg := Held.made w1 [.slice none 0 0] 104
    have hbg := Below.alloc' (Below.self w1) (.cells #[.slice none 0 0] 104)
    go_upto_region 5 with fail
    obtain ⟨w2, hw2⟩ : ∃ W, w1.alloc (.cells #[.slice none 0 0] 104) = W := ⟨_, rfl⟩
    rw [show w1.alloc (.cells [.slice none 0 0].toArray 104) = w2 from hw2] at hg
    have hsz : w2.heap.size = w1.heap.size + 1 := by rw [← hw2]; simp
    rw [hw2] at hbg ⊢
    have HS : Stow (∃ v', Wr w2 w1.heap.size (w1.heap.size + 1) v' ([]) ∧ Below w1.heap.size w1 w2 ∧ w1.heap.size + 1 ≤ (w2).heap.size) := ⟨_, ⟨hg, World.ownsRow_nil _ _ _ _, by omega⟩, hbg, by omega⟩
    have HRB := Stow.mk (HPW.out.keep HB1.out)
    have htl' : (if cf ≠ [] then ln [[102, 111, 114, 109, 97, 116], cf] else []).length + (crs.flatMap Cf.ruleText).length + (ln [[101, 110, 100]]).length ≤ 20000 := by
      unfold Cf.text at htl
      simp only [List.length_append] at htl
      exact htl
    have HTL := Stow.mk htl'
    clear hw2 hg hsz hbg htl htl'
    have p1 := HP1.out.cell (i := 1) rfl
    go_cut [15] (fun bv wx => bv = .bool (!cf.isEmpty) ∧ wx = w2)
    case first =>
      obtain ⟨v0, hs0, hb0, hB0⟩ := HS.out
      have q1 := (HP1.out.kept hb0).cell (i := 1) rfl
      clear hs0 hb0 hB0
      go_wp2_with fail
      go_meet
      exact ⟨rfl, rfl⟩
    case rest =>
      obtain ⟨rfl, rfl⟩ := hcut
      clear p1
      obtain ⟨bc, hbc⟩ : ∃ c, (!cf.isEmpty) = c := ⟨_, rfl⟩
      rw [hbc]
      have HBC := Stow.mk hbc
      clear hbc
      go_upto_if 15 with fail
      go_cut [5] (fun pv wx => pv = .pointer (some ⟨w1.heap.size, 0, none⟩) ∧ Stow (∃ v', Wr wx w1.heap.size (w1.heap.size + 1) v' ((if cf ≠ [] then ln [[102, 111, 114, 109, 97, 116], cf] else [])) ∧ Below w1.heap.size w1 wx ∧ w1.heap.size + 1 ≤ (wx).heap.size))
      case first =>
        cases bc with
        | false =>
          have HOP : Stow ((if cf ≠ [] then ln [[102, 111, 114, 109, 97, 116], cf] else []) = []) := ⟨by have h := HBC.out; rw [if_neg (by simpa using h)]⟩
          go_wp2_with fail
          go_meet
          exact ⟨rfl, by rw [HOP.out]; exact HS⟩
        | true =>
          have HOP : Stow ((if cf ≠ [] then ln [[102, 111, 114, 109, 97, 116], cf] else []) = ln [[102, 111, 114, 109, 97, 116], cf]) := ⟨by have h := HBC.out; rw [if_pos (by simpa using h)]⟩
          obtain ⟨v0, hs0, hb0, hB0⟩ := HS.out
          have q1 := (HP1.out.kept hb0).cell (i := 1) rfl
          have hbn := Below.alloc' (Below.self wc) (.cells #[.string (bs [102, 111, 114, 109, 97, 116]), .string (bs cf)] 9)
          have hlit := World.ownsRow_lit (base := wc.heap.size) (e := 9) (size := 1) wc #[.string (bs [102, 111, 114, 109, 97, 116]), .string (bs cf)] 2 (Nat.le_refl _) (by unfold maxLen; omega) rfl
          have hsl := slr_own_text (X := [[102, 111, 114, 109, 97, 116], cf]) (n := 2) (by simpa [sv] using hlit) rfl
          have hll := HTL.out
          have HCL := Stow.mk (cfLine_any (hs0.keep hbn) (Nat.le_trans hB0 hbn.size) [[102, 111, 114, 109, 97, 116], cf] (some ⟨wc.heap.size, 0, none⟩) 2 hsl (by simp) (by rw [HOP.out] at hll; simp only [List.length_nil]; omega))
          have HB2 := Stow.mk (hb0.trans (hbn.mono hb0.size))
          have HGO := Stow.mk (fun i (hi : i = w1.heap.size ∨ v0.ownBlock = some i) => show w1.heap.size ≤ i by
            rcases hi with rfl | hi
            · exact Nat.le_refl _
            · have := (World.ownsRow.lt hs0.row i hi).1; omega)
          have hs2 := Nat.le_trans hB0 hbn.size
          clear hs0 hb0 hbn hlit hsl hll
          go_wp2_with fail
          refine HCL.out.mono ?_
          rintro e w5 ⟨rfl, v5, hw5, ht5⟩
          have HE5 : Stow (∃ v', Wr w5 w1.heap.size (w1.heap.size + 1) v' (if cf ≠ [] then ln [[102, 111, 114, 109, 97, 116], cf] else []) ∧ Below w1.heap.size w1 w5 ∧ w1.heap.size + 1 ≤ w5.heap.size) := ⟨v5, by rw [HOP.out]; simpa using hw5, HB2.out.trans (ht5.below HGO.out HB2.out.size), Nat.le_trans hs2 ht5.size⟩
          clear hw5 ht5 HCL q1
          go_wp2_with fail
          go_meet
          exact ⟨rfl, HE5⟩
      case rest =>
        obtain ⟨rfl, HE⟩ := hcut
        clear HS HBC
        obtain ⟨w3, hw3⟩ : ∃ W, W = wc := ⟨_, rfl⟩
        subst hw3
        obtain ⟨t0, ht0⟩ : ∃ t, (if cf ≠ [] then ln [[102, 111, 114, 109, 97, 116], cf] else []) = t := ⟨_, rfl⟩
        rw [ht0] at HE HTL
        have HT0 := Stow.mk ht0
        clear ht0
        have HRW := Stow.mk (HR.out.keep HB1.out)
        obtain ⟨v0, hs0, hb0, hB0⟩ := HE.out
        have q0 := (HP1.out.kept hb0).cell (i := 0) rfl
        have HE0 := HE
        clear hs0 hb0 hB0 HE
        go_wp2_with fail
        clear q0
        go_loopw [7, 23] (fun _ u wr => ∃ i : Nat, u = .int .i64 (i : Int) ∧ i ≤ n ∧ Stow (∃ v', Wr wr w1.heap.size (w1.heap.size + 1) v' (t0 ++ (crs.take i).flatMap Cf.ruleText) ∧ Below w1.heap.size w1 wr ∧ w1.heap.size + 1 ≤ wr.heap.size)) (fun _ u _ => n - (intOf u).toNat)
        case atStart => exact ⟨0, rfl, by omega, by simpa using HE0⟩
        case round =>
          obtain ⟨i, rfl, hi, HE⟩ := hrel
          obtain ⟨v2, hs2, hb2, hB2⟩ := HE.out
          by_cases hlt : i < n
          · have hlt' : i < R.length := by rw [HNL.out]; exact hlt
            have hltc : i < crs.length := by rw [HC.out, List.length_map]; exact hlt'
            obtain ⟨b, off, rfl, hblt, _⟩ := SlR.open HRW.out.row (by simp; omega)
            have hra := (rm_at (SlR.keep HRW.out.row hb2) hlt').2
            have hre := HRW.out.each _ (List.getElem_mem hlt')
            have hcr : crs[i] = R[i].r := by simp [HC.out]
            have hon := Cf.one_ok (HONE.out _ (List.getElem_mem hltc))
            have hlen : ((crs.take i).flatMap Cf.ruleText).length + (Cf.ruleText crs[i]).length ≤ (crs.flatMap Cf.ruleText).length ∧ (crs.take (i + 1)).flatMap Cf.ruleText = (crs.take i).flatMap Cf.ruleText ++ Cf.ruleText crs[i] := by
              have e1 : (crs.take (i + 1)).flatMap Cf.ruleText = (crs.take i).flatMap Cf.ruleText ++ Cf.ruleText crs[i] := by
                rw [List.take_succ_eq_append_getElem hltc, List.flatMap_append, List.flatMap_cons, List.flatMap_nil, List.append_nil]
              refine ⟨?_, e1⟩
              have e2 : crs.flatMap Cf.ruleText = (crs.take (i + 1)).flatMap Cf.ruleText ++ (crs.drop (i + 1)).flatMap Cf.ruleText := by
                rw [← List.flatMap_append, List.take_append_drop]
              rw [e2, e1]
              simp
            obtain ⟨m, hm⟩ : ∃ m, R[i] = m := ⟨_, rfl⟩
            rw [hm] at hra hre hcr
            rw [hcr] at hon hlen
            obtain ⟨⟨rank, ps, tg, ap, st, dp, dt, mp, mi, sm⟩, mA, mcap⟩ := m
            have q0 : wr.cell? ⟨b, off + i * 10, none⟩ = some (.int .i64 rank) := hra 0 _ rfl
            have q1 := hra 1 _ rfl
            have q2 := hra 2 _ rfl
            have q3 := hra 3 _ rfl
            have q4 := hra 4 _ rfl
            have q5 := hra 5 _ rfl
            have q6 := hra 6 _ rfl
            have q7 := hra 7 _ rfl
            have q8 := hra 8 _ rfl
            have q9 := hra 9 _ rfl
            simp only at q1 q2 q3 q4 q5 q6 q7 q8 q9 hon hlen
            have hbx := Below.alloc' (Below.self wr) (.cells #[.int .i64 rank, .slice mA ps.length mcap, .string (bs tg), .int .i64 ap, .int .i64 st, .int .i64 dp, .int .i64 dt, .int .i64 mp, .string (bs mi), .int .i64 sm] 95)
            have hll := HTL.out
            have HCL := Stow.mk (cfRule_any (hs2.keep hbx) (Nat.le_trans hB2 hbx.size) (Nat.le_refl _) (hb2.trans (hbx.mono hb2.size)) HRB.out ⟨⟨rank, ps, tg, ap, st, dp, dt, mp, mi, sm⟩, mA, mcap⟩ hre (fun p hp => (Cf.pd_ok (hon.2.1 p hp)).1) hon.2.2.2 (by simp only [List.length_append]; omega))
            unfold Rm.cells at HCL
            have HT2 := Stow.mk hlen.2
            have hii : (i : Int) < n := by omega
            have hi0 : (0 : Int) ≤ i := by omega
            clear hra hre hcr hon hlen hm hbx hll hs2 hb2 HE
            go_wp2_with fail
            refine HCL.out.mono ?_
            rintro e w5 ⟨rfl, v5, hw5, hB5, hb5⟩
            have HE5 : Stow (∃ v', Wr w5 w1.heap.size (w1.heap.size + 1) v' (t0 ++ (crs.take (i + 1)).flatMap Cf.ruleText) ∧ Below w1.heap.size w1 w5 ∧ w1.heap.size + 1 ≤ w5.heap.size) := ⟨v5, by rw [HT2.out, ← List.append_assoc]; exact hw5, hb5, hB5⟩
            clear hw5 hB5 hb5 HCL q0 q1 q2 q3 q4 q5 q6 q7 q8 q9
            go_wp2_with fail
            exact ⟨⟨i + 1, by simp, by omega, HE5⟩, by simp [intOf]; omega⟩
          · obtain rfl : n = i := by omega
            have hii : ¬ (n : Int) < n := by omega
            rw [List.take_of_length_le (by rw [HC.out, List.length_map, HNL.out]; exact Nat.le_refl _)] at hs2
            have hbn := Below.alloc' (Below.self wr) (.cells #[.string (bs [101, 110, 100])] 9)
            have hlit := World.ownsRow_lit (base := wr.heap.size) (e := 9) (size := 1) wr #[.string (bs [101, 110, 100])] 1 (Nat.le_refl _) (by unfold maxLen; omega) rfl
            have hsl := slr_own_text (X := [[101, 110, 100]]) (n := 1) (by simpa [sv] using hlit) rfl
            have hll := HTL.out
            have HCL := Stow.mk (cfLine_any (hs2.keep hbn) (Nat.le_trans hB2 hbn.size) [[101, 110, 100]] (some ⟨wr.heap.size, 0, none⟩) 1 hsl (by simp) (by simp only [List.length_append]; omega))
            have HB2 := Stow.mk (hb2.trans (hbn.mono hb2.size))
            have HGO := Stow.mk (fun i (hi : i = w1.heap.size ∨ v2.ownBlock = some i) => show w1.heap.size ≤ i by
              rcases hi with rfl | hi
              · exact Nat.le_refl _
              · have := (World.ownsRow.lt hs2.row i hi).1; omega)
            have HFIN : Stow (t0 ++ crs.flatMap Cf.ruleText ++ ln [[101, 110, 100]] = Cf.text ⟨crs, cf⟩) := ⟨by unfold Cf.text; simp only; rw [HT0.out]⟩
            clear hs2 hb2 hbn hlit hsl hll HE
            go_wp2_with fail
            refine HCL.out.mono ?_
            rintro e w5 ⟨rfl, v5, hw5, ht5⟩
            rw [HFIN.out] at hw5
            have HB5 := Stow.mk (HB1.out.trans ((HB2.out.trans (ht5.below HGO.out HB2.out.size)).mono HB1.out.size))
            obtain ⟨A5, k5, rfl⟩ := own_form hw5.row
            have HROW := Stow.mk hw5.row
            have q0 := hw5.hd.cell (i := 0) rfl
            clear hw5 ht5 HCL
            go_wp2_with (refine wpList_string_row rfl (.tmp 33) 102 9 rfl (w1.heap.size + 1) 5 _ _ HROW.out Tryz.underlying102 Tryz.underlying5 Tryz.underlying9 rfl ?_)
            go_ret2
            exact ⟨rfl, HB5.out⟩
  · have HW : Stow (Cf.write c = ([], er)) := ⟨by unfold Cf.write; rw [if_pos (by rw [HER.out]; exact h0), HER.out]⟩
    have hnz : ¬ (er : Int) = 0 := by omega
    rw [HW.out]
    go_enter Tryz.func27, Tryz.ntmps27
    go_upto_region 1 with fail
    rw [HX.out]
    go_wp2_with fail
    refine HCK.out.mono ?_
    rintro e w1 ⟨rfl, hb1⟩
    have HB1 := Stow.mk (HB.out.trans (hb1.mono HB.out.size))
    clear hb1 p0 p1
    go_wp2_with fail
    go_ret2
    exact ⟨rfl, HB1.out⟩
end Go.Proofs.YtfbhdkkmcfnghaaGreatDoor
