/- Walks of the reference's words, predLine. Conditions: texts' lengths.; Walk of the reference's ruleText. Conditions: a rule that may be.; Walk of the reference's Write. Conditions: the config's memory. -/
import Derived.Test.YtfbhdkkmcfnghaaGreatDoorCfText
import Derived.Test.YtfbhdkkmcfnghaaGreatDoorCfRefCheck
import Derived.Deep.DeepCutAuto

section
namespace Go.Proofs.YtfbhdkkmcfnghaaGreatDoor
open Go.RowKit
set_option linter.unusedVariables false
set_option linter.unusedSimpArgs false

set_option maxHeartbeats 2000000 in
set_option maxRecDepth 100000 in
theorem refWords_any (w : World) : Calls Tryz.prog 153 #[] w fun e w' => ∃ g, e = .returned (.slice (some ⟨g, 0, none⟩) 7 7) ∧ Held w' g wordVals ∧ Below w.heap.size w w' := by
  have hb := Below.alloc' (Below.self w) (.cells wordVals.toArray 9)
  have HE : Stow (∀ W, W = w.alloc (.cells wordVals.toArray 9) → Held W w.heap.size wordVals ∧ Below w.heap.size w W) := ⟨by
    rintro W rfl
    exact ⟨Held.made w wordVals _, hb⟩⟩
  clear hb
  go_enter Tryz.func153, Tryz.ntmps153
  go_wp2_with fail
  go_ret
  exact ⟨w.heap.size, rfl, HE.out _ rfl⟩
set_option maxHeartbeats 2000000 in
set_option maxRecDepth 100000 in
theorem refLine_1 (n y : List UInt8) (w : World) (hn : n.length ≤ 32) (hy : y.length ≤ 64) : Calls Tryz.prog 115 #[.agg #[.int .i64 1, .string (bs n), .string (bs y)]] w fun e w' => e = .returned (.string (bs (ln [[109, 101, 116, 104, 111, 100], y]))) ∧ Below w.heap.size w w' := by
  have hp0 := Held.made w [.int .i64 1, .string (bs n), .string (bs y)] 98
  have hb0 := Below.alloc' (Below.self w) (.cells #[.int .i64 1, .string (bs n), .string (bs y)] 98)
  obtain ⟨W, hW⟩ : ∃ W, w.alloc (.cells #[.int .i64 1, .string (bs n), .string (bs y)] 98) = W := ⟨_, rfl⟩
  rw [show w.alloc (.cells [.int .i64 1, .string (bs n), .string (bs y)].toArray 98) = W from hW] at hp0
  rw [hW] at hb0
  have HX := Stow.mk hW
  have HP := Stow.mk hp0
  have HB := Stow.mk hb0
  have SF := Stow.mk (fun W' (hbw : Below W.heap.size W W') => (HP.out.kept hbw).cell (i := 0) rfl)
  have hkk := SF.out W (Below.self W)
  have k0 := SF.out W (Below.self W)
  clear hW hp0 hb0
  have hsp : (⟨#[32]⟩ : ByteArray) = bs [32] := rfl
  have hnl : (⟨#[10]⟩ : ByteArray) = bs [10] := rfl
  go_enter Tryz.func115, Tryz.ntmps115
  go_upto_region 1 with fail
  rw [HX.out]
  go_region_with (go_at_call 153; refine (refWords_any _).mono ?_; rintro e w1 ⟨gw, rfl, hw1, hb1⟩; have HBl := Stow.mk ((Below.drew (Below.self W)).trans hb1); have hkk := SF.out _ HBl.out; have HWV := Stow.mk hw1; have z := hw1.cell (i := 1) (v := .string (bs [109, 101, 116, 104, 111, 100])) rfl; clear hw1)
  all_goals
    have HP1 := Stow.mk (HP.out.kept HBl.out)
    have HB2 := Stow.mk (HB.out.trans (HBl.out.mono HB.out.size))
    clear hkk k0 hb1 SF z
    have p0 := HP1.out.cell (i := 0) rfl
    have p1 := HP1.out.cell (i := 1) rfl
    have p2 := HP1.out.cell (i := 2) rfl
    go_wp2_with fail
    go_ret
    refine ⟨?_, HB2.out⟩
    simp [ln, Lib.join]
set_option maxHeartbeats 2000000 in
set_option maxRecDepth 100000 in
theorem refLine_2 (n y : List UInt8) (w : World) (hn : n.length ≤ 32) (hy : y.length ≤ 64) : Calls Tryz.prog 115 #[.agg #[.int .i64 2, .string (bs n), .string (bs y)]] w fun e w' => e = .returned (.string (bs (ln [[104, 111, 115, 116], y]))) ∧ Below w.heap.size w w' := by
  have hp0 := Held.made w [.int .i64 2, .string (bs n), .string (bs y)] 98
  have hb0 := Below.alloc' (Below.self w) (.cells #[.int .i64 2, .string (bs n), .string (bs y)] 98)
  obtain ⟨W, hW⟩ : ∃ W, w.alloc (.cells #[.int .i64 2, .string (bs n), .string (bs y)] 98) = W := ⟨_, rfl⟩
  rw [show w.alloc (.cells [.int .i64 2, .string (bs n), .string (bs y)].toArray 98) = W from hW] at hp0
  rw [hW] at hb0
  have HX := Stow.mk hW
  have HP := Stow.mk hp0
  have HB := Stow.mk hb0
  have SF := Stow.mk (fun W' (hbw : Below W.heap.size W W') => (HP.out.kept hbw).cell (i := 0) rfl)
  have hkk := SF.out W (Below.self W)
  have k0 := SF.out W (Below.self W)
  clear hW hp0 hb0
  have hsp : (⟨#[32]⟩ : ByteArray) = bs [32] := rfl
  have hnl : (⟨#[10]⟩ : ByteArray) = bs [10] := rfl
  go_enter Tryz.func115, Tryz.ntmps115
  go_upto_region 1 with fail
  rw [HX.out]
  go_region_with (go_at_call 153; refine (refWords_any _).mono ?_; rintro e w1 ⟨gw, rfl, hw1, hb1⟩; have HBl := Stow.mk ((Below.drew (Below.self W)).trans hb1); have hkk := SF.out _ HBl.out; have HWV := Stow.mk hw1; have z := hw1.cell (i := 2) (v := .string (bs [104, 111, 115, 116])) rfl; clear hw1)
  all_goals
    have HP1 := Stow.mk (HP.out.kept HBl.out)
    have HB2 := Stow.mk (HB.out.trans (HBl.out.mono HB.out.size))
    clear hkk k0 hb1 SF z
    have p0 := HP1.out.cell (i := 0) rfl
    have p1 := HP1.out.cell (i := 1) rfl
    have p2 := HP1.out.cell (i := 2) rfl
    go_wp2_with fail
    go_ret
    refine ⟨?_, HB2.out⟩
    simp [ln, Lib.join]
set_option maxHeartbeats 2000000 in
set_option maxRecDepth 100000 in
theorem refLine_3 (n y : List UInt8) (w : World) (hn : n.length ≤ 32) (hy : y.length ≤ 64) : Calls Tryz.prog 115 #[.agg #[.int .i64 3, .string (bs n), .string (bs y)]] w fun e w' => e = .returned (.string (bs (ln [[101, 120, 97, 99, 116], y]))) ∧ Below w.heap.size w w' := by
  have hp0 := Held.made w [.int .i64 3, .string (bs n), .string (bs y)] 98
  have hb0 := Below.alloc' (Below.self w) (.cells #[.int .i64 3, .string (bs n), .string (bs y)] 98)
  obtain ⟨W, hW⟩ : ∃ W, w.alloc (.cells #[.int .i64 3, .string (bs n), .string (bs y)] 98) = W := ⟨_, rfl⟩
  rw [show w.alloc (.cells [.int .i64 3, .string (bs n), .string (bs y)].toArray 98) = W from hW] at hp0
  rw [hW] at hb0
  have HX := Stow.mk hW
  have HP := Stow.mk hp0
  have HB := Stow.mk hb0
  have SF := Stow.mk (fun W' (hbw : Below W.heap.size W W') => (HP.out.kept hbw).cell (i := 0) rfl)
  have hkk := SF.out W (Below.self W)
  have k0 := SF.out W (Below.self W)
  clear hW hp0 hb0
  have hsp : (⟨#[32]⟩ : ByteArray) = bs [32] := rfl
  have hnl : (⟨#[10]⟩ : ByteArray) = bs [10] := rfl
  go_enter Tryz.func115, Tryz.ntmps115
  go_upto_region 1 with fail
  rw [HX.out]
  go_region_with (go_at_call 153; refine (refWords_any _).mono ?_; rintro e w1 ⟨gw, rfl, hw1, hb1⟩; have HBl := Stow.mk ((Below.drew (Below.self W)).trans hb1); have hkk := SF.out _ HBl.out; have HWV := Stow.mk hw1; have z := hw1.cell (i := 3) (v := .string (bs [101, 120, 97, 99, 116])) rfl; clear hw1)
  all_goals
    have HP1 := Stow.mk (HP.out.kept HBl.out)
    have HB2 := Stow.mk (HB.out.trans (HBl.out.mono HB.out.size))
    clear hkk k0 hb1 SF z
    have p0 := HP1.out.cell (i := 0) rfl
    have p1 := HP1.out.cell (i := 1) rfl
    have p2 := HP1.out.cell (i := 2) rfl
    go_wp2_with fail
    go_ret
    refine ⟨?_, HB2.out⟩
    simp [ln, Lib.join]
set_option maxHeartbeats 2000000 in
set_option maxRecDepth 100000 in
theorem refLine_4 (n y : List UInt8) (w : World) (hn : n.length ≤ 32) (hy : y.length ≤ 64) : Calls Tryz.prog 115 #[.agg #[.int .i64 4, .string (bs n), .string (bs y)]] w fun e w' => e = .returned (.string (bs (ln [[112, 114, 101, 102, 105, 120], y]))) ∧ Below w.heap.size w w' := by
  have hp0 := Held.made w [.int .i64 4, .string (bs n), .string (bs y)] 98
  have hb0 := Below.alloc' (Below.self w) (.cells #[.int .i64 4, .string (bs n), .string (bs y)] 98)
  obtain ⟨W, hW⟩ : ∃ W, w.alloc (.cells #[.int .i64 4, .string (bs n), .string (bs y)] 98) = W := ⟨_, rfl⟩
  rw [show w.alloc (.cells [.int .i64 4, .string (bs n), .string (bs y)].toArray 98) = W from hW] at hp0
  rw [hW] at hb0
  have HX := Stow.mk hW
  have HP := Stow.mk hp0
  have HB := Stow.mk hb0
  have SF := Stow.mk (fun W' (hbw : Below W.heap.size W W') => (HP.out.kept hbw).cell (i := 0) rfl)
  have hkk := SF.out W (Below.self W)
  have k0 := SF.out W (Below.self W)
  clear hW hp0 hb0
  have hsp : (⟨#[32]⟩ : ByteArray) = bs [32] := rfl
  have hnl : (⟨#[10]⟩ : ByteArray) = bs [10] := rfl
  go_enter Tryz.func115, Tryz.ntmps115
  go_upto_region 1 with fail
  rw [HX.out]
  go_region_with (go_at_call 153; refine (refWords_any _).mono ?_; rintro e w1 ⟨gw, rfl, hw1, hb1⟩; have HBl := Stow.mk ((Below.drew (Below.self W)).trans hb1); have hkk := SF.out _ HBl.out; have HWV := Stow.mk hw1; have z := hw1.cell (i := 4) (v := .string (bs [112, 114, 101, 102, 105, 120])) rfl; clear hw1)
  all_goals
    have HP1 := Stow.mk (HP.out.kept HBl.out)
    have HB2 := Stow.mk (HB.out.trans (HBl.out.mono HB.out.size))
    clear hkk k0 hb1 SF z
    have p0 := HP1.out.cell (i := 0) rfl
    have p1 := HP1.out.cell (i := 1) rfl
    have p2 := HP1.out.cell (i := 2) rfl
    go_wp2_with fail
    go_ret
    refine ⟨?_, HB2.out⟩
    simp [ln, Lib.join]
set_option maxHeartbeats 2000000 in
set_option maxRecDepth 100000 in
theorem refLine_5 (n y : List UInt8) (w : World) (hn : n.length ≤ 32) (hy : y.length ≤ 64) : Calls Tryz.prog 115 #[.agg #[.int .i64 5, .string (bs n), .string (bs y)]] w fun e w' => e = .returned (.string (bs (ln [[104, 101, 97, 100], n, y]))) ∧ Below w.heap.size w w' := by
  have hp0 := Held.made w [.int .i64 5, .string (bs n), .string (bs y)] 98
  have hb0 := Below.alloc' (Below.self w) (.cells #[.int .i64 5, .string (bs n), .string (bs y)] 98)
  obtain ⟨W, hW⟩ : ∃ W, w.alloc (.cells #[.int .i64 5, .string (bs n), .string (bs y)] 98) = W := ⟨_, rfl⟩
  rw [show w.alloc (.cells [.int .i64 5, .string (bs n), .string (bs y)].toArray 98) = W from hW] at hp0
  rw [hW] at hb0
  have HX := Stow.mk hW
  have HP := Stow.mk hp0
  have HB := Stow.mk hb0
  have SF := Stow.mk (fun W' (hbw : Below W.heap.size W W') => (HP.out.kept hbw).cell (i := 0) rfl)
  have hkk := SF.out W (Below.self W)
  have k0 := SF.out W (Below.self W)
  clear hW hp0 hb0
  have hsp : (⟨#[32]⟩ : ByteArray) = bs [32] := rfl
  have hnl : (⟨#[10]⟩ : ByteArray) = bs [10] := rfl
  go_enter Tryz.func115, Tryz.ntmps115
  go_upto_region 1 with fail
  rw [HX.out]
  go_region_with (go_at_call 153; refine (refWords_any _).mono ?_; rintro e w1 ⟨gw, rfl, hw1, hb1⟩; have HBl := Stow.mk ((Below.drew (Below.self W)).trans hb1); have hkk := SF.out _ HBl.out; have HWV := Stow.mk hw1; have z := hw1.cell (i := 5) (v := .string (bs [104, 101, 97, 100])) rfl; clear hw1)
  all_goals
    have HP1 := Stow.mk (HP.out.kept HBl.out)
    have HB2 := Stow.mk (HB.out.trans (HBl.out.mono HB.out.size))
    clear hkk k0 hb1 SF z
    have p0 := HP1.out.cell (i := 0) rfl
    have p1 := HP1.out.cell (i := 1) rfl
    have p2 := HP1.out.cell (i := 2) rfl
    go_wp2_with fail
    go_ret
    refine ⟨?_, HB2.out⟩
    simp [ln, Lib.join]
set_option maxHeartbeats 2000000 in
set_option maxRecDepth 100000 in
theorem refLine_6 (n y : List UInt8) (w : World) (hn : n.length ≤ 32) (hy : y.length ≤ 64) : Calls Tryz.prog 115 #[.agg #[.int .i64 6, .string (bs n), .string (bs y)]] w fun e w' => e = .returned (.string (bs (ln [[104, 97, 115], n]))) ∧ Below w.heap.size w w' := by
  have hp0 := Held.made w [.int .i64 6, .string (bs n), .string (bs y)] 98
  have hb0 := Below.alloc' (Below.self w) (.cells #[.int .i64 6, .string (bs n), .string (bs y)] 98)
  obtain ⟨W, hW⟩ : ∃ W, w.alloc (.cells #[.int .i64 6, .string (bs n), .string (bs y)] 98) = W := ⟨_, rfl⟩
  rw [show w.alloc (.cells [.int .i64 6, .string (bs n), .string (bs y)].toArray 98) = W from hW] at hp0
  rw [hW] at hb0
  have HX := Stow.mk hW
  have HP := Stow.mk hp0
  have HB := Stow.mk hb0
  have SF := Stow.mk (fun W' (hbw : Below W.heap.size W W') => (HP.out.kept hbw).cell (i := 0) rfl)
  have hkk := SF.out W (Below.self W)
  have k0 := SF.out W (Below.self W)
  clear hW hp0 hb0
  have hsp : (⟨#[32]⟩ : ByteArray) = bs [32] := rfl
  have hnl : (⟨#[10]⟩ : ByteArray) = bs [10] := rfl
  go_enter Tryz.func115, Tryz.ntmps115
  go_upto_region 1 with fail
  rw [HX.out]
  go_region_with (go_at_call 153; refine (refWords_any _).mono ?_; rintro e w1 ⟨gw, rfl, hw1, hb1⟩; have HBl := Stow.mk ((Below.drew (Below.self W)).trans hb1); have hkk := SF.out _ HBl.out; have HWV := Stow.mk hw1; have z := hw1.cell (i := 6) (v := .string (bs [104, 97, 115])) rfl; clear hw1)
  all_goals
    have HP1 := Stow.mk (HP.out.kept HBl.out)
    have HB2 := Stow.mk (HB.out.trans (HBl.out.mono HB.out.size))
    clear hkk k0 hb1 SF z
    have p0 := HP1.out.cell (i := 0) rfl
    have p1 := HP1.out.cell (i := 1) rfl
    have p2 := HP1.out.cell (i := 2) rfl
    go_wp2_with fail
    go_ret
    refine ⟨?_, HB2.out⟩
    simp [ln, Lib.join]
theorem refLine_any (p : Pd) (w : World) (hp : p.err = 0) : Calls Tryz.prog 115 #[.agg p.cells.toArray] w fun e w' => e = .returned (.string (bs (ln p.words))) ∧ Below w.heap.size w w' := by
  obtain ⟨k, n, y⟩ := p
  obtain ⟨hk, hn, hy⟩ := Cf.pd_ok hp
  simp only at hk hn hy
  obtain rfl | rfl | rfl | rfl | rfl | rfl : k = 1 ∨ k = 2 ∨ k = 3 ∨ k = 4 ∨ k = 5 ∨ k = 6 := by omega
  · exact refLine_1 n y w hn hy
  · exact refLine_2 n y w hn hy
  · exact refLine_3 n y w hn hy
  · exact refLine_4 n y w hn hy
  · exact refLine_5 n y w hn hy
  · exact refLine_6 n y w hn hy
end Go.Proofs.YtfbhdkkmcfnghaaGreatDoor
end

section
namespace Go.Proofs.YtfbhdkkmcfnghaaGreatDoor
open Go.RowKit
set_option linter.unusedVariables false
set_option linter.unusedSimpArgs false

theorem Cf.parts_len {r : Ru} (h : Cf.one r = 0) : (Cf.lnRank r).length ≤ 30 ∧ (Cf.lnTo r).length ≤ 40 ∧ (Cf.lnAb r).length ≤ 60 ∧ (Cf.lnDe r).length ≤ 60 ∧ (Cf.lnMi r).length ≤ 70 := by
  obtain ⟨h4, hp, hn, hr⟩ := Cf.one_ok h
  obtain ⟨t1, t2⟩ := Cf.names_len hn
  have i1 := Cf.itoa_len (hr r.rank (by simp [Cf.nums]))
  have i2 := Cf.itoa_len (hr r.ap (by simp [Cf.nums]))
  have i3 := Cf.itoa_len (hr r.st (by simp [Cf.nums]))
  have i4 := Cf.itoa_len (hr r.dp (by simp [Cf.nums]))
  have i5 := Cf.itoa_len (hr r.dt (by simp [Cf.nums]))
  have i6 := Cf.itoa_len (hr r.mp (by simp [Cf.nums]))
  refine ⟨?_, ?_, ?_, ?_, ?_⟩
  · unfold Cf.lnRank
    simp only [List.map_cons, List.map_nil]
    rw [Cf.ln_two]; simp; omega
  · unfold Cf.lnTo; rw [Cf.ln_two]; simp; omega
  · unfold Cf.lnAb
    split
    · simp only [List.map_cons, List.map_nil]; rw [Cf.ln_three]; simp; omega
    · simp
  · unfold Cf.lnDe
    split
    · simp only [List.map_cons, List.map_nil]; rw [Cf.ln_three]; simp; omega
    · simp
  · unfold Cf.lnMi
    split
    · rw [Cf.ln_three]; simp; omega
    · simp
/-- Amid a rule's text: the rule's box. -/
structure RdS (W0 w : World) (x : Nat) (cs : List Value) : Prop where
  hx : Held w x cs
  bel : Below W0.heap.size W0 w
theorem RdS.keep {W0 w w' : World} {x : Nat} {cs : List Value} (h : RdS W0 w x cs) (hb : Below w.heap.size w w') : RdS W0 w' x cs := ⟨h.hx.kept hb, h.bel.trans (hb.mono h.bel.size)⟩
set_option maxHeartbeats 4000000 in
set_option maxRecDepth 100000 in
theorem refRuleText_any {w : World} (m : Rm) (hm : RmR w m) (hone : Cf.one m.r = 0) :
    Calls Tryz.prog 61 #[.agg m.cells.toArray] w fun e w' => e = .returned (.string (bs (Cf.ruleText m.r))) ∧ Below w.heap.size w w' := by
  obtain ⟨⟨rank, ps, tg, ap, st, dp, dt, mp, mi, sm⟩, A, cap⟩ := m
  obtain ⟨h4, hk, hnm, hn⟩ := Cf.one_ok hone
  obtain ⟨lt, lm⟩ := Cf.names_len hnm
  have lP := Cf.lnPs_len hk
  obtain ⟨lRk, lTo, lAb, lDe, lMi⟩ := Cf.parts_len hone
  simp only at h4 lt lm lP lRk lTo lAb lDe lMi
  have lPs : ∀ i, (Cf.lnPs (ps.take i)).length ≤ 440 := fun i => by
    have h1 := Cf.lnPs_len (ps := ps.take i) (fun p hp => hk p (List.mem_of_mem_take hp))
    have h2 : (ps.take i).length ≤ ps.length := List.length_take_le' _ _
    omega
  have LPS := Stow.mk lPs
  clear lPs hnm hone
  have HM := Stow.mk hm
  have HK := Stow.mk hk
  have HNR := Stow.mk (hn rank (by simp [Cf.nums]))
  have lrank := Cf.itoa_len (hn rank (by simp [Cf.nums]))
  have HNA := Stow.mk (hn ap (by simp [Cf.nums]))
  have lap := Cf.itoa_len (hn ap (by simp [Cf.nums]))
  have HNS := Stow.mk (hn st (by simp [Cf.nums]))
  have lst := Cf.itoa_len (hn st (by simp [Cf.nums]))
  have HND := Stow.mk (hn dp (by simp [Cf.nums]))
  have ldp := Cf.itoa_len (hn dp (by simp [Cf.nums]))
  have HNT := Stow.mk (hn dt (by simp [Cf.nums]))
  have ldt := Cf.itoa_len (hn dt (by simp [Cf.nums]))
  have HNM := Stow.mk (hn mp (by simp [Cf.nums]))
  have lmp := Cf.itoa_len (hn mp (by simp [Cf.nums]))
  have HNX := Stow.mk (hn sm (by simp [Cf.nums]))
  have lsm := Cf.itoa_len (hn sm (by simp [Cf.nums]))
  obtain ⟨n, hnn⟩ : ∃ n, ps.length = n := ⟨_, rfl⟩
  have HNL := Stow.mk hnn
  have hnl : n ≤ 9223372036854775807 := by have := SlR.len hm.row; rw [List.length_map] at this; simp only at this; omega
  unfold Rm.cells
  simp only
  rw [hnn]
  clear hm hk hn hnn
  have hp0 := Held.made w [.int .i64 rank, .slice A n cap, .string (bs tg), .int .i64 ap, .int .i64 st, .int .i64 dp, .int .i64 dt, .int .i64 mp, .string (bs mi), .int .i64 sm] 95
  have hb0 := Below.alloc' (Below.self w) (.cells #[.int .i64 rank, .slice A n cap, .string (bs tg), .int .i64 ap, .int .i64 st, .int .i64 dp, .int .i64 dt, .int .i64 mp, .string (bs mi), .int .i64 sm] 95)
  obtain ⟨W, hW⟩ : ∃ W, w.alloc (.cells #[.int .i64 rank, .slice A n cap, .string (bs tg), .int .i64 ap, .int .i64 st, .int .i64 dp, .int .i64 dt, .int .i64 mp, .string (bs mi), .int .i64 sm] 95) = W := ⟨_, rfl⟩
  rw [show w.alloc (.cells [.int .i64 rank, .slice A n cap, .string (bs tg), .int .i64 ap, .int .i64 st, .int .i64 dp, .int .i64 dt, .int .i64 mp, .string (bs mi), .int .i64 sm].toArray 95) = W from hW] at hp0
  rw [hW] at hb0
  have HX := Stow.mk hW
  have HS : Stow (RdS w W w.heap.size [.int .i64 rank, .slice A n cap, .string (bs tg), .int .i64 ap, .int .i64 st, .int .i64 dp, .int .i64 dt, .int .i64 mp, .string (bs mi), .int .i64 sm]) := ⟨⟨hp0, hb0⟩⟩
  clear hW hp0 hb0
  have hsp : (⟨#[32]⟩ : ByteArray) = bs [32] := rfl
  have hnw : (⟨#[10]⟩ : ByteArray) = bs [10] := rfl
  have hrl : (⟨#[114, 117, 108, 101, 32]⟩ : ByteArray) = bs [114, 117, 108, 101, 32] := rfl
  have hto : (⟨#[116, 111, 32]⟩ : ByteArray) = bs [116, 111, 32] := rfl
  have hab : (⟨#[97, 98, 111, 114, 116, 32]⟩ : ByteArray) = bs [97, 98, 111, 114, 116, 32] := rfl
  have hde : (⟨#[100, 101, 108, 97, 121, 32]⟩ : ByteArray) = bs [100, 101, 108, 97, 121, 32] := rfl
  have hmi : (⟨#[109, 105, 114, 114, 111, 114, 32]⟩ : ByteArray) = bs [109, 105, 114, 114, 111, 114, 32] := rfl
  have hsa : (⟨#[115, 97, 109, 112, 108, 101, 32]⟩ : ByteArray) = bs [115, 97, 109, 112, 108, 101, 32] := rfl
  go_enter Tryz.func61, Tryz.ntmps61
  go_upto_region 1 with fail
  rw [HX.out]
  have q0 := HS.out.hx.cell (i := 0) rfl
  go_wp2_with fail
  refine (refDigits_any _ rank (Nat.le_refl _) W (by have := HNR.out; omega) (by have := HNR.out; omega)).mono ?_
  rintro e w1 ⟨rfl, hb1⟩
  have HS1 := Stow.mk (HS.out.keep hb1)
  clear HS q0 hb1
  have HS := HS1
  clear HS1
  go_wp2_with fail
  obtain ⟨t1, ht1⟩ : ∃ t, Cf.lnRank ⟨rank, ps, tg, ap, st, dp, dt, mp, mi, sm⟩ = t := ⟨_, rfl⟩
  rw [ht1] at lRk
  have HTT := Stow.mk ht1
  clear ht1
  have HSP : Stow (∀ i (hi : i < ps.length), Cf.lnPs (ps.take (i + 1)) = Cf.lnPs (ps.take i) ++ ln ps[i].words) := ⟨fun i hi => by
    unfold Cf.lnPs
    rw [List.take_succ_eq_append_getElem hi, List.flatMap_append, List.flatMap_cons, List.flatMap_nil, List.append_nil]⟩
  go_loopw [3, 4] (fun s u wr => ∃ i : Nat, s = .string (bs (t1 ++ Cf.lnPs (ps.take i))) ∧ u = .int .i64 (i : Int) ∧ i ≤ n ∧ Stow (RdS w wr w.heap.size [.int .i64 rank, .slice A n cap, .string (bs tg), .int .i64 ap, .int .i64 st, .int .i64 dp, .int .i64 dt, .int .i64 mp, .string (bs mi), .int .i64 sm])) (fun _ u _ => n - (intOf u).toNat)
  case atStart => exact ⟨0, by rw [← HTT.out]; simp [Cf.lnPs, Cf.lnRank, ln, Lib.join], rfl, by omega, HS⟩
  case round =>
    obtain ⟨i, rfl, rfl, hi, HE⟩ := hrel
    clear HS
    have HS := HE
    clear HE
    by_cases hlt : i < n
    · have hlt' : i < ps.length := by rw [HNL.out]; exact hlt
      obtain ⟨b, off, rfl, hblt, _⟩ := SlR.open HM.out.row (by simp; omega)
      obtain ⟨q0, q1, q2⟩ := pd_at (SlR.keep HM.out.row HS.out.bel) hlt'
      have hkp := HK.out _ (List.getElem_mem hlt')
      have lpi := LPS.out i
      have lwi := Cf.words_len hkp
      have hsp2 := HSP.out i hlt'
      obtain ⟨p, hp⟩ : ∃ p, ps[i] = p := ⟨_, rfl⟩
      rw [hp] at q0 q1 q2 hkp hsp2 lwi
      obtain ⟨k, pn, pv⟩ := p
      simp only at q0 q1 q2
      have HCL := Stow.mk (refLine_any ⟨k, pn, pv⟩ wr hkp)
      unfold Pd.cells at HCL
      have HT2 := Stow.mk hsp2
      have hii : (i : Int) < n := by omega
      have hi0 : (0 : Int) ≤ i := by omega
      have p1 := HS.out.hx.cell (i := 1) rfl
      clear hp hsp2 hkp
      go_wp2_with fail
      refine HCL.out.mono ?_
      rintro e w3 ⟨rfl, hb3⟩
      have HS3 := Stow.mk (HS.out.keep hb3)
      clear q0 q1 q2 p1 HCL HS
      go_wp2_with fail
      exact ⟨⟨i + 1, by rw [HT2.out]; try simp, by simp, by omega, HS3⟩, by simp [intOf]; omega⟩
    · obtain rfl : n = i := by omega
      have hii : ¬ (n : Int) < n := by omega
      rw [List.take_of_length_le (by rw [HNL.out]; exact Nat.le_refl _)]
      have p1 := HS.out.hx.cell (i := 1) rfl
      have q2 := HS.out.hx.cell (i := 2) rfl
      go_upto_region 6 with fail
      go_cut [3] (fun pv wx => pv = .string (bs (t1 ++ Cf.lnPs ps ++ Cf.lnTo ⟨rank, ps, tg, ap, st, dp, dt, mp, mi, sm⟩)) ∧ wx = wr)
      case first =>
        go_wp2_with fail
        go_meet
        exact ⟨by simp [Cf.lnTo, ln, Lib.join], rfl⟩
      case rest =>
        obtain ⟨rfl, rfl⟩ := hcut
        clear p1 q2
        obtain ⟨wq6, hwq⟩ : ∃ W, W = wc := ⟨_, rfl⟩
        subst hwq
        obtain ⟨t2, ht2⟩ : ∃ t, t1 ++ Cf.lnPs ps ++ Cf.lnTo ⟨rank, ps, tg, ap, st, dp, dt, mp, mi, sm⟩ = t := ⟨_, rfl⟩
        rw [ht2]
        have l2 : t2.length ≤ 510 := by rw [← ht2]; simp only [List.length_append]; omega
        have HQ2 := Stow.mk ht2
        clear ht2
        go_upto_region 7 with fail
        go_cut [38] (fun bv wx => bv = .bool (decide (ap ≠ 0 ∨ st ≠ 0)) ∧ wx = wq6)
        case first =>
          have q3 := HS.out.hx.cell (i := 3) rfl
          have q4 := HS.out.hx.cell (i := 4) rfl
          obtain ⟨b1, h1⟩ : ∃ b, (ap != 0) = b := ⟨_, rfl⟩
          obtain ⟨b2, h2⟩ : ∃ b, (st != 0) = b := ⟨_, rfl⟩
          have HD : Stow (decide (ap ≠ 0 ∨ st ≠ 0) = (b1 || b2)) := ⟨by rw [← h1, ← h2]; by_cases e1 : ap = 0 <;> by_cases e2 : st = 0 <;> simp [e1, e2]⟩
          cases b1 with
          | false =>
            cases b2 with
            | false =>
              go_wp2_with fail
              go_meet
              exact ⟨by rw [HD.out]; rfl, rfl⟩
            | true =>
              go_wp2_with fail
              go_meet
              exact ⟨by rw [HD.out]; rfl, rfl⟩
          | true =>
            go_wp2_with fail
            go_meet
            exact ⟨by rw [HD.out]; rfl, rfl⟩
        case rest =>
          obtain ⟨rfl, rfl⟩ := hcut
          obtain ⟨c, hc⟩ : ∃ c, decide (ap ≠ 0 ∨ st ≠ 0) = c := ⟨_, rfl⟩
          rw [hc]
          have HC := Stow.mk hc
          clear hc
          go_upto_if 38 with fail
          go_cut [3] (fun pv wx => pv = .string (bs (t2 ++ Cf.lnAb ⟨rank, ps, tg, ap, st, dp, dt, mp, mi, sm⟩)) ∧ Stow (RdS w wx w.heap.size [.int .i64 rank, .slice A n cap, .string (bs tg), .int .i64 ap, .int .i64 st, .int .i64 dp, .int .i64 dt, .int .i64 mp, .string (bs mi), .int .i64 sm]))
          case first =>
            cases c with
            | false =>
              have HOP : Stow (Cf.lnAb ⟨rank, ps, tg, ap, st, dp, dt, mp, mi, sm⟩ = []) := ⟨by have h := HC.out; unfold Cf.lnAb; rw [if_neg (by simpa using h)]⟩
              go_wp2_with fail
              go_meet
              exact ⟨by rw [HOP.out]; simp, HS⟩
            | true =>
              have HOP : Stow (Cf.lnAb ⟨rank, ps, tg, ap, st, dp, dt, mp, mi, sm⟩ = ln [[97, 98, 111, 114, 116], Lib.itoa ap, Lib.itoa st]) := ⟨by have h := HC.out; unfold Cf.lnAb; rw [if_pos (by simpa using h)]; rfl⟩
              have f1 : ¬ (9223372036854775807 < t2.length + 6) := by omega
              have f2 : ¬ (9223372036854775807 < t2.length + 6 + (Lib.itoa ap).length) := by omega
              have f3 : ¬ (9223372036854775807 < t2.length + 6 + (Lib.itoa ap).length + 1) := by omega
              have f4 : ¬ (9223372036854775807 < t2.length + 6 + (Lib.itoa ap).length + 1 + (Lib.itoa st).length) := by omega
              have f5 : ¬ (9223372036854775807 < t2.length + 6 + (Lib.itoa ap).length + 1 + (Lib.itoa st).length + 1) := by omega
              have hltx := HS.out.hx.lt
              have g7 : ∀ x : Later wc.heap.size wc, x.1.cell? ⟨w.heap.size, 3, none⟩ = _ := fun x => x.cell (HS.out.hx.cell (i := 3) rfl) hltx
              have g8 : ∀ x : Later wc.heap.size wc, x.1.cell? ⟨w.heap.size, 4, none⟩ = _ := fun x => x.cell (HS.out.hx.cell (i := 4) rfl) hltx
              have KD : Stow (∀ (x : Later wc.heap.size wc) (n : Int), n = ap ∨ n = st → Calls Tryz.prog 114 #[.int .i64 n] x.1 fun e w' => e = .returned (.string (bs (Lib.itoa n))) ∧ Below x.1.heap.size x.1 w') := ⟨fun x n hn => refDigits_any _ n (Nat.le_refl _) x.1 (by have := HNA.out; have := HNS.out; omega) (by have := HNA.out; have := HNS.out; omega)⟩
              go_upto_region 8 with fail
              refine wp_region_later wc.heap.size (by kernel_rfl) (by kernel_rfl) ?_
              repeat (go_big_quiet_step ((go_at_call 114; exact Calls.later (Nat.le_refl _) (KD.out _ _ (by simp)))))
              refine wpQuiet_nil ?_
              rintro ⟨wx, hbx⟩
              have HS7 := Stow.mk (HS.out.keep hbx)
              clear g7 g8
              go_wp2_with fail
              go_meet
              exact ⟨by rw [HOP.out]; simp [ln, Lib.join], HS7⟩
          case rest =>
            obtain ⟨rfl, HE⟩ := hcut
            clear HS HC
            have HS := HE
            clear HE
            obtain ⟨wq8, hwq⟩ : ∃ W, W = wc := ⟨_, rfl⟩
            subst hwq
            obtain ⟨t3, ht3⟩ : ∃ t, t2 ++ Cf.lnAb ⟨rank, ps, tg, ap, st, dp, dt, mp, mi, sm⟩ = t := ⟨_, rfl⟩
            rw [ht3]
            have l3 : t3.length ≤ 590 := by rw [← ht3]; simp only [List.length_append]; omega
            have HQ3 := Stow.mk ht3
            clear ht3
            go_upto_region 9 with fail
            go_cut [58] (fun bv wx => bv = .bool (decide (dp ≠ 0 ∨ dt ≠ 0)) ∧ wx = wq8)
            case first =>
              have q3 := HS.out.hx.cell (i := 5) rfl
              have q4 := HS.out.hx.cell (i := 6) rfl
              obtain ⟨b1, h1⟩ : ∃ b, (dp != 0) = b := ⟨_, rfl⟩
              obtain ⟨b2, h2⟩ : ∃ b, (dt != 0) = b := ⟨_, rfl⟩
              have HD : Stow (decide (dp ≠ 0 ∨ dt ≠ 0) = (b1 || b2)) := ⟨by rw [← h1, ← h2]; by_cases e1 : dp = 0 <;> by_cases e2 : dt = 0 <;> simp [e1, e2]⟩
              cases b1 with
              | false =>
                cases b2 with
                | false =>
                  go_wp2_with fail
                  go_meet
                  exact ⟨by rw [HD.out]; rfl, rfl⟩
                | true =>
                  go_wp2_with fail
                  go_meet
                  exact ⟨by rw [HD.out]; rfl, rfl⟩
              | true =>
                go_wp2_with fail
                go_meet
                exact ⟨by rw [HD.out]; rfl, rfl⟩
            case rest =>
              obtain ⟨rfl, rfl⟩ := hcut
              obtain ⟨c, hc⟩ : ∃ c, decide (dp ≠ 0 ∨ dt ≠ 0) = c := ⟨_, rfl⟩
              rw [hc]
              have HC := Stow.mk hc
              clear hc
              go_upto_if 58 with fail
              go_cut [3] (fun pv wx => pv = .string (bs (t3 ++ Cf.lnDe ⟨rank, ps, tg, ap, st, dp, dt, mp, mi, sm⟩)) ∧ Stow (RdS w wx w.heap.size [.int .i64 rank, .slice A n cap, .string (bs tg), .int .i64 ap, .int .i64 st, .int .i64 dp, .int .i64 dt, .int .i64 mp, .string (bs mi), .int .i64 sm]))
              case first =>
                cases c with
                | false =>
                  have HOP : Stow (Cf.lnDe ⟨rank, ps, tg, ap, st, dp, dt, mp, mi, sm⟩ = []) := ⟨by have h := HC.out; unfold Cf.lnDe; rw [if_neg (by simpa using h)]⟩
                  go_wp2_with fail
                  go_meet
                  exact ⟨by rw [HOP.out]; simp, HS⟩
                | true =>
                  have HOP : Stow (Cf.lnDe ⟨rank, ps, tg, ap, st, dp, dt, mp, mi, sm⟩ = ln [[100, 101, 108, 97, 121], Lib.itoa dp, Lib.itoa dt]) := ⟨by have h := HC.out; unfold Cf.lnDe; rw [if_pos (by simpa using h)]; rfl⟩
                  have f1 : ¬ (9223372036854775807 < t3.length + 6) := by omega
                  have f2 : ¬ (9223372036854775807 < t3.length + 6 + (Lib.itoa dp).length) := by omega
                  have f3 : ¬ (9223372036854775807 < t3.length + 6 + (Lib.itoa dp).length + 1) := by omega
                  have f4 : ¬ (9223372036854775807 < t3.length + 6 + (Lib.itoa dp).length + 1 + (Lib.itoa dt).length) := by omega
                  have f5 : ¬ (9223372036854775807 < t3.length + 6 + (Lib.itoa dp).length + 1 + (Lib.itoa dt).length + 1) := by omega
                  have hltx := HS.out.hx.lt
                  have g7 : ∀ x : Later wc.heap.size wc, x.1.cell? ⟨w.heap.size, 5, none⟩ = _ := fun x => x.cell (HS.out.hx.cell (i := 5) rfl) hltx
                  have g8 : ∀ x : Later wc.heap.size wc, x.1.cell? ⟨w.heap.size, 6, none⟩ = _ := fun x => x.cell (HS.out.hx.cell (i := 6) rfl) hltx
                  have KD : Stow (∀ (x : Later wc.heap.size wc) (n : Int), n = dp ∨ n = dt → Calls Tryz.prog 114 #[.int .i64 n] x.1 fun e w' => e = .returned (.string (bs (Lib.itoa n))) ∧ Below x.1.heap.size x.1 w') := ⟨fun x n hn => refDigits_any _ n (Nat.le_refl _) x.1 (by have := HND.out; have := HNT.out; omega) (by have := HND.out; have := HNT.out; omega)⟩
                  go_upto_region 10 with fail
                  refine wp_region_later wc.heap.size (by kernel_rfl) (by kernel_rfl) ?_
                  repeat (go_big_quiet_step ((go_at_call 114; exact Calls.later (Nat.le_refl _) (KD.out _ _ (by simp)))))
                  refine wpQuiet_nil ?_
                  rintro ⟨wx, hbx⟩
                  have HS7 := Stow.mk (HS.out.keep hbx)
                  clear g7 g8
                  go_wp2_with fail
                  go_meet
                  exact ⟨by rw [HOP.out]; simp [ln, Lib.join], HS7⟩
              case rest =>
                obtain ⟨rfl, HE⟩ := hcut
                clear HS HC
                have HS := HE
                clear HE
                obtain ⟨wq10, hwq⟩ : ∃ W, W = wc := ⟨_, rfl⟩
                subst hwq
                obtain ⟨t4, ht4⟩ : ∃ t, t3 ++ Cf.lnDe ⟨rank, ps, tg, ap, st, dp, dt, mp, mi, sm⟩ = t := ⟨_, rfl⟩
                rw [ht4]
                have l4 : t4.length ≤ 670 := by rw [← ht4]; simp only [List.length_append]; omega
                have HQ4 := Stow.mk ht4
                clear ht4
                go_upto_region 11 with fail
                go_cut [73] (fun bv wx => bv = .bool (!mi.isEmpty) ∧ wx = wq10)
                case first =>
                  have q8 := HS.out.hx.cell (i := 8) rfl
                  go_wp2_with fail
                  go_meet
                  exact ⟨rfl, rfl⟩
                case rest =>
                  obtain ⟨rfl, rfl⟩ := hcut
                  obtain ⟨c, hc⟩ : ∃ c, (!mi.isEmpty) = c := ⟨_, rfl⟩
                  rw [hc]
                  have HC := Stow.mk hc
                  clear hc
                  go_upto_if 73 with fail
                  go_cut [3] (fun pv wx => pv = .string (bs (t4 ++ Cf.lnMi ⟨rank, ps, tg, ap, st, dp, dt, mp, mi, sm⟩)) ∧ Stow (RdS w wx w.heap.size [.int .i64 rank, .slice A n cap, .string (bs tg), .int .i64 ap, .int .i64 st, .int .i64 dp, .int .i64 dt, .int .i64 mp, .string (bs mi), .int .i64 sm]))
                  case first =>
                    cases c with
                    | false =>
                      have HOP : Stow (Cf.lnMi ⟨rank, ps, tg, ap, st, dp, dt, mp, mi, sm⟩ = []) := ⟨by have h := HC.out; unfold Cf.lnMi; rw [if_neg (by simpa using h)]⟩
                      go_wp2_with fail
                      go_meet
                      exact ⟨by rw [HOP.out]; simp, HS⟩
                    | true =>
                      have HOP : Stow (Cf.lnMi ⟨rank, ps, tg, ap, st, dp, dt, mp, mi, sm⟩ = ln [[109, 105, 114, 114, 111, 114], Lib.itoa mp, mi]) := ⟨by have h := HC.out; unfold Cf.lnMi; rw [if_pos (by simpa using h)]⟩
                      have f1 : ¬ (9223372036854775807 < t4.length + 7) := by omega
                      have f2 : ¬ (9223372036854775807 < t4.length + 7 + (Lib.itoa mp).length) := by omega
                      have f3 : ¬ (9223372036854775807 < t4.length + 7 + (Lib.itoa mp).length + 1) := by omega
                      have f4 : ¬ (9223372036854775807 < t4.length + 7 + (Lib.itoa mp).length + 1 + mi.length) := by omega
                      have f5 : ¬ (9223372036854775807 < t4.length + 7 + (Lib.itoa mp).length + 1 + mi.length + 1) := by omega
                      have hltx := HS.out.hx.lt
                      have g7 : ∀ x : Later wc.heap.size wc, x.1.cell? ⟨w.heap.size, 7, none⟩ = _ := fun x => x.cell (HS.out.hx.cell (i := 7) rfl) hltx
                      have g8 : ∀ x : Later wc.heap.size wc, x.1.cell? ⟨w.heap.size, 8, none⟩ = _ := fun x => x.cell (HS.out.hx.cell (i := 8) rfl) hltx
                      have KD : Stow (∀ (x : Later wc.heap.size wc) (n : Int), n = mp ∨ n = mp → Calls Tryz.prog 114 #[.int .i64 n] x.1 fun e w' => e = .returned (.string (bs (Lib.itoa n))) ∧ Below x.1.heap.size x.1 w') := ⟨fun x n hn => refDigits_any _ n (Nat.le_refl _) x.1 (by have := HNM.out; have := HNM.out; omega) (by have := HNM.out; have := HNM.out; omega)⟩
                      go_upto_region 12 with fail
                      refine wp_region_later wc.heap.size (by kernel_rfl) (by kernel_rfl) ?_
                      repeat (go_big_quiet_step ((go_at_call 114; exact Calls.later (Nat.le_refl _) (KD.out _ _ (by simp)))))
                      refine wpQuiet_nil ?_
                      rintro ⟨wx, hbx⟩
                      have HS7 := Stow.mk (HS.out.keep hbx)
                      clear g7 g8
                      go_wp2_with fail
                      go_meet
                      exact ⟨by rw [HOP.out]; simp [ln, Lib.join], HS7⟩
                  case rest =>
                    obtain ⟨rfl, HE⟩ := hcut
                    clear HS HC
                    have HS := HE
                    clear HE
                    obtain ⟨wq13, hwq⟩ : ∃ W, W = wc := ⟨_, rfl⟩
                    subst hwq
                    obtain ⟨t5, ht5⟩ : ∃ t, t4 ++ Cf.lnMi ⟨rank, ps, tg, ap, st, dp, dt, mp, mi, sm⟩ = t := ⟨_, rfl⟩
                    rw [ht5]
                    have l5 : t5.length ≤ 750 := by rw [← ht5]; simp only [List.length_append]; omega
                    have HQ5 := Stow.mk ht5
                    clear ht5
                    go_upto_region 13 with fail
                    have q9 := HS.out.hx.cell (i := 9) rfl
                    by_cases h1 : sm = 0
                    · have HOP : Stow (t5 = Cf.ruleText ⟨rank, ps, tg, ap, st, dp, dt, mp, mi, sm⟩) := ⟨by unfold Cf.ruleText; rw [HTT.out, HQ2.out, HQ3.out, HQ4.out, HQ5.out, show Cf.lnSa ⟨rank, ps, tg, ap, st, dp, dt, mp, mi, sm⟩ = [] by unfold Cf.lnSa; rw [if_neg (by simpa using h1)]]; simp⟩
                      have h1b : (sm != 0) = false := by simp [h1]
                      clear h1
                      go_wp2_with fail
                      go_ret
                      refine ⟨?_, HS.out.bel⟩
                      rw [← HOP.out]
                      try simp
                    · have HOP : Stow (Cf.ruleText ⟨rank, ps, tg, ap, st, dp, dt, mp, mi, sm⟩ = t5 ++ ln [[115, 97, 109, 112, 108, 101], Lib.itoa sm]) := ⟨by unfold Cf.ruleText; rw [HTT.out, HQ2.out, HQ3.out, HQ4.out, HQ5.out, show Cf.lnSa ⟨rank, ps, tg, ap, st, dp, dt, mp, mi, sm⟩ = ln ([115, 97, 109, 112, 108, 101] :: [sm].map Lib.itoa) by unfold Cf.lnSa; rw [if_pos (by simpa using h1)]]; rfl⟩
                      go_wp2_with fail
                      refine (refDigits_any _ sm (Nat.le_refl _) _ (by have := HNX.out; omega) (by have := HNX.out; omega)).mono ?_
                      rintro e w7 ⟨rfl, hb7⟩
                      have HS7 := Stow.mk (HS.out.keep hb7)
                      clear q9 hb7
                      go_wp2_with fail
                      go_ret
                      refine ⟨?_, HS7.out.bel⟩
                      show _ = Ending.returned (.string (bs (Cf.ruleText ⟨rank, ps, tg, ap, st, dp, dt, mp, mi, sm⟩)))
                      rw [HOP.out]
                      simp [ln, Lib.join]
end Go.Proofs.YtfbhdkkmcfnghaaGreatDoor
end

section
namespace Go.Proofs.YtfbhdkkmcfnghaaGreatDoor
open Go.RowKit
set_option linter.unusedVariables false
set_option linter.unusedSimpArgs false

set_option maxHeartbeats 4000000 in
set_option maxRecDepth 100000 in
theorem refWrite13_any (c : Cf) (A : Option Addr) (cap : Nat) (R : List Rm) (w : World) (h : RsR w A cap R) (hc : c.rs = R.map Rm.r) (hf : c.f.length ≤ 140737488355328) :
    Calls Tryz.prog 28 #[.agg #[.slice A R.length cap, .string (bs c.f)]] w fun e w' => e = .returned (.tuple #[.string (bs (Cf.write c).1), .int .i64 ((Cf.write c).2 : Nat)]) ∧ Below w.heap.size w w' := by
  have hp0 := Held.made w [.slice A R.length cap, .string (bs c.f)] 54
  have hb0 := Below.alloc' (Below.self w) (.cells #[.slice A R.length cap, .string (bs c.f)] 54)
  obtain ⟨W, hW⟩ : ∃ W, w.alloc (.cells #[.slice A R.length cap, .string (bs c.f)] 54) = W := ⟨_, rfl⟩
  rw [show w.alloc (.cells [.slice A R.length cap, .string (bs c.f)].toArray 54) = W from hW] at hp0
  rw [hW] at hb0
  have HX := Stow.mk hW
  have HP := Stow.mk hp0
  have HB := Stow.mk hb0
  have HC := Stow.mk hc
  have HRS := Stow.mk (h.keep hb0)
  have HCK := Stow.mk (refCheck13_any c A cap R W (h.keep hb0) hc hf)
  obtain ⟨n, hn⟩ : ∃ n, R.length = n := ⟨_, rfl⟩
  have HNL := Stow.mk hn
  have hnl : n ≤ 9223372036854775807 := by have := SlR.len h.row; rw [List.length_map] at this; omega
  rw [hn] at HX HP HCK
  obtain ⟨er, her⟩ : ∃ e, Cf.check c = e := ⟨_, rfl⟩
  rw [her] at HCK
  have HER := Stow.mk her
  have p0 := HP.out.cell (i := 0) rfl
  have p1 := HP.out.cell (i := 1) rfl
  rw [hn]
  clear h hW hp0 hb0 hc her hn
  by_cases h0 : er = 0
  · subst h0
    have HW : Stow (Cf.write c = (Cf.text c, 0)) := ⟨by unfold Cf.write; rw [if_neg (by simp [HER.out])]⟩
    obtain ⟨hf120, hr16, hones⟩ := Cf.check_ok HER.out
    have HONE := Stow.mk hones
    have htl := Cf.text_len HER.out
    rw [HW.out]
    obtain ⟨crs, cf⟩ := c
    simp only at HC HP p1 HX HONE hf120 hr16 htl ⊢
    have htl' : (if cf ≠ [] then ln [[102, 111, 114, 109, 97, 116], cf] else []).length + (crs.flatMap Cf.ruleText).length + (ln [[101, 110, 100]]).length ≤ 20000 := by
      unfold Cf.text at htl
      simp only [List.length_append] at htl
      exact htl
    have HTL := Stow.mk htl'
    clear hones htl htl'
    have hfo : (⟨#[102, 111, 114, 109, 97, 116, 32]⟩ : ByteArray) = bs [102, 111, 114, 109, 97, 116, 32] := rfl
    have hnw : (⟨#[10]⟩ : ByteArray) = bs [10] := rfl
    have hen : (⟨#[101, 110, 100, 10]⟩ : ByteArray) = bs [101, 110, 100, 10] := rfl
    go_enter Tryz.func28, Tryz.ntmps28
    go_upto_region 1 with fail
    rw [HX.out]
    go_wp2_with fail
    refine HCK.out.mono ?_
    rintro e w1 ⟨rfl, hb1⟩
    have HP1 := Stow.mk (HP.out.kept hb1)
    have HB1 := Stow.mk (Below.call HB.out hb1)
    have HR1 := Stow.mk (HRS.out.keep hb1)
    clear hb1 p0 p1 HX HP HB HRS HCK
    have p0 := HP1.out.cell (i := 0) rfl
    have p1 := HP1.out.cell (i := 1) rfl
    go_upto_region 4 with fail
    go_cut [13] (fun bv wx => bv = .bool (!cf.isEmpty) ∧ wx = w1)
    case first =>
      go_wp2_with fail
      go_meet
      exact ⟨rfl, rfl⟩
    case rest =>
      obtain ⟨rfl, hw1⟩ := hcut
      obtain rfl : w1 = wc := hw1.symm
      obtain ⟨bc, hbc⟩ : ∃ c, (!cf.isEmpty) = c := ⟨_, rfl⟩
      rw [hbc]
      have HBC := Stow.mk hbc
      clear hbc
      go_upto_if 13 with fail
      go_cut [4] (fun pv wx => pv = .string (bs (if cf ≠ [] then ln [[102, 111, 114, 109, 97, 116], cf] else [])) ∧ wx = w1)
      case first =>
        cases bc with
        | false =>
          have HOP : Stow ((if cf ≠ [] then ln [[102, 111, 114, 109, 97, 116], cf] else []) = []) := ⟨by have h := HBC.out; rw [if_neg (by simpa using h)]⟩
          go_wp2_with fail
          go_meet
          exact ⟨by rw [HOP.out]; rfl, rfl⟩
        | true =>
          have HOP : Stow ((if cf ≠ [] then ln [[102, 111, 114, 109, 97, 116], cf] else []) = [102, 111, 114, 109, 97, 116, 32] ++ cf ++ [10]) := ⟨by have h := HBC.out; rw [if_pos (by simpa using h)]; simp [ln, Lib.join]⟩
          go_wp2_with fail
          go_meet
          exact ⟨by rw [HOP.out]; simp, rfl⟩
      case rest =>
        obtain ⟨rfl, hw1⟩ := hcut
        obtain rfl : w1 = wc := hw1.symm
        obtain ⟨t0, ht0⟩ : ∃ t, (if cf ≠ [] then ln [[102, 111, 114, 109, 97, 116], cf] else []) = t := ⟨_, rfl⟩
        rw [ht0] at HTL ⊢
        have HT0 := Stow.mk ht0
        clear ht0 HBC p0 p1
        go_wp2_with fail
        go_loopw [4, 5] (fun sv u wr => ∃ i : Nat, sv = .string (bs (t0 ++ (crs.take i).flatMap Cf.ruleText)) ∧ u = .int .i64 (i : Int) ∧ i ≤ n ∧ Stow (Below w1.heap.size w1 wr)) (fun _ u _ => n - (intOf u).toNat)
        case atStart => exact ⟨0, by simp, rfl, by omega, ⟨Below.self _⟩⟩
        case round =>
          obtain ⟨i, rfl, rfl, hi, HE⟩ := hrel
          have p0 := (HP1.out.kept HE.out).cell (i := 0) rfl
          by_cases hlt : i < n
          · have hlt' : i < R.length := by rw [HNL.out]; exact hlt
            have hltc : i < crs.length := by rw [HC.out, List.length_map]; exact hlt'
            obtain ⟨b, off, rfl, hblt, _⟩ := SlR.open HR1.out.row (by simp; omega)
            have hra := (rm_at (SlR.keep HR1.out.row HE.out) hlt').2
            have hre := (HR1.out.each _ (List.getElem_mem hlt')).keep HE.out
            have hcr : crs[i] = R[i].r := by simp [HC.out]
            have hon := HONE.out _ (List.getElem_mem hltc)
            have hlen : ((crs.take i).flatMap Cf.ruleText).length + (Cf.ruleText crs[i]).length ≤ (crs.flatMap Cf.ruleText).length ∧ (crs.take (i + 1)).flatMap Cf.ruleText = (crs.take i).flatMap Cf.ruleText ++ Cf.ruleText crs[i] := by
              have e1 : (crs.take (i + 1)).flatMap Cf.ruleText = (crs.take i).flatMap Cf.ruleText ++ Cf.ruleText crs[i] := by
                rw [List.take_succ_eq_append_getElem hltc, List.flatMap_append, List.flatMap_cons, List.flatMap_nil, List.append_nil]
              refine ⟨?_, e1⟩
              have e2 : crs.flatMap Cf.ruleText = (crs.take (i + 1)).flatMap Cf.ruleText ++ (crs.drop (i + 1)).flatMap Cf.ruleText := by
                rw [← List.flatMap_append, List.take_append_drop]
              rw [e2, e1]
              simp
            obtain ⟨m, hm⟩ : ∃ m, R[i] = m := ⟨_, rfl⟩
            rw [hm] at hra hre hcr
            rw [hcr] at hon hlen
            obtain ⟨⟨rank, ps, tg, ap, st, dp, dt, mp, mi, sm⟩, mA, mcap⟩ := m
            have q0 : wr.cell? ⟨b, off + i * 10, none⟩ = some (.int .i64 rank) := hra 0 _ rfl
            have q1 := hra 1 _ rfl
            have q2 := hra 2 _ rfl
            have q3 := hra 3 _ rfl
            have q4 := hra 4 _ rfl
            have q5 := hra 5 _ rfl
            have q6 := hra 6 _ rfl
            have q7 := hra 7 _ rfl
            have q8 := hra 8 _ rfl
            have q9 := hra 9 _ rfl
            simp only at q1 q2 q3 q4 q5 q6 q7 q8 q9 hon hlen
            have HCL := Stow.mk (refRuleText_any ⟨⟨rank, ps, tg, ap, st, dp, dt, mp, mi, sm⟩, mA, mcap⟩ hre hon)
            unfold Rm.cells at HCL
            simp only at HCL
            have HT2 := Stow.mk hlen.2
            have hll := HTL.out
            have hl2 := hlen.1
            obtain ⟨rt, hrt⟩ : ∃ t, Cf.ruleText ⟨rank, ps, tg, ap, st, dp, dt, mp, mi, sm⟩ = t := ⟨_, rfl⟩
            obtain ⟨st0, hst⟩ : ∃ t, t0 ++ (crs.take i).flatMap Cf.ruleText = t := ⟨_, rfl⟩
            have HST := Stow.mk hst
            have hsl : st0.length ≤ 20000 := by rw [← hst]; simp only [List.length_append]; omega
            have hrl : rt.length ≤ 20000 := by rw [← hrt]; omega
            rw [hrt] at HCL HT2
            rw [hst]
            have hii : (i : Int) < n := by omega
            have hi0 : (0 : Int) ≤ i := by omega
            clear hra hre hcr hon hlen hm hrt hst hl2
            go_wp2_with fail
            refine HCL.out.mono ?_
            rintro e w5 ⟨rfl, hb5⟩
            have HE5 : Stow (Below w1.heap.size w1 w5) := ⟨Below.call HE.out hb5⟩
            clear hb5 HCL q0 q1 q2 q3 q4 q5 q6 q7 q8 q9 p0
            go_wp2_with fail
            exact ⟨⟨i + 1, by rw [HT2.out, ← HST.out]; simp, by simp, by omega, HE5⟩, by simp [intOf]; omega⟩
          · obtain rfl : n = i := by omega
            have hii : ¬ (n : Int) < n := by omega
            have HFIN : Stow (t0 ++ (crs.take n).flatMap Cf.ruleText ++ [101, 110, 100, 10] = Cf.text ⟨crs, cf⟩) := ⟨by
              rw [List.take_of_length_le (by rw [HC.out, List.length_map, HNL.out]; exact Nat.le_refl _)]
              unfold Cf.text
              simp only
              rw [HT0.out]
              simp [ln, Lib.join]⟩
            obtain ⟨st0, hst⟩ : ∃ t, t0 ++ (crs.take n).flatMap Cf.ruleText = t := ⟨_, rfl⟩
            have hsl : st0.length ≤ 20000 := by
              have := HTL.out
              rw [← hst, List.take_of_length_le (by rw [HC.out, List.length_map, HNL.out]; exact Nat.le_refl _)]
              simp only [List.length_append]; omega
            rw [hst] at HFIN ⊢
            clear hst
            go_wp2_with fail
            go_ret2
            exact ⟨by rw [← HFIN.out]; simp, Below.trans HB1.out (HE.out.mono HB1.out.size)⟩
  · have HW : Stow (Cf.write c = ([], er)) := ⟨by unfold Cf.write; rw [if_pos (by rw [HER.out]; exact h0), HER.out]⟩
    have hnz : ((er : Int) == 0) = false := by simp; omega
    have hnz2 : ((er : Int) != 0) = true := by simp; omega
    have HCK2 := Stow.mk (fun W' (hb : Below W.heap.size W W') => refCheck13_any c A cap R W' (HRS.out.keep hb) HC.out hf)
    rw [HNL.out, HER.out] at HCK2
    rw [HW.out]
    go_enter Tryz.func28, Tryz.ntmps28
    go_upto_region 1 with fail
    rw [HX.out]
    go_wp2_with fail
    refine HCK.out.mono ?_
    rintro e w1 ⟨rfl, hb1⟩
    have HP1 := Stow.mk (HP.out.kept hb1)
    have HB1 := Stow.mk (Below.call HB.out hb1)
    have HCK3 := Stow.mk (HCK2.out w1 hb1)
    clear hb1 p0 p1
    have p0 := HP1.out.cell (i := 0) rfl
    have p1 := HP1.out.cell (i := 1) rfl
    go_wp2_with fail
    refine HCK3.out.mono ?_
    rintro e w2 ⟨rfl, hb2⟩
    have HB2 := Stow.mk (Below.call HB1.out hb2)
    clear hb2
    go_wp2_with fail
    go_ret2
    exact ⟨rfl, HB2.out⟩
end Go.Proofs.YtfbhdkkmcfnghaaGreatDoor
end
