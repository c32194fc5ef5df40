/- Walk of the config's writer: rule. Conditions: the writer's memory; a rule that may be; texts no longer than an address space; the library's table of powers. -/
import Derived.Test.YtfbhdkkmcfnghaaGreatDoorCfWr3
import Derived.Deep.DeepCutAuto
namespace Go.Proofs.YtfbhdkkmcfnghaaGreatDoor
open Go.RowKit
set_option linter.unusedVariables false
set_option linter.unusedSimpArgs false

theorem brow_apart {w : World} {B x : Nat} {e : TypeId} {v : Value} {l : List UInt8} {a : Int} {r : List Value} (h : BRow w B e v l) (hl : l ≠ []) (hx : Held w x (.int .i64 a :: r)) : v.ownBlock ≠ some x := fun he => by
  obtain ⟨A, cap, rfl⟩ := own_form h
  have h0 : 0 < l.length := List.length_pos_iff.2 hl
  obtain ⟨k, cap', hv, _, _⟩ := World.ownsRow.form h h0
  simp only [Value.slice.injEq] at hv
  obtain ⟨rfl, _, rfl⟩ := hv
  have hk : k = x := by simpa [Value.ownBlock] using he
  subst hk
  have h1 := hx.cell (i := 0) rfl
  have h2 := World.ownsRow.cells h rfl 0 (.int .u8 (l[0].toNat : Int)) (by simp [h0])
  rw [Addr.add_lit] at h2
  rw [h1] at h2
  cases h2
theorem slr_own_int {w : World} {B : Nat} {v : Value} {n : Nat} {e : TypeId} {xs : List Value} {ns : List Int} (h : w.ownsRow B e 1 v n xs) (hx : xs = ns.map fun n => Value.int .i64 n) (hn : ns.length = n) : SlR w 1 v (ns.map fun n => [Value.int .i64 n]) := by
  subst hx
  refine SlR.of_own h (by simpa using hn) (fun i x hx j u hu => ?_)
  rw [List.getElem?_map] at hx
  obtain ⟨y, hy, rfl⟩ := Option.map_eq_some_iff.1 hx
  cases j with
  | zero =>
    simp only [List.getElem?_cons_zero, Option.some.injEq] at hu
    subst hu
    rw [Nat.mul_one, Nat.add_zero, List.getElem?_map, hy]
    rfl
  | succ j => simp at hu
/-- Amid a rule: the writer, and the rule's box. -/
structure RuS (W0 w : World) (g B x : Nat) (cs : List Value) (v : Value) (l : List UInt8) : Prop where
  wr : Wr w g B v l
  hx : Held w x cs
  bel : Below W0.heap.size W0 w
  hB : B ≤ w.heap.size
theorem RuS.keep {W0 w w' : World} {g B x : Nat} {cs : List Value} {v : Value} {l : List UInt8} (h : RuS W0 w g B x cs v l) (hb : Below w.heap.size w w') : RuS W0 w' g B x cs v l := ⟨h.wr.keep hb, h.hx.kept hb, h.bel.trans (hb.mono h.bel.size), Nat.le_trans h.hB hb.size⟩
theorem RuS.step {W0 w w' : World} {g B x : Nat} {cs : List Value} {v v' : Value} {l l' : List UInt8} (h : RuS W0 w g B x cs v l) (hg : W0.heap.size ≤ g) (hxg : x ≠ g) (hv : v.ownBlock ≠ some x) (hw : Wr w' g B v' l') (ht : Turn (fun k => k = g ∨ v.ownBlock = some k) w w') : RuS W0 w' g B x cs v' l' := by
  refine ⟨hw, h.hx.turn ht (fun hf => ?_), h.bel.trans (ht.below (fun i hi => ?_) h.bel.size), Nat.le_trans h.hB ht.size⟩
  · rcases hf with hf | hf
    · exact hxg hf
    · exact hv hf
  · rcases hi with rfl | hi
    · exact hg
    · have := (World.ownsRow.lt h.wr.row i hi).1
      have := h.wr.gB
      omega
namespace Cf
def rl : List UInt8 := [114, 117, 108, 101]
def lnRank (r : Ru) : List UInt8 := ln ([114, 117, 108, 101] :: [r.rank].map Lib.itoa)
def lnPs (ps : List Pd) : List UInt8 := ps.flatMap fun p => ln p.words
def lnTo (r : Ru) : List UInt8 := ln [[116, 111], r.tg]
def lnAb (r : Ru) : List UInt8 := if r.ap ≠ 0 ∨ r.st ≠ 0 then ln ([97, 98, 111, 114, 116] :: [r.ap, r.st].map Lib.itoa) else []
def lnDe (r : Ru) : List UInt8 := if r.dp ≠ 0 ∨ r.dt ≠ 0 then ln ([100, 101, 108, 97, 121] :: [r.dp, r.dt].map Lib.itoa) else []
def lnMi (r : Ru) : List UInt8 := if r.mi ≠ [] then ln [[109, 105, 114, 114, 111, 114], Lib.itoa r.mp, r.mi] else []
def lnSa (r : Ru) : List UInt8 := if r.sm ≠ 0 then ln ([115, 97, 109, 112, 108, 101] :: [r.sm].map Lib.itoa) else []
def ruleText (r : Ru) : List UInt8 := lnRank r ++ lnPs r.ps ++ lnTo r ++ lnAb r ++ lnDe r ++ lnMi r ++ lnSa r
end Cf
set_option maxHeartbeats 4000000 in
set_option maxRecDepth 100000 in
theorem cfRule_any {W0 w : World} {g B : Nat} {v : Value} {l : List UInt8} (h : Wr w g B v l) (hB : B ≤ w.heap.size) (hW0 : W0.heap.size ≤ g) (hbw : Below W0.heap.size W0 w) (hP : Pow10 W0) (m : Rm) (hm : RmR W0 m) (hk : ∀ p ∈ m.r.ps, 1 ≤ p.k ∧ p.k ≤ 6) (hn : ∀ n ∈ Cf.nums m.r, 0 ≤ n ∧ n ≤ 999999) (hb : l.length + (Cf.ruleText m.r).length ≤ 140737488355328) :
    Calls Tryz.prog 60 #[.pointer (some ⟨g, 0, none⟩), .agg m.cells.toArray] w fun e w' => e = .returned (.tuple #[]) ∧ ∃ v', Wr w' g B v' (l ++ Cf.ruleText m.r) ∧ B ≤ w'.heap.size ∧ Below W0.heap.size W0 w' := by
  obtain ⟨⟨rank, ps, tg, ap, st, dp, dt, mp, mi, sm⟩, A, cap⟩ := m
  have HM := Stow.mk hm
  have HK := Stow.mk hk
  have HPW := Stow.mk hP
  have HNR := Stow.mk (hn rank (by simp [Cf.nums]))
  have HNA := Stow.mk (hn ap (by simp [Cf.nums]))
  have HNS := Stow.mk (hn st (by simp [Cf.nums]))
  have HND := Stow.mk (hn dp (by simp [Cf.nums]))
  have HNT := Stow.mk (hn dt (by simp [Cf.nums]))
  have HNM := Stow.mk (hn mp (by simp [Cf.nums]))
  have HNX := Stow.mk (hn sm (by simp [Cf.nums]))
  have hlen : l.length + (Cf.lnRank ⟨rank, ps, tg, ap, st, dp, dt, mp, mi, sm⟩).length + (Cf.lnPs ps).length + (Cf.lnTo ⟨rank, ps, tg, ap, st, dp, dt, mp, mi, sm⟩).length + (Cf.lnAb ⟨rank, ps, tg, ap, st, dp, dt, mp, mi, sm⟩).length + (Cf.lnDe ⟨rank, ps, tg, ap, st, dp, dt, mp, mi, sm⟩).length + (Cf.lnMi ⟨rank, ps, tg, ap, st, dp, dt, mp, mi, sm⟩).length + (Cf.lnSa ⟨rank, ps, tg, ap, st, dp, dt, mp, mi, sm⟩).length ≤ 140737488355328 := by
    unfold Cf.ruleText at hb
    simp only [List.length_append] at hb
    omega
  obtain ⟨n, hnn⟩ : ∃ n, ps.length = n := ⟨_, rfl⟩
  have HNL := Stow.mk hnn
  have hnl : n ≤ 9223372036854775807 := by have := SlR.len hm.row; rw [List.length_map] at this; simp only at this; omega
  have hv0 : v.ownBlock ≠ some w.heap.size := fun e => by have := (World.ownsRow.lt h.row _ e).2; omega
  have hxg : w.heap.size ≠ g := by have := h.hd.lt; omega
  have HOV := Stow.mk hv0
  unfold Rm.cells
  simp only
  rw [hnn]
  have hS0 : RuS W0 w g B 0 [] v l → True := fun _ => trivial
  have HW := Stow.mk h
  have HBW := Stow.mk hbw
  clear h hbw hP hm hk hn hb hnn hv0 hS0
  have hp0 := Held.made w [.int .i64 rank, .slice A n cap, .string (bs tg), .int .i64 ap, .int .i64 st, .int .i64 dp, .int .i64 dt, .int .i64 mp, .string (bs mi), .int .i64 sm] 95
  have HB := Stow.mk (Below.alloc' (Below.self w) (.cells #[.int .i64 rank, .slice A n cap, .string (bs tg), .int .i64 ap, .int .i64 st, .int .i64 dp, .int .i64 dt, .int .i64 mp, .string (bs mi), .int .i64 sm] 95))
  obtain ⟨W, hW⟩ : ∃ W, w.alloc (.cells #[.int .i64 rank, .slice A n cap, .string (bs tg), .int .i64 ap, .int .i64 st, .int .i64 dp, .int .i64 dt, .int .i64 mp, .string (bs mi), .int .i64 sm] 95) = W := ⟨_, rfl⟩
  rw [show w.alloc (.cells [.int .i64 rank, .slice A n cap, .string (bs tg), .int .i64 ap, .int .i64 st, .int .i64 dp, .int .i64 dt, .int .i64 mp, .string (bs mi), .int .i64 sm].toArray 95) = W from hW] at hp0
  rw [hW] at HB
  have HW := Stow.mk hW
  have HP := Stow.mk hp0
  clear hp0 hW
  go_enter Tryz.func60, Tryz.ntmps60
  go_upto_region 1 with fail
  rw [HW.out]
  clear HW
  have HS : Stow (RuS W0 W g B w.heap.size [.int .i64 rank, .slice A n cap, .string (bs tg), .int .i64 ap, .int .i64 st, .int .i64 dp, .int .i64 dt, .int .i64 mp, .string (bs mi), .int .i64 sm] v l) := ⟨⟨HW.out.keep HB.out, HP.out, HBW.out.trans (HB.out.mono HBW.out.size), Nat.le_trans hB HB.out.size⟩⟩
  clear HW HB HBW HP
  have q0 := HS.out.hx.cell (i := 0) rfl
  have hbn := Below.alloc' (Below.self W) (.cells #[.int .i64 rank] 3)
  have HS1 := Stow.mk (HS.out.keep hbn)
  have hsl := slr_own_int (World.ownsRow_lit (base := W.heap.size) (e := 3) (size := 1) W #[.int .i64 rank] 1 (Nat.le_refl _) (by unfold maxLen; omega) rfl) (ns := [rank]) rfl rfl
  have HCL := Stow.mk (cfNumbers_any HS1.out.wr HS1.out.hB (HPW.out.keep HS1.out.bel) [114, 117, 108, 101] [rank] (some ⟨W.heap.size, 0, none⟩) 1 hsl (by intro q hq; simp at hq; subst hq; exact HNR.out) (by simp) (by unfold Cf.lnRank at hlen; simp only at hlen; omega))
  clear hbn hsl
  go_wp2_with fail
  refine HCL.out.mono ?_
  rintro e w1 ⟨rfl, v1, hw1, ht1⟩
  have HS := Stow.mk (HS1.out.step hW0 hxg HOV.out hw1 ht1)
  clear hw1 ht1 HCL HS1 q0 HOV
  have q1 := HS.out.hx.cell (i := 1) rfl
  go_wp2_with fail
  clear q1
  have HS : Stow (RuS W0 w1 g B w.heap.size [.int .i64 rank, .slice A n cap, .string (bs tg), .int .i64 ap, .int .i64 st, .int .i64 dp, .int .i64 dt, .int .i64 mp, .string (bs mi), .int .i64 sm] v1 (l ++ Cf.lnRank ⟨rank, ps, tg, ap, st, dp, dt, mp, mi, sm⟩)) := HS
  obtain ⟨t1, ht1⟩ : ∃ t, Cf.lnRank ⟨rank, ps, tg, ap, st, dp, dt, mp, mi, sm⟩ = t := ⟨_, rfl⟩
  have hne1 : l ++ t1 ≠ [] := by
    rw [← ht1]
    unfold Cf.lnRank ln
    simp
  rw [ht1] at HS hlen
  have HNE := Stow.mk hne1
  have HSP : Stow (∀ i (hi : i < ps.length), (Cf.lnPs (ps.take i)).length + (ln ps[i].words).length ≤ (Cf.lnPs ps).length ∧ Cf.lnPs (ps.take (i + 1)) = Cf.lnPs (ps.take i) ++ ln ps[i].words) := ⟨fun i hi => by
    have e1 : Cf.lnPs (ps.take (i + 1)) = Cf.lnPs (ps.take i) ++ ln ps[i].words := by
      unfold Cf.lnPs
      rw [List.take_succ_eq_append_getElem hi, List.flatMap_append, List.flatMap_cons, List.flatMap_nil, List.append_nil]
    refine ⟨?_, e1⟩
    have e2 : Cf.lnPs ps = Cf.lnPs (ps.take (i + 1)) ++ Cf.lnPs (ps.drop (i + 1)) := by
      unfold Cf.lnPs
      rw [← List.flatMap_append, List.take_append_drop]
    rw [e2, e1]
    simp⟩
  have HLEN := Stow.mk hlen
  have HT1 := Stow.mk ht1
  clear ht1 hne1 hlen
  go_loopw [5, 14] (fun _ u wr => ∃ i : Nat, u = .int .i64 (i : Int) ∧ i ≤ n ∧ Stow (∃ v', RuS W0 wr g B w.heap.size [.int .i64 rank, .slice A n cap, .string (bs tg), .int .i64 ap, .int .i64 st, .int .i64 dp, .int .i64 dt, .int .i64 mp, .string (bs mi), .int .i64 sm] v' (l ++ t1 ++ Cf.lnPs (ps.take i)))) (fun _ u _ => n - (intOf u).toNat)
  case atStart => exact ⟨0, rfl, by omega, ⟨v1, by simpa [Cf.lnPs] using HS.out⟩⟩
  case round =>
    obtain ⟨i, rfl, hi, HE⟩ := hrel
    obtain ⟨v2, hs2⟩ := HE.out
    clear HS
    have HS := Stow.mk hs2
    by_cases hlt : i < n
    · have hlt' : i < ps.length := by rw [HNL.out]; exact hlt
      obtain ⟨b, off, rfl, hblt, _⟩ := SlR.open HM.out.row (by simp; omega)
      obtain ⟨q0, q1, q2⟩ := pd_at (SlR.keep HM.out.row hs2.bel) hlt'
      have hkp := HK.out _ (List.getElem_mem hlt')
      obtain ⟨hsp1, hsp2⟩ := HSP.out i hlt'
      obtain ⟨p, hp⟩ : ∃ p, ps[i] = p := ⟨_, rfl⟩
      rw [hp] at q0 q1 q2 hkp hsp1 hsp2
      obtain ⟨k, pn, pv⟩ := p
      simp only at q0 q1 q2 hkp
      have hbx := Below.alloc' (Below.self wr) (.cells #[.int .i64 k, .string (bs pn), .string (bs pv)] 98)
      have HS1 := Stow.mk (hs2.keep hbx)
      have hv2 : v2.ownBlock ≠ some w.heap.size := brow_apart hs2.wr.row (by have := HNE.out; simp at this ⊢; intro h1 h2; exact absurd h2 (this h1)) hs2.hx
      have hll := HLEN.out
      have HCL := Stow.mk (cfPred_any HS1.out.wr HS1.out.hB ⟨k, pn, pv⟩ hkp (by simp only [List.length_append]; omega))
      unfold Pd.cells at HCL
      have HT2 := Stow.mk hsp2
      have HV2 := Stow.mk hv2
      have hii : (i : Int) < n := by omega
      have hi0 : (0 : Int) ≤ i := by omega
      clear hbx hs2 hp hsp1 hsp2 hv2 hkp hll HE
      go_wp2_with fail
      refine HCL.out.mono ?_
      rintro e w3 ⟨rfl, v3, hw3, ht3⟩
      have HS3 := Stow.mk (HS1.out.step hW0 hxg HV2.out hw3 ht3)
      clear hw3 ht3 q0 q1 q2 HCL
      go_wp2_with fail
      exact ⟨⟨i + 1, by simp, by omega, ⟨v3, by rw [HT2.out, ← List.append_assoc]; exact HS3.out⟩⟩, by simp [intOf]; omega⟩
    · obtain rfl : n = i := by omega
      have hii : ¬ (n : Int) < n := by omega
      rw [List.take_of_length_le (by rw [HNL.out]; exact Nat.le_refl _)] at HS
      clear hs2 HE
      have hwb := HS.out.hx.cell (i := 2) rfl
      have hbn := Below.alloc' (Below.self wr) (.cells #[.string (bs [116, 111]), .string (bs tg)] 9)
      have HS1 := Stow.mk (HS.out.keep hbn)
      have hlit := World.ownsRow_lit (base := wr.heap.size) (e := 9) (size := 1) wr #[.string (bs [116, 111]), .string (bs tg)] 2 (Nat.le_refl _) (by unfold maxLen; omega) rfl
      have hsl := slr_own_text (X := [[116, 111], tg]) (n := 2) (by simpa [sv] using hlit) rfl
      have hll := HLEN.out
      have HV := Stow.mk (brow_apart HS.out.wr.row (by have := HNE.out; simp at this ⊢; intro h1 h2; exact absurd h2 (this h1)) HS.out.hx)
      have HCL := Stow.mk (cfLine_any HS1.out.wr HS1.out.hB [[116, 111], tg] (some ⟨wr.heap.size, 0, none⟩) 2 hsl (by simp) (by unfold Cf.lnTo at hll; simp only [List.length_append]; simp only at hll; omega))
      clear hbn hlit hsl hll
      go_wp2_with fail
      refine HCL.out.mono ?_
      rintro e w3 ⟨rfl, v3, hw3, ht3⟩
      have HS3 := Stow.mk (HS1.out.step hW0 hxg HV.out hw3 ht3)
      clear hw3 ht3 hwb HCL HS1 HV HS
      go_upto_region 8 with fail
      have HS : Stow (RuS W0 w3 g B w.heap.size [.int .i64 rank, .slice A n cap, .string (bs tg), .int .i64 ap, .int .i64 st, .int .i64 dp, .int .i64 dt, .int .i64 mp, .string (bs mi), .int .i64 sm] v3 (l ++ t1 ++ Cf.lnPs ps ++ Cf.lnTo ⟨rank, ps, tg, ap, st, dp, dt, mp, mi, sm⟩)) := HS3
      go_cut [34] (fun bv wx => bv = .bool (decide (ap ≠ 0 ∨ st ≠ 0)) ∧ wx = w3)
      case first =>
        have q3 := HS.out.hx.cell (i := 3) rfl
        have q4 := HS.out.hx.cell (i := 4) rfl
        by_cases h1 : ap = 0
        · by_cases h2 : st = 0
          · go_wp2_with fail
            go_meet
            exact ⟨by simp [h1, h2], rfl⟩
          · go_wp2_with fail
            go_meet
            exact ⟨by simp [h2], rfl⟩
        · go_wp2_with fail
          go_meet
          exact ⟨by simp [h1], rfl⟩
      case rest =>
        obtain ⟨rfl, rfl⟩ := hcut
        obtain ⟨c, hc⟩ : ∃ c, decide (ap ≠ 0 ∨ st ≠ 0) = c := ⟨_, rfl⟩
        rw [hc]
        have HC := Stow.mk hc
        clear hc
        go_upto_if 34 with fail
        go_cut [3] (fun pv wx => pv = .pointer (some ⟨w.heap.size, 0, none⟩) ∧ Stow (∃ v', RuS W0 wx g B w.heap.size [.int .i64 rank, .slice A n cap, .string (bs tg), .int .i64 ap, .int .i64 st, .int .i64 dp, .int .i64 dt, .int .i64 mp, .string (bs mi), .int .i64 sm] v' (l ++ t1 ++ Cf.lnPs ps ++ Cf.lnTo ⟨rank, ps, tg, ap, st, dp, dt, mp, mi, sm⟩ ++ Cf.lnAb ⟨rank, ps, tg, ap, st, dp, dt, mp, mi, sm⟩)))
        case first =>
          cases c with
          | false =>
            have HOP : Stow (Cf.lnAb ⟨rank, ps, tg, ap, st, dp, dt, mp, mi, sm⟩ = []) := ⟨by have h := HC.out; unfold Cf.lnAb; rw [if_neg (by simpa using h)]⟩
            go_wp2_with fail
            go_meet
            exact ⟨rfl, ⟨_, by rw [HOP.out, List.append_nil]; exact HS.out⟩⟩
          | true =>
            have HOP : Stow (Cf.lnAb ⟨rank, ps, tg, ap, st, dp, dt, mp, mi, sm⟩ = ln ([97, 98, 111, 114, 116] :: [ap, st].map Lib.itoa)) := ⟨by have h := HC.out; unfold Cf.lnAb; rw [if_pos (by simpa using h)]⟩
            have q3 := HS.out.hx.cell (i := 3) rfl
            have q4 := HS.out.hx.cell (i := 4) rfl
            have hbn := Below.alloc' (Below.self wc) (.cells #[.int .i64 ap, .int .i64 st] 3)
            have HS1 := Stow.mk (HS.out.keep hbn)
            have hsl := slr_own_int (World.ownsRow_lit (base := wc.heap.size) (e := 3) (size := 1) wc #[.int .i64 ap, .int .i64 st] 2 (Nat.le_refl _) (by unfold maxLen; omega) rfl) (ns := [ap, st]) rfl rfl
            have hll := HLEN.out
            have HV := Stow.mk (brow_apart HS.out.wr.row (by have := HNE.out; simp at this ⊢; intro h1 h2; exact absurd h2 (this h1)) HS.out.hx)
            have HCL := Stow.mk (cfNumbers_any HS1.out.wr HS1.out.hB (HPW.out.keep HS1.out.bel) [97, 98, 111, 114, 116] [ap, st] (some ⟨wc.heap.size, 0, none⟩) 2 hsl (by intro q hq; simp at hq; rcases hq with rfl | rfl; exact HNA.out; exact HNS.out) (by simp) (by rw [HOP.out] at hll; simp only [List.length_append] at hll ⊢; omega))
            clear hbn hsl hll
            go_wp2_with fail
            refine HCL.out.mono ?_
            rintro e w5 ⟨rfl, v5, hw5, ht5⟩
            have HS5 := Stow.mk (HS1.out.step hW0 hxg HV.out hw5 ht5)
            clear hw5 ht5 HCL HS1 q3 q4
            go_wp2_with fail
            go_meet
            exact ⟨rfl, ⟨v5, by rw [HOP.out]; exact HS5.out⟩⟩
        case rest =>
          obtain ⟨rfl, HE⟩ := hcut
          obtain ⟨v4, h4⟩ := HE.out
          clear HS HE HC
          have HS := Stow.mk h4
          clear h4
          obtain ⟨wq8, hwq⟩ : ∃ W, W = wc := ⟨_, rfl⟩
          subst hwq
          go_upto_region 10 with fail
          go_cut [49] (fun bv wx => bv = .bool (decide (dp ≠ 0 ∨ dt ≠ 0)) ∧ wx = wq8)
          case first =>
            have q3 := HS.out.hx.cell (i := 5) rfl
            have q4 := HS.out.hx.cell (i := 6) rfl
            by_cases h1 : dp = 0
            · by_cases h2 : dt = 0
              · go_wp2_with fail
                go_meet
                exact ⟨by simp [h1, h2], rfl⟩
              · go_wp2_with fail
                go_meet
                exact ⟨by simp [h2], rfl⟩
            · go_wp2_with fail
              go_meet
              exact ⟨by simp [h1], rfl⟩
          case rest =>
            obtain ⟨rfl, rfl⟩ := hcut
            obtain ⟨c, hc⟩ : ∃ c, decide (dp ≠ 0 ∨ dt ≠ 0) = c := ⟨_, rfl⟩
            rw [hc]
            have HC := Stow.mk hc
            clear hc
            go_upto_if 49 with fail
            go_cut [3] (fun pv wx => pv = .pointer (some ⟨w.heap.size, 0, none⟩) ∧ Stow (∃ v', RuS W0 wx g B w.heap.size [.int .i64 rank, .slice A n cap, .string (bs tg), .int .i64 ap, .int .i64 st, .int .i64 dp, .int .i64 dt, .int .i64 mp, .string (bs mi), .int .i64 sm] v' (l ++ t1 ++ Cf.lnPs ps ++ Cf.lnTo ⟨rank, ps, tg, ap, st, dp, dt, mp, mi, sm⟩ ++ Cf.lnAb ⟨rank, ps, tg, ap, st, dp, dt, mp, mi, sm⟩ ++ Cf.lnDe ⟨rank, ps, tg, ap, st, dp, dt, mp, mi, sm⟩)))
            case first =>
              cases c with
              | false =>
                have HOP : Stow (Cf.lnDe ⟨rank, ps, tg, ap, st, dp, dt, mp, mi, sm⟩ = []) := ⟨by have h := HC.out; unfold Cf.lnDe; rw [if_neg (by simpa using h)]⟩
                go_wp2_with fail
                go_meet
                exact ⟨rfl, ⟨_, by rw [HOP.out, List.append_nil]; exact HS.out⟩⟩
              | true =>
                have HOP : Stow (Cf.lnDe ⟨rank, ps, tg, ap, st, dp, dt, mp, mi, sm⟩ = ln ([100, 101, 108, 97, 121] :: [dp, dt].map Lib.itoa)) := ⟨by have h := HC.out; unfold Cf.lnDe; rw [if_pos (by simpa using h)]⟩
                have q3 := HS.out.hx.cell (i := 5) rfl
                have q4 := HS.out.hx.cell (i := 6) rfl
                have hbn := Below.alloc' (Below.self wc) (.cells #[.int .i64 dp, .int .i64 dt] 3)
                have HS1 := Stow.mk (HS.out.keep hbn)
                have hsl := slr_own_int (World.ownsRow_lit (base := wc.heap.size) (e := 3) (size := 1) wc #[.int .i64 dp, .int .i64 dt] 2 (Nat.le_refl _) (by unfold maxLen; omega) rfl) (ns := [dp, dt]) rfl rfl
                have hll := HLEN.out
                have HV := Stow.mk (brow_apart HS.out.wr.row (by have := HNE.out; simp at this ⊢; intro h1 h2; exact absurd h2 (this h1)) HS.out.hx)
                have HCL := Stow.mk (cfNumbers_any HS1.out.wr HS1.out.hB (HPW.out.keep HS1.out.bel) [100, 101, 108, 97, 121] [dp, dt] (some ⟨wc.heap.size, 0, none⟩) 2 hsl (by intro q hq; simp at hq; rcases hq with rfl | rfl; exact HND.out; exact HNT.out) (by simp) (by rw [HOP.out] at hll; simp only [List.length_append] at hll ⊢; omega))
                clear hbn hsl hll
                go_wp2_with fail
                refine HCL.out.mono ?_
                rintro e w5 ⟨rfl, v5, hw5, ht5⟩
                have HS5 := Stow.mk (HS1.out.step hW0 hxg HV.out hw5 ht5)
                clear hw5 ht5 HCL HS1 q3 q4
                go_wp2_with fail
                go_meet
                exact ⟨rfl, ⟨v5, by rw [HOP.out]; exact HS5.out⟩⟩
            case rest =>
              obtain ⟨rfl, HE⟩ := hcut
              obtain ⟨v4, h4⟩ := HE.out
              clear HS HE HC
              have HS := Stow.mk h4
              clear h4
              obtain ⟨wq10, hwq⟩ : ∃ W, W = wc := ⟨_, rfl⟩
              subst hwq
              go_upto_region 12 with fail
              go_cut [59] (fun bv wx => bv = .bool (!mi.isEmpty) ∧ wx = wq10)
              case first =>
                have q8 := HS.out.hx.cell (i := 8) rfl
                go_wp2_with fail
                go_meet
                exact ⟨rfl, rfl⟩
              case rest =>
                obtain ⟨rfl, rfl⟩ := hcut
                obtain ⟨c, hc⟩ : ∃ c, (!mi.isEmpty) = c := ⟨_, rfl⟩
                rw [hc]
                have HC := Stow.mk hc
                clear hc
                go_upto_if 59 with fail
                go_cut [3] (fun pv wx => pv = .pointer (some ⟨w.heap.size, 0, none⟩) ∧ Stow (∃ v', RuS W0 wx g B w.heap.size [.int .i64 rank, .slice A n cap, .string (bs tg), .int .i64 ap, .int .i64 st, .int .i64 dp, .int .i64 dt, .int .i64 mp, .string (bs mi), .int .i64 sm] v' (l ++ t1 ++ Cf.lnPs ps ++ Cf.lnTo ⟨rank, ps, tg, ap, st, dp, dt, mp, mi, sm⟩ ++ Cf.lnAb ⟨rank, ps, tg, ap, st, dp, dt, mp, mi, sm⟩ ++ Cf.lnDe ⟨rank, ps, tg, ap, st, dp, dt, mp, mi, sm⟩ ++ Cf.lnMi ⟨rank, ps, tg, ap, st, dp, dt, mp, mi, sm⟩)))
                case first =>
                  cases c with
                  | false =>
                    have HOP : Stow (Cf.lnMi ⟨rank, ps, tg, ap, st, dp, dt, mp, mi, sm⟩ = []) := ⟨by have h := HC.out; unfold Cf.lnMi; rw [if_neg (by simpa using h)]⟩
                    go_wp2_with fail
                    go_meet
                    exact ⟨rfl, ⟨_, by rw [HOP.out, List.append_nil]; exact HS.out⟩⟩
                  | true =>
                    have HOP : Stow (Cf.lnMi ⟨rank, ps, tg, ap, st, dp, dt, mp, mi, sm⟩ = ln [[109, 105, 114, 114, 111, 114], Lib.itoa mp, mi]) := ⟨by have h := HC.out; unfold Cf.lnMi; rw [if_pos (by simpa using h)]⟩
                    have HV := Stow.mk (brow_apart HS.out.wr.row (by have := HNE.out; simp at this ⊢; intro h1 h2; exact absurd h2 (this h1)) HS.out.hx)
                    have HI := Stow.mk (fun W (hb : Below wc.heap.size wc W) => itoa_any mp (by have := HNM.out; omega) (by have := HNM.out; omega) W (HPW.out.keep (HS.out.keep hb).bel))
                    have hkk : wc.cell? ⟨w.heap.size, 7, none⟩ = some (.int .i64 mp) ∧ wc.cell? ⟨w.heap.size, 8, none⟩ = some (.string (bs mi)) := ⟨HS.out.hx.cell (i := 7) rfl, HS.out.hx.cell (i := 8) rfl⟩
                    obtain ⟨k7, k8⟩ := hkk
                    have hkk : wc.cell? ⟨w.heap.size, 7, none⟩ = some (.int .i64 mp) ∧ wc.cell? ⟨w.heap.size, 8, none⟩ = some (.string (bs mi)) := ⟨k7, k8⟩
                    go_upto_region 13 with fail
                    go_region_held3 (fun W' => W'.cell? ⟨w.heap.size, 7, none⟩ = some (.int .i64 mp) ∧ W'.cell? ⟨w.heap.size, 8, none⟩ = some (.string (bs mi))) (first | go_keep | exact hkk)
                      (first
                        | (go_at_call 113; refine (HI.out _ (Below.drew (Below.self wc))).mono ?_; rintro e w6 ⟨rfl, hb6⟩; have hq6 := Below.call (Below.drew (Below.self wc)) hb6; have HS6 := Stow.mk (HS.out.keep hq6); have hkk : w6.cell? ⟨w.heap.size, 7, none⟩ = some (.int .i64 mp) ∧ w6.cell? ⟨w.heap.size, 8, none⟩ = some (.string (bs mi)) := ⟨HS6.out.hx.cell (i := 7) rfl, HS6.out.hx.cell (i := 8) rfl⟩)
                        | (go_at_call 59; have hbn := Below.alloc' (Below.self w6) (.cells #[.string (bs [109, 105, 114, 114, 111, 114]), .string (bs (Lib.itoa mp)), .string (bs mi)] 9); have HS7 := Stow.mk (HS6.out.keep hbn); have hlit := World.ownsRow_lit (base := w6.heap.size) (e := 9) (size := 1) w6 #[.string (bs [109, 105, 114, 114, 111, 114]), .string (bs (Lib.itoa mp)), .string (bs mi)] 3 (Nat.le_refl _) (by unfold maxLen; omega) rfl; have hsl := slr_own_text (X := [[109, 105, 114, 114, 111, 114], Lib.itoa mp, mi]) (n := 3) (by simpa [sv] using hlit) rfl; refine (cfLine_any HS7.out.wr HS7.out.hB [[109, 105, 114, 114, 111, 114], Lib.itoa mp, mi] (some ⟨w6.heap.size, 0, none⟩) 3 hsl (by simp) (by have hll := HLEN.out; rw [HOP.out] at hll; simp only [List.length_append] at hll ⊢; omega)).mono ?_; rintro e w7 ⟨rfl, v7, hw7, ht7⟩; have HS8 := Stow.mk (HS7.out.step hW0 hxg HV.out hw7 ht7); have hkk : w7.cell? ⟨w.heap.size, 7, none⟩ = some (.int .i64 mp) ∧ w7.cell? ⟨w.heap.size, 8, none⟩ = some (.string (bs mi)) := ⟨HS8.out.hx.cell (i := 7) rfl, HS8.out.hx.cell (i := 8) rfl⟩))
                    all_goals
                      go_wp2_with fail
                      go_meet
                      exact ⟨rfl, ⟨_, by rw [HOP.out]; exact HS8.out⟩⟩
                case rest =>
                  obtain ⟨rfl, HE⟩ := hcut
                  obtain ⟨v4, h4⟩ := HE.out
                  clear HS HE HC
                  have HS := Stow.mk h4
                  clear h4
                  obtain ⟨wq13, hwq⟩ : ∃ W, W = wc := ⟨_, rfl⟩
                  subst hwq
                  go_upto_region 14 with fail
                  have q9 := HS.out.hx.cell (i := 9) rfl
                  by_cases h1 : sm = 0
                  · have HOP : Stow (Cf.lnSa ⟨rank, ps, tg, ap, st, dp, dt, mp, mi, sm⟩ = []) := ⟨by unfold Cf.lnSa; rw [if_neg (by simpa using h1)]⟩
                    have HFIN : Stow (l ++ Cf.ruleText ⟨rank, ps, tg, ap, st, dp, dt, mp, mi, sm⟩ = l ++ t1 ++ Cf.lnPs ps ++ Cf.lnTo ⟨rank, ps, tg, ap, st, dp, dt, mp, mi, sm⟩ ++ Cf.lnAb ⟨rank, ps, tg, ap, st, dp, dt, mp, mi, sm⟩ ++ Cf.lnDe ⟨rank, ps, tg, ap, st, dp, dt, mp, mi, sm⟩ ++ Cf.lnMi ⟨rank, ps, tg, ap, st, dp, dt, mp, mi, sm⟩) := ⟨by unfold Cf.ruleText; rw [HOP.out, HT1.out]; simp [List.append_assoc]⟩
                    go_wp2_with fail
                    go_end0
                    exact ⟨rfl, _, by rw [HFIN.out]; exact HS.out.wr, HS.out.hB, HS.out.bel⟩
                  · have HOP : Stow (Cf.lnSa ⟨rank, ps, tg, ap, st, dp, dt, mp, mi, sm⟩ = ln ([115, 97, 109, 112, 108, 101] :: [sm].map Lib.itoa)) := ⟨by unfold Cf.lnSa; rw [if_pos (by simpa using h1)]⟩
                    have hbn := Below.alloc' (Below.self wq13) (.cells #[.int .i64 sm] 3)
                    have HS1 := Stow.mk (HS.out.keep hbn)
                    have hsl := slr_own_int (World.ownsRow_lit (base := wq13.heap.size) (e := 3) (size := 1) wq13 #[.int .i64 sm] 1 (Nat.le_refl _) (by unfold maxLen; omega) rfl) (ns := [sm]) rfl rfl
                    have hll := HLEN.out
                    have HV := Stow.mk (brow_apart HS.out.wr.row (by have := HNE.out; simp at this ⊢; intro h1 h2; exact absurd h2 (this h1)) HS.out.hx)
                    have HCL := Stow.mk (cfNumbers_any HS1.out.wr HS1.out.hB (HPW.out.keep HS1.out.bel) [115, 97, 109, 112, 108, 101] [sm] (some ⟨wq13.heap.size, 0, none⟩) 1 hsl (by intro q hq; simp at hq; subst hq; exact HNX.out) (by simp) (by rw [HOP.out] at hll; simp only [List.length_append] at hll ⊢; omega))
                    clear hbn hsl hll
                    go_wp2_with fail
                    refine HCL.out.mono ?_
                    rintro e w5 ⟨rfl, v5, hw5, ht5⟩
                    have HS5 := Stow.mk (HS1.out.step hW0 hxg HV.out hw5 ht5)
                    have HFIN : Stow (l ++ Cf.ruleText ⟨rank, ps, tg, ap, st, dp, dt, mp, mi, sm⟩ = l ++ t1 ++ Cf.lnPs ps ++ Cf.lnTo ⟨rank, ps, tg, ap, st, dp, dt, mp, mi, sm⟩ ++ Cf.lnAb ⟨rank, ps, tg, ap, st, dp, dt, mp, mi, sm⟩ ++ Cf.lnDe ⟨rank, ps, tg, ap, st, dp, dt, mp, mi, sm⟩ ++ Cf.lnMi ⟨rank, ps, tg, ap, st, dp, dt, mp, mi, sm⟩ ++ ln ([115, 97, 109, 112, 108, 101] :: [sm].map Lib.itoa)) := ⟨by unfold Cf.ruleText; rw [HOP.out, HT1.out]; simp [List.append_assoc]⟩
                    clear hw5 ht5 HCL HS1 q9
                    go_wp2_with fail
                    go_end0
                    exact ⟨rfl, _, by rw [HFIN.out]; exact HS5.out.wr, HS5.out.hB, HS5.out.bel⟩
end Go.Proofs.YtfbhdkkmcfnghaaGreatDoor
