/- Walk of the config reader's pred. Conditions: the reader's memory, the rule's memory; what a variable of the library's holds. -/
import Derived.Test.YtfbhdkkmcfnghaaGreatDoorCfRdTwo
import Derived.Deep.RegionLaw
import Derived.RegionTactic
namespace Go.Proofs.YtfbhdkkmcfnghaaGreatDoor
open Go.RowKit
set_option linter.unusedVariables false
set_option linter.unusedSimpArgs false

/-- A rule's cells, its predicates' slice given. -/
def Ru.cs (x : Ru) (vp : Value) : List Value := [.int .i64 x.rank, vp, .string (bs x.tg), .int .i64 x.ap, .int .i64 x.st, .int .i64 x.dp, .int .i64 x.dt, .int .i64 x.mp, .string (bs x.mi), .int .i64 x.sm]
/-- A rule that is read, in block bx: its predicates are a row of its own behind it. -/
structure XuM (w : World) (bx : Nat) (x : Ru) (vp : Value) : Prop where
  hd : Held w bx (x.cs vp)
  row : w.ownsRow (bx + 1) 98 3 vp x.ps.length (x.ps.flatMap Pd.cells)
  fits : ∀ p ∈ x.ps, p.fits
  tg : x.tg.length ≤ 4096
  mi : x.mi.length ≤ 4096
  lt : bx < w.heap.size
theorem XuM.keep {w w' : World} {bx : Nat} {x : Ru} {vp : Value} (h : XuM w bx x vp) (hb : Below w.heap.size w w') : XuM w' bx x vp :=
  ⟨h.hd.kept hb, own_kept h.row hb, h.fits, h.tg, h.mi, Nat.lt_of_lt_of_le h.lt hb.size⟩
theorem XuM.form {w : World} {bx : Nat} {x : Ru} {vp : Value} (h : XuM w bx x vp) : ∃ A cap, vp = .slice A x.ps.length cap := own_form h.row
theorem info_pred : (Tryz.prog.info? 98).map (fun i => (i.zero, i.size, i.bytes)) = some (some (.agg #[.int .i64 0, .string ByteArray.empty, .string ByteArray.empty]), 3, 40) := by kernel_rfl
/-- One predicate more. -/
theorem XuM.more {w W w' : World} {bx g np cap : Nat} {x : Ru} {vp : Value} {p : Pd} (h : XuM w bx x vp) (hn : x.ps.length = np) (hd : Held W bx (x.cs vp)) (hW : w.heap.size ≤ W.heap.size)
    (ho : w'.ownsRow (bx + 1) 98 3 (.slice (some ⟨g, 0, none⟩) (np + 1) cap) (np + 1) (x.ps.flatMap Pd.cells ++ p.cells)) (hg : W.grownBy w' vp.ownBlock) (hf : p.fits) :
    XuM (w'.setCell ⟨bx, 1, none⟩ (.slice (some ⟨g, 0, none⟩) (np + 1) cap)) bx { x with ps := x.ps ++ [p] } (.slice (some ⟨g, 0, none⟩) (np + 1) cap) := by
  have hne : vp.ownBlock ≠ some bx := fun e => by
    have := (World.ownsRow.lt h.row bx e).1
    omega
  have h1 := (held_grown hd hg hne).set 1 (.slice (some ⟨g, 0, none⟩) (np + 1) cap)
  have h2 := own_undr ho (Only.set bx w' 1 (.slice (some ⟨g, 0, none⟩) (np + 1) cap)) (by omega)
  refine ⟨h1, ?_, fun q hq => ?_, h.tg, h.mi, h1.lt⟩
  · have e1 : (x.ps ++ [p]).length = np + 1 := by simp [hn]
    have e2 : (x.ps ++ [p]).flatMap Pd.cells = x.ps.flatMap Pd.cells ++ p.cells := by simp
    rw [e1, e2]
    exact h2
  · rcases List.mem_append.1 hq with hq | hq
    · exact h.fits q hq
    · rw [List.mem_singleton.1 hq]; exact hf
namespace Cf
def wordN (j : Nat) : List UInt8 := if j = 0 then [] else Pd.word (j : Int)
def predK (j : Nat) (l : List UInt8) : Option Pd :=
  if j = 5 then (if (32 : UInt8) ∈ (Pg.cut l).2 then some ⟨5, (Pg.cut (Pg.cut l).2).1, (Pg.cut (Pg.cut l).2).2⟩ else none)
  else if single l = true then some (if j = 6 then ⟨6, (Pg.cut l).2, []⟩ else ⟨(j : Int), [], (Pg.cut l).2⟩) else none
theorem predL_at {j : Nat} (h1 : 1 ≤ j) (h6 : j ≤ 6) {l : List UInt8} (h : (Pg.cut l).1 = wordN j) : predL l = predK j l := by
  unfold predL predK
  rw [h]
  obtain rfl | rfl | rfl | rfl | rfl | rfl : j = 1 ∨ j = 2 ∨ j = 3 ∨ j = 4 ∨ j = 5 ∨ j = 6 := by omega
  · simp only [wordN]; rfl
  · simp only [wordN]; rfl
  · simp only [wordN]; rfl
  · simp only [wordN]; rfl
  · simp only [wordN]; rfl
  · simp only [wordN]; rfl
theorem predL_no {l : List UInt8} (h : ∀ j, 1 ≤ j → j ≤ 6 → wordN j ≠ (Pg.cut l).1) : predL l = none := by
  have h' : ∀ j : Nat, 1 ≤ j → j ≤ 6 → ¬ (Pg.cut l).1 = Pd.word (j : Int) := fun j h1 h2 e => h j h1 h2 (by unfold wordN; rw [if_neg (by omega)]; exact e.symm)
  have g1 : ¬ (Pg.cut l).1 = Pd.word 1 := h' 1 (by omega) (by omega)
  have g2 : ¬ (Pg.cut l).1 = Pd.word 2 := h' 2 (by omega) (by omega)
  have g3 : ¬ (Pg.cut l).1 = Pd.word 3 := h' 3 (by omega) (by omega)
  have g4 : ¬ (Pg.cut l).1 = Pd.word 4 := h' 4 (by omega) (by omega)
  have g5 : ¬ (Pg.cut l).1 = Pd.word 5 := h' 5 (by omega) (by omega)
  have g6 : ¬ (Pg.cut l).1 = Pd.word 6 := h' 6 (by omega) (by omega)
  unfold predL
  simp only
  rw [if_neg g5, if_neg g6, if_neg g1, if_neg g2, if_neg g3, if_neg g4]
end Cf
theorem idx_wordN (k : Nat) (hk : k < 7) (w : World) : (Instr.index 182 (.agg wordVals.toArray) (.int .i64 (k : Int))).run Tryz.prog w = .ok (.string (bs (Cf.wordN k))) w := by
  have h1 : (0 : Int) ≤ k ∧ (k : Int) < 7 := by omega
  have e : wordVals[k]? = some (.string (bs (Cf.wordN k))) := by
    have : k = 0 ∨ k = 1 ∨ k = 2 ∨ k = 3 ∨ k = 4 ∨ k = 5 ∨ k = 6 := by omega
    rcases this with rfl | rfl | rfl | rfl | rfl | rfl | rfl <;> rfl
  simp [Instr.index, run_underlying Tryz.underlying182, asIntOf, part, h1, go_sem, e]
  intro h; omega
/-- A rule, and a predicate more if there is one. -/
def Cf.addP (x : Ru) : Option Pd → Ru
  | some p => { x with ps := x.ps ++ [p] }
  | none => x
set_option maxHeartbeats 4000000 in
set_option maxRecDepth 100000 in
theorem rdPred_any {N : Nat} {w : World} {g : Nat} {LA : Option Addr} {lc : Nat} {L : List (List UInt8)} {k : Nat} {vr : Value} {R : List Rm} {f : List UInt8} {bx : Nat} {x : Ru} {vp : Value} (h : RdM N w g LA lc L k vr R f) (hx : XuM w bx x vp) (hN : N ≤ bx) (hL : LsOk L) (hm : MaxIs w) (hps : x.ps.length ≤ 5000) :
    Calls Tryz.prog 163 #[.pointer (some ⟨g, 0, none⟩), .pointer (some ⟨bx, 0, none⟩)] w fun e w' => e = .returned (.bool (Cf.predL (L.getD k [])).isSome) ∧ Below bx w w' ∧ ∃ vp', XuM w' bx (Cf.addP x (Cf.predL (L.getD k []))) vp' := by
  obtain ⟨A, cap, rfl⟩ := hx.form
  obtain ⟨np, hnp⟩ : ∃ n, x.ps.length = n := ⟨_, rfl⟩
  have HNP := Stow.mk hnp
  rw [hnp] at hx hps
  have hltb := hx.lt
  have HWD := Stow.mk (rdWord_any h hL hm)
  have hsg := fun (hk : k < L.length) (W : World) (hW : Below N w W) => rdSingle_any (h.keep hW) hk _ rfl
  have hlen : (L.getD k []).length ≤ 4096 := by
    by_cases hk : k < L.length
    · rw [Cf.getD_at hk]; exact hL.2 _ (List.getElem_mem hk)
    · rw [Cf.getD_no hk]; simp
  have hkn : ¬ k < L.length → (Pg.cut (L.getD k [])).1 = [] := fun hk => by rw [Cf.getD_no hk]; rfl
  obtain ⟨l, hl⟩ : ∃ l, L.getD k [] = l := ⟨_, rfl⟩
  rw [hl] at HWD hsg hlen hkn ⊢
  have hcl := Pg.cut_le l
  obtain ⟨pr, hpr⟩ : ∃ q, Cf.predL l = q := ⟨_, rfl⟩
  have HPR := Stow.mk hpr
  rw [hpr]
  have HAT : Stow (∀ j, 1 ≤ j → j ≤ 6 → (Pg.cut l).1 = Cf.wordN j → pr = Cf.predK j l) := ⟨fun j h1 h6 e => by rw [← hpr]; exact Cf.predL_at h1 h6 e⟩
  have HNO : Stow ((∀ j, 1 ≤ j → j ≤ 6 → Cf.wordN j ≠ (Pg.cut l).1) → pr = none) := ⟨fun e => by rw [← hpr]; exact Cf.predL_no e⟩
  obtain ⟨a, ha⟩ : ∃ a, (Pg.cut l).1 = a := ⟨_, rfl⟩
  obtain ⟨b, hb⟩ : ∃ b, (Pg.cut l).2 = b := ⟨_, rfl⟩
  unfold Cf.predK at HAT
  rw [ha] at HAT HNO hkn
  rw [hb] at HAT
  rw [ha, hb] at HWD
  have hbl : b.length ≤ 4096 := by rw [← hb]; omega
  rw [hb] at hsg
  have HSG := Stow.mk hsg
  have HKN := Stow.mk hkn
  have HM := Stow.mk hm
  have HX := Stow.mk hx
  have HNN : Stow (N ≤ w.heap.size) := ⟨h.hN⟩
  clear h hx hm hpr ha hb hl hnp hsg hcl hkn hL
  go_enter Tryz.func163, Tryz.ntmps163
  go_wp2_with fail
  refine HWD.out.mono ?_
  rintro e w1 ⟨rfl, hb1⟩
  go_wp2_with fail
  refine (cfWords_any w1).mono ?_
  rintro e w2 ⟨rfl, hb2⟩
  have HB2 := Stow.mk (Below.call hb1 hb2)
  clear hb1 hb2 HWD
  go_wp2_with fail
  go_loop [19] (fun u => ∃ j : Nat, u = .int .i64 (j : Int) ∧ j ≤ 7 ∧ Stow (∀ i, 1 ≤ i → i < j → Cf.wordN i ≠ a)) (fun u => 7 - (intOf u).toNat)
  case atStart => exact ⟨0, rfl, by omega, ⟨fun i h1 h2 => by omega⟩⟩
  case round =>
    obtain ⟨j, rfl, hj, HJ⟩ := hrel
    by_cases h7 : j < 7
    · have hix := idx_wordN j h7
      have hwz : (Cf.wordN j == []) = decide (j = 0) := by
        obtain rfl | rfl | rfl | rfl | rfl | rfl | rfl : j = 0 ∨ j = 1 ∨ j = 2 ∨ j = 3 ∨ j = 4 ∨ j = 5 ∨ j = 6 := by omega
        all_goals rfl
      obtain ⟨W, hW⟩ : ∃ W, Cf.wordN j = W := ⟨_, rfl⟩
      rw [hW] at hix hwz
      have HW := Stow.mk hW
      have hji : (j : Int) < 7 := by omega
      clear hW
      by_cases j0 : j = 0
      · subst j0
        have hw : (W == []) = true := by rw [hwz]; rfl
        have hix0 : ∀ w : World, (Instr.index 182 (.agg wordVals.toArray) (.int .i64 0)).run Tryz.prog w = .ok (.string (bs W)) w := hix
        clear hwz hix
        go_wp2_with fail
        exact ⟨⟨1, rfl, by omega, ⟨fun i h1 h2 => by omega⟩⟩, by simp [intOf]⟩
      · have hw : (W == []) = false := by rw [hwz]; simp [j0]
        have hwe : W.isEmpty = false := by
          rcases W with _ | ⟨c, t⟩
          · simp at hw
          · rfl
        clear hwz
        by_cases hs : W = a
        · subst hs
          have hp := HAT.out j (by omega) (by omega) HW.out.symm
          have hk : k < L.length := by
            refine Decidable.byContradiction fun hn => ?_
            rw [HKN.out hn] at hwe
            cases hwe
          have HS3 := Stow.mk (HSG.out hk)
          have hp3 := Held.made w2 [.int .i64 (j : Int), .string ⟨#[]⟩, .string (bs b)] 98
          have hb3 := Below.alloc' (Below.self w2) (.cells #[.int .i64 (j : Int), .string ⟨#[]⟩, .string (bs b)] 98)
          obtain ⟨W3, hW3⟩ : ∃ W, w2.alloc (.cells #[.int .i64 (j : Int), .string ⟨#[]⟩, .string (bs b)] 98) = W := ⟨_, rfl⟩
          rw [show w2.alloc (.cells [.int .i64 (j : Int), .string ⟨#[]⟩, .string (bs b)].toArray 98) = W3 from hW3] at hp3
          rw [hW3] at hb3
          have HW3 := Stow.mk hW3
          have HP3 := Stow.mk hp3
          have HB3 := Stow.mk (Below.call HB2.out hb3)
          have hpb : w.heap.size ≤ w2.heap.size := HB2.out.size
          clear hW3 hp3 hb3 hwe
          by_cases j5 : j = 5
          · subst j5
            rw [if_pos rfl] at hp
            have hixc : ∀ w : World, (Instr.index 182 (.agg wordVals.toArray) (.int .i64 5)).run Tryz.prog w = .ok (.string (bs W)) w := hix
            have HW3c : Stow (w2.alloc (.cells #[.int .i64 5, .string ⟨#[]⟩, .string (bs b)] 98) = W3) := HW3
            have HP3c : Stow (Held W3 w2.heap.size [.int .i64 5, .string ⟨#[]⟩, .string (bs b)]) := HP3
            clear hix HW3 HP3
            have HW3 := HW3c
            have HP3 := HP3c
            clear HW3c HP3c
            have HC4 := Stow.mk (cutW_any b W3 (by omega) (HM.out.keep HB3.out))
            by_cases hf : (32 : UInt8) ∈ b
            · rw [if_pos hf] at hp
              rw [decide_eq_true hf] at HC4
              have hcb := Pg.cut_le b
              obtain ⟨n, hn⟩ : ∃ n, (Pg.cut b).1 = n := ⟨_, rfl⟩
              obtain ⟨v, hv⟩ : ∃ v, (Pg.cut b).2 = v := ⟨_, rfl⟩
              rw [hn, hv] at hp HC4 hcb
              have HPL : Stow (pr = some ⟨5, n, v⟩) := ⟨hp⟩
              clear hp hn hv hf
              go_upto_region 7 with fail
              rw [HW3.out]
              go_wp2_with fail
              refine HC4.out.mono ?_
              rintro e w4 ⟨rfl, hb4⟩
              have HP4 := Stow.mk (HP3.out.kept hb4)
              have HB4 := Stow.mk (Below.call HB3.out hb4)
              have f1 := HP4.out.free 1
              have f2 := HP4.out.free 2
              have q1 := HP4.out.cell (i := 1) rfl
              have q2 := HP4.out.cell (i := 2) rfl
              clear hb4 HC4
              go_upto_region 16 with fail
              have HPB : Stow (Held ((w4.setCell ⟨w2.heap.size, 1, none⟩ (.string (bs n))).setCell ⟨w2.heap.size, 2, none⟩ (.string (bs v))) w2.heap.size [.int .i64 (5 : Int), .string (bs n), .string (bs v)]) := ⟨(HP4.out.set 1 (.string (bs n))).set 2 (.string (bs v))⟩
              have HB5 : Stow (Below w.heap.size w ((w4.setCell ⟨w2.heap.size, 1, none⟩ (.string (bs n))).setCell ⟨w2.heap.size, 2, none⟩ (.string (bs v)))) := ⟨(HB4.out.setCell (p := ⟨w2.heap.size, 1, none⟩) hpb _).setCell (p := ⟨w2.heap.size, 2, none⟩) hpb _⟩
              clear f1 f2 q1 q2
              obtain ⟨W5, hW5⟩ : ∃ W, ((w4.setCell ⟨w2.heap.size, 1, none⟩ (.string (bs n))).setCell ⟨w2.heap.size, 2, none⟩ (.string (bs v))) = W := ⟨_, rfl⟩
              rw [hW5] at HPB HB5 ⊢
              have HXW := Stow.mk (HX.out.keep HB5.out)
              have HBW : Stow (Below bx w W5) := ⟨HB5.out.mono (by omega)⟩
              clear hW5
              have p0 := HPB.out.cell (i := 0) rfl
              have p1 := HPB.out.cell (i := 1) rfl
              have p2 := HPB.out.cell (i := 2) rfl
              have b1 := HXW.out.hd.cell (i := 1) rfl
              have f1 := HXW.out.hd.free 1
              have hltb := HXW.out.lt
              have hge : (W5.heap.size == bx) = false := by simp; omega
              have HD : Stow (Held (W5.alloc (.cells #[.int .i64 (5 : Int), .string (bs n), .string (bs v)] 98)).drew bx (x.cs (.slice A np cap))) := ⟨(HXW.out.hd.kept (Below.alloc' (Below.self W5) _)).drew⟩
              have HO : Stow ((W5.alloc (.cells #[.int .i64 (5 : Int), .string (bs n), .string (bs v)] 98)).drew.ownsRow (bx + 1) 98 3 (.slice A np cap) np (x.ps.flatMap Pd.cells)) := ⟨World.ownsRow.drew (World.ownsRow.alloc (by have := HXW.out.row; rw [HNP.out] at this; exact this) _)⟩
              have HX : Stow (∀ i u, ([.int .i64 (5 : Int), .string (bs n), .string (bs v)] : List Value)[i]? = some u → (W5.alloc (.cells #[.int .i64 (5 : Int), .string (bs n), .string (bs v)] 98)).drew.cell? ((⟨W5.heap.size, 0, none⟩ : Addr).add i) = some u) := ⟨World.news_of_block (cs := #[.int .i64 (5 : Int), .string (bs n), .string (bs v)]) (heap_alloc_new W5 _)⟩
              have HX1 : Stow (∀ u ∈ ([.int .i64 (5 : Int), .string (bs n), .string (bs v)] : List Value), u.oneCell' = true) := ⟨fun u hu => Pd.one ⟨(5 : Int), n, v⟩ u hu⟩
              have HN1 : Stow (np + 1 ≤ maxLen ∧ (np + 1) * 40 ≤ 140737488355328 ∧ bx + 1 ≤ (W5.alloc (.cells #[.int .i64 (5 : Int), .string (bs n), .string (bs v)] 98)).drew.heap.size) := ⟨by unfold maxLen; omega, by omega, by simp; omega⟩
              have HBG : Stow (Below bx w (W5.alloc (.cells #[.int .i64 (5 : Int), .string (bs n), .string (bs v)] 98)).drew) := ⟨(HBW.out.alloc (by omega) _).drew⟩
              obtain ⟨i0, hi, hz, hsz, hby⟩ := info_parts info_pred
              have HI := Stow.mk hi
              have HZ := Stow.mk hz
              have HSZ := Stow.mk hsz
              have HBY := Stow.mk hby
              clear hi hz hsz hby
              go_region_law (refine step_append_lies _ rfl (.tmp 63) (.tmp 65) 93 rfl (bx + 1) 98 i0 _ 3 40 Tryz.underlying93 HI.out HZ.out HSZ.out HBY.out rfl (by decide) _ np _ rfl HO.out ⟨W5.heap.size, 0, none⟩ 1 1 [.int .i64 (5 : Int), .string (bs n), .string (bs v)] rfl rfl HX.out HX1.out (by decide) HN1.out.1 HN1.out.2.1 HN1.out.2.2 _ rfl ?_; intro g' cap' w' hown hgrow hat hlt'; have HOW := Stow.mk hown; have HGR := Stow.mk hgrow; have ha := held_grown HD.out hgrow (fun e => by have := (World.ownsRow.lt HO.out bx e).1; omega); have b1' := ha.cell (i := 1) rfl; have f1' := ha.free 1; clear hown hgrow hat ha)
              all_goals
                go_wp2_with fail
                go_ret
                refine ⟨?_, ?_, .slice (some ⟨g', 0, none⟩) (np + 1) cap', ?_⟩
                · rw [HPL.out]; rfl
                · exact (HBG.out.grown HGR.out (by simp; omega) (fun k hk => by have := (HO.out.lt k hk).1; omega)).setCell (p := ⟨bx, 1, none⟩) (Nat.le_refl _) _
                · rw [HPL.out]
                  exact HXW.out.more HNP.out HD.out (by simp) (p := ⟨(5 : Int), n, v⟩) HOW.out HGR.out (by refine ⟨?_, ?_⟩ <;> simp only <;> omega)
            · rw [if_neg hf] at hp
              rw [decide_eq_false hf] at HC4
              subst hp
              clear hf
              go_upto_region 7 with fail
              rw [HW3.out]
              go_wp2_with fail
              refine HC4.out.mono ?_
              rintro e w4 ⟨rfl, hb4⟩
              have HB4 := Stow.mk (Below.call HB3.out hb4)
              clear hb4 HC4
              go_wp2_with fail
              go_ret
              exact ⟨rfl, HB4.out.mono (by omega), _, HX.out.keep HB4.out⟩
          · rw [if_neg j5] at hp
            have j5i : ((j : Int) == 5) = false := by simp; omega
            have HC4 := Stow.mk (HS3.out W3 (HB3.out.mono HNN.out))
            by_cases hf : Cf.single l = true
            · rw [if_pos hf] at hp
              rw [hf] at HC4
              clear hf
              by_cases j6 : j = 6
              · subst j6
                have HPL : Stow (pr = some ⟨6, b, []⟩) := ⟨by rw [hp]; simp⟩
                have hixc : ∀ w : World, (Instr.index 182 (.agg wordVals.toArray) (.int .i64 6)).run Tryz.prog w = .ok (.string (bs W)) w := hix
                have HW3c : Stow (w2.alloc (.cells #[.int .i64 6, .string ⟨#[]⟩, .string (bs b)] 98) = W3) := HW3
                have HP3c : Stow (Held W3 w2.heap.size [.int .i64 6, .string ⟨#[]⟩, .string (bs b)]) := HP3
                clear hix HW3 HP3
                have HW3 := HW3c
                have HP3 := HP3c
                clear HW3c HP3c
                clear hp
                go_upto_region 7 with fail
                rw [HW3.out]
                go_wp2_with fail
                refine HC4.out.mono ?_
                rintro e w4 ⟨rfl, hb4⟩
                have HP4 := Stow.mk (HP3.out.kept hb4)
                have HB4 := Stow.mk (Below.call HB3.out hb4)
                have f1 := HP4.out.free 1
                have f2 := HP4.out.free 2
                have q1 := HP4.out.cell (i := 1) rfl
                have q2 := HP4.out.cell (i := 2) rfl
                clear hb4 HC4
                go_upto_region 16 with fail
                have HPB : Stow (Held ((w4.setCell ⟨w2.heap.size, 1, none⟩ (.string (bs b))).setCell ⟨w2.heap.size, 2, none⟩ (.string (bs []))) w2.heap.size [.int .i64 (6 : Int), .string (bs b), .string (bs [])]) := ⟨(HP4.out.set 1 (.string (bs b))).set 2 (.string (bs []))⟩
                have HB5 : Stow (Below w.heap.size w ((w4.setCell ⟨w2.heap.size, 1, none⟩ (.string (bs b))).setCell ⟨w2.heap.size, 2, none⟩ (.string (bs [])))) := ⟨(HB4.out.setCell (p := ⟨w2.heap.size, 1, none⟩) hpb _).setCell (p := ⟨w2.heap.size, 2, none⟩) hpb _⟩
                clear f1 f2 q1 q2
                obtain ⟨W5, hW5⟩ : ∃ W, ((w4.setCell ⟨w2.heap.size, 1, none⟩ (.string (bs b))).setCell ⟨w2.heap.size, 2, none⟩ (.string (bs []))) = W := ⟨_, rfl⟩
                have hW5' : ((w4.setCell ⟨w2.heap.size, 1, none⟩ (.string (bs b))).setCell ⟨w2.heap.size, 2, none⟩ (.string ⟨#[]⟩)) = W5 := hW5
                rw [hW5] at HPB HB5
                rw [hW5']
                have HXW := Stow.mk (HX.out.keep HB5.out)
                have HBW : Stow (Below bx w W5) := ⟨HB5.out.mono (by omega)⟩
                have hz0 : ([] : List UInt8).length ≤ 140737488355328 := by simp
                clear hW5 hW5'
                have p0 := HPB.out.cell (i := 0) rfl
                have p1 := HPB.out.cell (i := 1) rfl
                have p2 := HPB.out.cell (i := 2) rfl
                have b1 := HXW.out.hd.cell (i := 1) rfl
                have f1 := HXW.out.hd.free 1
                have hltb := HXW.out.lt
                have hge : (W5.heap.size == bx) = false := by simp; omega
                have HD : Stow (Held (W5.alloc (.cells #[.int .i64 (6 : Int), .string (bs b), .string (bs [])] 98)).drew bx (x.cs (.slice A np cap))) := ⟨(HXW.out.hd.kept (Below.alloc' (Below.self W5) _)).drew⟩
                have HO : Stow ((W5.alloc (.cells #[.int .i64 (6 : Int), .string (bs b), .string (bs [])] 98)).drew.ownsRow (bx + 1) 98 3 (.slice A np cap) np (x.ps.flatMap Pd.cells)) := ⟨World.ownsRow.drew (World.ownsRow.alloc (by have := HXW.out.row; rw [HNP.out] at this; exact this) _)⟩
                have HX : Stow (∀ i u, ([.int .i64 (6 : Int), .string (bs b), .string (bs [])] : List Value)[i]? = some u → (W5.alloc (.cells #[.int .i64 (6 : Int), .string (bs b), .string (bs [])] 98)).drew.cell? ((⟨W5.heap.size, 0, none⟩ : Addr).add i) = some u) := ⟨World.news_of_block (cs := #[.int .i64 (6 : Int), .string (bs b), .string (bs [])]) (heap_alloc_new W5 _)⟩
                have HX1 : Stow (∀ u ∈ ([.int .i64 (6 : Int), .string (bs b), .string (bs [])] : List Value), u.oneCell' = true) := ⟨fun u hu => Pd.one ⟨(6 : Int), b, []⟩ u hu⟩
                have HN1 : Stow (np + 1 ≤ maxLen ∧ (np + 1) * 40 ≤ 140737488355328 ∧ bx + 1 ≤ (W5.alloc (.cells #[.int .i64 (6 : Int), .string (bs b), .string (bs [])] 98)).drew.heap.size) := ⟨by unfold maxLen; omega, by omega, by simp; omega⟩
                have HBG : Stow (Below bx w (W5.alloc (.cells #[.int .i64 (6 : Int), .string (bs b), .string (bs [])] 98)).drew) := ⟨(HBW.out.alloc (by omega) _).drew⟩
                obtain ⟨i0, hi, hz, hsz, hby⟩ := info_parts info_pred
                have HI := Stow.mk hi
                have HZ := Stow.mk hz
                have HSZ := Stow.mk hsz
                have HBY := Stow.mk hby
                clear hi hz hsz hby
                go_region_law (refine step_append_lies _ rfl (.tmp 63) (.tmp 65) 93 rfl (bx + 1) 98 i0 _ 3 40 Tryz.underlying93 HI.out HZ.out HSZ.out HBY.out rfl (by decide) _ np _ rfl HO.out ⟨W5.heap.size, 0, none⟩ 1 1 [.int .i64 (6 : Int), .string (bs b), .string (bs [])] rfl rfl HX.out HX1.out (by decide) HN1.out.1 HN1.out.2.1 HN1.out.2.2 _ rfl ?_; intro g' cap' w' hown hgrow hat hlt'; have HOW := Stow.mk hown; have HGR := Stow.mk hgrow; have ha := held_grown HD.out hgrow (fun e => by have := (World.ownsRow.lt HO.out bx e).1; omega); have b1' := ha.cell (i := 1) rfl; have f1' := ha.free 1; clear hown hgrow hat ha)
                all_goals
                  go_wp2_with fail
                  go_ret
                  refine ⟨?_, ?_, .slice (some ⟨g', 0, none⟩) (np + 1) cap', ?_⟩
                  · rw [HPL.out]; rfl
                  · exact (HBG.out.grown HGR.out (by simp; omega) (fun k hk => by have := (HO.out.lt k hk).1; omega)).setCell (p := ⟨bx, 1, none⟩) (Nat.le_refl _) _
                  · rw [HPL.out]
                    exact HXW.out.more HNP.out HD.out (by simp) (p := ⟨(6 : Int), b, []⟩) HOW.out HGR.out (by refine ⟨?_, ?_⟩ <;> simp only <;> omega)
              · have j6i : ((j : Int) == 6) = false := by simp; omega
                have HPL : Stow (pr = some ⟨(j : Int), [], b⟩) := ⟨by rw [hp, if_neg j6]⟩
                clear hp
                go_upto_region 7 with fail
                rw [HW3.out]
                go_wp2_with fail
                refine HC4.out.mono ?_
                rintro e w4 ⟨rfl, hb4⟩
                have HPB : Stow (Held w4 w2.heap.size [.int .i64 (j : Int), .string (bs []), .string (bs b)]) := ⟨HP3.out.kept hb4⟩
                have HB4 := Stow.mk (Below.call HB3.out hb4)
                have HXW := Stow.mk (HX.out.keep HB4.out)
                have HBW : Stow (Below bx w w4) := ⟨HB4.out.mono (by omega)⟩
                have hz0 : ([] : List UInt8).length ≤ 140737488355328 := by simp
                clear hb4 HC4
                go_upto_region 16 with fail
                have p0 := HPB.out.cell (i := 0) rfl
                have p1 := HPB.out.cell (i := 1) rfl
                have p2 := HPB.out.cell (i := 2) rfl
                have b1 := HXW.out.hd.cell (i := 1) rfl
                have f1 := HXW.out.hd.free 1
                have hltb := HXW.out.lt
                have hge : (w4.heap.size == bx) = false := by simp; omega
                have HD : Stow (Held (w4.alloc (.cells #[.int .i64 (j : Int), .string (bs []), .string (bs b)] 98)).drew bx (x.cs (.slice A np cap))) := ⟨(HXW.out.hd.kept (Below.alloc' (Below.self w4) _)).drew⟩
                have HO : Stow ((w4.alloc (.cells #[.int .i64 (j : Int), .string (bs []), .string (bs b)] 98)).drew.ownsRow (bx + 1) 98 3 (.slice A np cap) np (x.ps.flatMap Pd.cells)) := ⟨World.ownsRow.drew (World.ownsRow.alloc (by have := HXW.out.row; rw [HNP.out] at this; exact this) _)⟩
                have HX : Stow (∀ i u, ([.int .i64 (j : Int), .string (bs []), .string (bs b)] : List Value)[i]? = some u → (w4.alloc (.cells #[.int .i64 (j : Int), .string (bs []), .string (bs b)] 98)).drew.cell? ((⟨w4.heap.size, 0, none⟩ : Addr).add i) = some u) := ⟨World.news_of_block (cs := #[.int .i64 (j : Int), .string (bs []), .string (bs b)]) (heap_alloc_new w4 _)⟩
                have HX1 : Stow (∀ u ∈ ([.int .i64 (j : Int), .string (bs []), .string (bs b)] : List Value), u.oneCell' = true) := ⟨fun u hu => Pd.one ⟨(j : Int), [], b⟩ u hu⟩
                have HN1 : Stow (np + 1 ≤ maxLen ∧ (np + 1) * 40 ≤ 140737488355328 ∧ bx + 1 ≤ (w4.alloc (.cells #[.int .i64 (j : Int), .string (bs []), .string (bs b)] 98)).drew.heap.size) := ⟨by unfold maxLen; omega, by omega, by simp; omega⟩
                have HBG : Stow (Below bx w (w4.alloc (.cells #[.int .i64 (j : Int), .string (bs []), .string (bs b)] 98)).drew) := ⟨(HBW.out.alloc (by omega) _).drew⟩
                obtain ⟨i0, hi, hz, hsz, hby⟩ := info_parts info_pred
                have HI := Stow.mk hi
                have HZ := Stow.mk hz
                have HSZ := Stow.mk hsz
                have HBY := Stow.mk hby
                clear hi hz hsz hby
                go_region_law (refine step_append_lies _ rfl (.tmp 63) (.tmp 65) 93 rfl (bx + 1) 98 i0 _ 3 40 Tryz.underlying93 HI.out HZ.out HSZ.out HBY.out rfl (by decide) _ np _ rfl HO.out ⟨w4.heap.size, 0, none⟩ 1 1 [.int .i64 (j : Int), .string (bs []), .string (bs b)] rfl rfl HX.out HX1.out (by decide) HN1.out.1 HN1.out.2.1 HN1.out.2.2 _ rfl ?_; intro g' cap' w' hown hgrow hat hlt'; have HOW := Stow.mk hown; have HGR := Stow.mk hgrow; have ha := held_grown HD.out hgrow (fun e => by have := (World.ownsRow.lt HO.out bx e).1; omega); have b1' := ha.cell (i := 1) rfl; have f1' := ha.free 1; clear hown hgrow hat ha)
                all_goals
                  go_wp2_with fail
                  go_ret
                  refine ⟨?_, ?_, .slice (some ⟨g', 0, none⟩) (np + 1) cap', ?_⟩
                  · rw [HPL.out]; rfl
                  · exact (HBG.out.grown HGR.out (by simp; omega) (fun k hk => by have := (HO.out.lt k hk).1; omega)).setCell (p := ⟨bx, 1, none⟩) (Nat.le_refl _) _
                  · rw [HPL.out]
                    exact HXW.out.more HNP.out HD.out (by simp) (p := ⟨(j : Int), [], b⟩) HOW.out HGR.out (by refine ⟨?_, ?_⟩ <;> simp only <;> omega)
            · rw [if_neg hf] at hp
              rw [Bool.not_eq_true] at hf
              rw [hf] at HC4
              subst hp
              clear hf
              go_upto_region 7 with fail
              rw [HW3.out]
              go_wp2_with fail
              refine HC4.out.mono ?_
              rintro e w4 ⟨rfl, hb4⟩
              have HB4 := Stow.mk (Below.call HB3.out hb4)
              clear hb4 HC4
              go_wp2_with fail
              go_ret
              exact ⟨rfl, HB4.out.mono (by omega), _, HX.out.keep HB4.out⟩
        · have hss : (W == a) = false := by simp [hs]
          have HN2 : Stow (∀ i, 1 ≤ i → i < j + 1 → Cf.wordN i ≠ a) := ⟨fun i h1 h2 => by
            by_cases e : i = j
            · subst e; rw [HW.out]; exact hs
            · exact HJ.out i h1 (by omega)⟩
          clear hs
          go_wp2_with fail
          exact ⟨⟨j + 1, rfl, by omega, HN2⟩, by simp [intOf]; omega⟩
    · obtain rfl : j = 7 := by omega
      have hn := HNO.out (fun j h1 h2 => HJ.out j h1 (by omega))
      subst hn
      go_wp2_with fail
      go_ret
      exact ⟨rfl, HB2.out.mono (by omega), _, HX.out.keep HB2.out⟩
end Go.Proofs.YtfbhdkkmcfnghaaGreatDoor
