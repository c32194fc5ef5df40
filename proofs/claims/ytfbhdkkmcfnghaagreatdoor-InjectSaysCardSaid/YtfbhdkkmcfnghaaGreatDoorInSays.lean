/- Walk of the law InjectSays. Conditions: what the form's reach gives; a variable of the library's holds an int. -/
import Derived.Test.YtfbhdkkmcfnghaaGreatDoorInRef3
import Derived.Test.YtfbhdkkmcfnghaaGreatDoorInData
namespace Go.Proofs.YtfbhdkkmcfnghaaGreatDoor
open Go.RowKit Cells
set_option linter.unusedVariables false

theorem wpList_load_guarded {P : Program} {ops : Array Oper} {rest : List Oper} {op : Oper} {a : Act} {w : World} {Q : Exit → Act → World → Prop} (hw : Region.wanted op (yielded ops a.tmps) = true) (ty : TypeId) (x : Operand) (ho : op.op = .load ty x)
    (b o : Nat) (hx : a.eval x = .pointer (some ⟨b, o, none⟩)) (cs : List Value) (d : TypeDesc) (hc : w.rangeAt b o cs)
    (hu : P.underlying ty = some d) (hd : d.isRow = true) (hi : (P.info? ty).map (·.size) = some cs.length)
    (h : wpList P ops Q rest (a.put op.dst (.agg cs.toArray)) w) : wpList P ops Q (op :: rest) a w :=
  wpList_step fun K hK => by
    rw [if_pos hw]
    exact wp_load_mid ty x ho b o hx cs d hc hu hd hi (hK _ _ h)
theorem Held.range {W : World} {g : Nat} {cs : List Value} (h : Held W g cs) : W.rangeAt g 0 cs := fun j v hj => by rw [Nat.zero_add]; exact h.cell hj
set_option maxHeartbeats 4000000 in
set_option maxRecDepth 100000 in
theorem says23 (L : List Hd) (A : Option Addr) (cap : Nat) (p : Pr) (w : World) (hS : HdR w A cap L) (hf : In.Pr.fits p) (hm : MaxIs w) :
    Calls Tryz.prog 3 #[.slice A L.length cap, p.val] w fun e w' => e = .returned (.bool true) ∧ Below w.heap.size w w' := by
  have HT := Stow.mk (Held.made w [.int .u64 p.hi, .int .u64 p.lo, .int .u64 p.sp, .int .i64 p.fl] 27)
  have HB := Stow.mk (Below.alloc' (Below.self w) (.cells #[.int .u64 p.hi, .int .u64 p.lo, .int .u64 p.sp, .int .i64 p.fl] 27))
  obtain ⟨W0, hW0⟩ : ∃ W, w.alloc (.cells #[.int .u64 p.hi, .int .u64 p.lo, .int .u64 p.sp, .int .i64 p.fl] 27) = W := ⟨_, rfl⟩
  rw [show w.alloc (.cells [.int .u64 p.hi, .int .u64 p.lo, .int .u64 p.sp, .int .i64 p.fl].toArray 27) = W0 from hW0] at HT
  rw [hW0] at HB
  have HW0 := Stow.mk hW0
  have HS := Stow.mk hS
  have HM := Stow.mk hm
  obtain ⟨f, hfw⟩ : ∃ f, fewH L = f := ⟨_, rfl⟩
  have KF := fun W h => few04_any L A cap W h
  rw [hfw] at KF
  have HKF := Stow.mk KF
  have HF : Stow (f = true → L.length ≤ 60 ∧ ∀ m ∈ L, m.2.length ≤ 400) := ⟨fun h => fewH_of (by rw [hfw]; exact h)⟩
  have K1 := Stow.mk (fun W h h1 h2 hm => inInto_any L A cap p W h h1 h2 hf hm)
  have K2 := Stow.mk (fun W h h1 h2 => refInto_any L A cap p W h h1 h2 hf)
  have K3 := Stow.mk (fun W h h1 => inFrom_any L A cap W h h1)
  have K4 := Stow.mk (fun W h h0 h1 => refFrom_any L A cap W h h0 h1)
  have K5 := Stow.mk (fun W h h1 => inStrip_any A cap L W h h1)
  have K6 := Stow.mk (fun W h h1 => refStrip_any A cap L W h h1)
  obtain ⟨Q, hQ⟩ : ∃ Q, In.put L p = Q := ⟨_, rfl⟩
  obtain ⟨er, he⟩ : ∃ er, In.prErr p = er := ⟨_, rfl⟩
  obtain ⟨⟨⟨hi2, lo2, sp2, fl2⟩, er2⟩, hr⟩ : ∃ r, In.from_ L = r := ⟨_, rfl⟩
  obtain ⟨Z, hZ⟩ : ∃ Z, In.strip L = Z := ⟨_, rfl⟩
  rw [hQ, he] at K1 K2
  rw [hr] at K3 K4
  rw [hZ] at K5 K6
  obtain ⟨hi, lo, sp, fl⟩ := p
  unfold Pr.val at K1 K2 K3 K4 ⊢
  simp only at K1 K2 K3 K4 HT HB HW0 ⊢
  clear hS hm KF hfw hf hQ he hr hZ hW0
  go_enter Tryz.func3, Tryz.ntmps3
  go_upto_region 1 with fail
  generalize hW : World.alloc w _ = W
  obtain rfl : W0 = W := HW0.out.symm.trans hW
  clear hW HW0
  go_wp2_with fail
  refine (HKF.out _ (HS.out.keep HB.out)).mono ?_
  rintro e w1 ⟨rfl, hb1⟩
  have HT := Stow.mk (HT.out.kept hb1)
  have HB := Stow.mk (HB.out.trans (hb1.mono HB.out.size))
  clear hb1
  cases f
  · go_wp2_with fail
    refine (known23_any _ (HM.out.keep HB.out)).mono ?_
    rintro e wk ⟨rfl, hbk⟩
    have HBK := Stow.mk (HB.out.trans (hbk.mono HB.out.size))
    clear hbk
    go_wp2_with fail
    go_ret
    exact ⟨rfl, HBK.out⟩
  obtain ⟨h60, h400⟩ := HF.out rfl
  have HL := Stow.mk h400
  have H60 := Stow.mk h60
  clear h60 h400
  have c0 := HT.out.cell (i := 0) rfl
  have c1 := HT.out.cell (i := 1) rfl
  have c2 := HT.out.cell (i := 2) rfl
  have c3 := HT.out.cell (i := 3) rfl
  go_wp2_with fail
  refine (K1.out _ (HS.out.slr.keep HB.out) (by have := H60.out; omega) HL.out (HM.out.keep HB.out)).mono ?_
  rintro e w2 ⟨v2, rfl, hr2, hb2⟩
  have HT := Stow.mk (HT.out.kept hb2)
  have HB := Stow.mk (HB.out.trans (hb2.mono HB.out.size))
  have HR2 := Stow.mk hr2.slr
  clear hb2 hr2 c0 c1 c2 c3
  have c0 := HT.out.cell (i := 0) rfl
  have c1 := HT.out.cell (i := 1) rfl
  have c2 := HT.out.cell (i := 2) rfl
  have c3 := HT.out.cell (i := 3) rfl
  go_wp2_with fail
  refine (K2.out _ (HS.out.slr.keep HB.out) (by have := H60.out; omega) HL.out).mono ?_
  rintro e w3 ⟨v3, rfl, hr3, hb3⟩
  have HB := Stow.mk (HB.out.trans (hb3.mono HB.out.size))
  have HR2 := Stow.mk (HR2.out.keep hb3)
  have HR3 := Stow.mk hr3.slr
  clear hb3 hr3 c0 c1 c2 c3
  go_wp2_with fail
  refine (K3.out _ (HS.out.slr.keep HB.out) (fun m hm => Nat.le_trans (HL.out m hm) (by omega))).mono ?_
  rintro e w4 ⟨rfl, hb4⟩
  have ba := Below.alloc' (Below.self w4) (.cells #[.int .u64 hi2, .int .u64 lo2, .int .u64 sp2, .int .i64 fl2] 27)
  have HP5 := Stow.mk (Held.made w4 [.int .u64 hi2, .int .u64 lo2, .int .u64 sp2, .int .i64 fl2] 27)
  have HB := Stow.mk (HB.out.trans ((hb4.trans (ba.mono hb4.size)).mono HB.out.size))
  have HR2 := Stow.mk ((HR2.out.keep hb4).keep ba)
  have HR3 := Stow.mk ((HR3.out.keep hb4).keep ba)
  obtain ⟨W4, hW4⟩ : ∃ W, w4.alloc (.cells #[.int .u64 hi2, .int .u64 lo2, .int .u64 sp2, .int .i64 fl2] 27) = W := ⟨_, rfl⟩
  rw [show w4.alloc (.cells [.int .u64 hi2, .int .u64 lo2, .int .u64 sp2, .int .i64 fl2].toArray 27) = W4 from hW4] at HP5
  rw [hW4] at HB HR2 HR3
  have HWS := Stow.mk hW4
  clear hb4 ba hW4
  go_upto_region 6 with fail
  generalize hW : World.alloc w4 _ = W
  obtain rfl : W4 = W := HWS.out.symm.trans hW
  clear hW HWS
  go_wp2_with fail
  refine (K4.out _ (HS.out.slr.keep HB.out) (by have := H60.out; omega) (fun m hm => Nat.le_trans (HL.out m hm) (by omega))).mono ?_
  rintro e w5 ⟨rfl, hb5⟩
  have ba := Below.alloc' (Below.self w5) (.cells #[.int .u64 hi2, .int .u64 lo2, .int .u64 sp2, .int .i64 fl2] 27)
  have HP6 := Stow.mk (Held.made w5 [.int .u64 hi2, .int .u64 lo2, .int .u64 sp2, .int .i64 fl2] 27)
  have HP5 := Stow.mk ((HP5.out.kept hb5).kept ba)
  have HB := Stow.mk (HB.out.trans ((hb5.trans (ba.mono hb5.size)).mono HB.out.size))
  have HR2 := Stow.mk ((HR2.out.keep hb5).keep ba)
  have HR3 := Stow.mk ((HR3.out.keep hb5).keep ba)
  obtain ⟨W5, hW5⟩ : ∃ W, w5.alloc (.cells #[.int .u64 hi2, .int .u64 lo2, .int .u64 sp2, .int .i64 fl2] 27) = W := ⟨_, rfl⟩
  rw [show w5.alloc (.cells [.int .u64 hi2, .int .u64 lo2, .int .u64 sp2, .int .i64 fl2].toArray 27) = W5 from hW5] at HP6
  rw [hW5] at HB HR2 HR3 HP5
  have HWS := Stow.mk hW5
  clear hb5 ba hW5
  go_upto_region 7 with fail
  generalize hW : World.alloc w5 _ = W
  obtain rfl : W5 = W := HWS.out.symm.trans hW
  clear hW HWS
  go_wp2_with fail
  refine (hdSame_any Q v2 v3 _ HR2.out HR3.out).mono ?_
  rintro e w6 ⟨rfl, hb6⟩
  have HB := Stow.mk (HB.out.trans (hb6.mono HB.out.size))
  have HG5 := Stow.mk (HP5.out.kept hb6).range
  have HG6 := Stow.mk (HP6.out.kept hb6).range
  have HEQ := eql_parent hi2 lo2 sp2 fl2
  clear hb6
  go_wp2_with (first
    | (refine wpList_load_guarded rfl 27 (.tmp 9) rfl w4.heap.size 0 rfl [.int .u64 hi2, .int .u64 lo2, .int .u64 sp2, .int .i64 fl2] _ HG5.out Tryz.underlying27 rfl (by kernel_rfl) ?_)
    | (refine wpList_load_guarded rfl 27 (.tmp 11) rfl w5.heap.size 0 rfl [.int .u64 hi2, .int .u64 lo2, .int .u64 sp2, .int .i64 fl2] _ HG6.out Tryz.underlying27 rfl (by kernel_rfl) ?_))
  refine (K5.out _ (HS.out.slr.keep HB.out) (by have := H60.out; omega)).mono ?_
  rintro e w7 ⟨v7, rfl, hr7, hb7⟩
  have HB := Stow.mk (HB.out.trans (hb7.mono HB.out.size))
  have HR7 := Stow.mk hr7.slr
  clear hb7 hr7
  go_wp2_with fail
  refine (K6.out _ (HS.out.slr.keep HB.out) (by have := H60.out; omega)).mono ?_
  rintro e w8 ⟨v8, rfl, hr8, hb8⟩
  have HB := Stow.mk (HB.out.trans (hb8.mono HB.out.size))
  have HR7 := Stow.mk (HR7.out.keep hb8)
  have HR8 := Stow.mk hr8.slr
  clear hb8 hr8
  go_wp2_with fail
  refine (hdSame_any Z v7 v8 _ HR7.out HR8.out).mono ?_
  rintro e w9 ⟨rfl, hb9⟩
  have HB := Stow.mk (HB.out.trans (hb9.mono HB.out.size))
  clear hb9
  go_wp2_with fail
  refine (known23_any _ (HM.out.keep HB.out)).mono ?_
  rintro e wk ⟨rfl, hbk⟩
  have HBK := Stow.mk (HB.out.trans (hbk.mono HB.out.size))
  clear hbk
  go_wp2_with fail
  go_ret
  exact ⟨by first | rfl | simp, HBK.out⟩
theorem says23_at (v : Value) (p : Pr) (w : World) (h : pSlice w 2 headCells v) (hf : In.Pr.fits p) (hm : MaxIs w) : Calls Tryz.prog 3 #[v, p.val] w fun e w' => e = .returned (.bool true) ∧ Below w.heap.size w w' := by
  obtain ⟨L, B, cap, rfl, hL⟩ := heads_of h
  exact says23 L B cap p w hL hf hm
end Go.Proofs.YtfbhdkkmcfnghaaGreatDoor
