/- Walk of the flow laws' known: fixed calls. No condition. -/
import Derived.Test.YthbpcdoddcacdaaFlWant
import Derived.Test.YthbpcdoddcacdaaFlRunW
import Derived.Test.YthbpcdoddcacdaaFlEnter
import Derived.Test.YthbpcdoddcacdaaFlSameF
namespace Go.Proofs.Ythbpcdoddcacdaa
open Go.RowKit
set_option linter.unusedVariables false

def kops : List Ox := [⟨1, [97], [], 0⟩, ⟨6, [98], [47, 120], 0⟩, ⟨1, [99], [], 0⟩]
def kfr : Fr := ⟨1, kops, 0, 200, [], [71, 69, 84], [], [], [], [], 0, 0, 0⟩
def kfr1 : Fr := { kfr with at_ := 2, body := [97] }
def kfr2 : Fr := { kfr1 with body := [97, 110, 111], st := 502 }
def kfr3 : Fr := { kfr2 with at_ := 3, body := [97, 110, 111, 99] }
theorem krun1 : runL [kfr] none false = ([kfr1], .call [71, 69, 84] [98] [47, 120] [] [97], none) := rfl
theorem kans : ansL 404 [110, 111] [kfr1] = [kfr2] := rfl
theorem krun2 : runL [kfr2] none false = ([], .done 502 [97, 110, 111, 99] kfr3, none) := rfl
theorem krun3 : runL [] none false = ([], .none, none) := rfl
theorem kfits {x : Fr} (h1 : x.ops = kops) (h2 : x.hs = []) (h3 : x.b = []) (h4 : x.body.length ≤ 1000) : RunFits 10 x none :=
  ⟨by omega, by rw [h1]; unfold kops; simp, by rw [h2]; simp, by rw [h3]; simp, h4, fun S0 h => by cases h⟩
theorem turn_none {w w' : World} (h : Turn (fun _ => False) w w') : Below w.heap.size w w' := h.below (fun _ hf => hf.elim) (Nat.le_refl _)
theorem FlD.turn {D : Nat} {w w' : World} {F : Nat → Prop} {A : Option Addr} {cap : Nat} {L : List Fm} (h : FlD D w A cap L) (ht : Turn F w w') (hF : ∀ k, F k → k < D) : FlD D w' A cap L :=
  ⟨⟨slrTurn h.rd.row ht fun ad e hf => by have := h.row ad e; have := hF _ hf; omega, fun x hx => (h.rd.each x hx).turn ht ((h.lists x hx).mono fun b hb hf => by have := hF b hf; omega)⟩, h.row, h.lists⟩
/-- A whole struct is loaded behind a guard. -/
theorem wpList_load_guarded {P : Program} {ops : Array Oper} {rest : List Oper} {op : Oper} {a : Act} {w : World} {Q : Exit → Act → World → Prop} (hw : Region.wanted op (yielded ops a.tmps) = true) (ty : TypeId) (x : Operand) (ho : op.op = .load ty x)
    (b o : Nat) (hx : a.eval x = .pointer (some ⟨b, o, none⟩)) (cs : List Value) (d : TypeDesc) (hc : w.rangeAt b o cs)
    (hu : P.underlying ty = some d) (hd : d.isRow = true) (hi : (P.info? ty).map (·.size) = some cs.length)
    (h : wpList P ops Q rest (a.put op.dst (.agg cs.toArray)) w) : wpList P ops Q (op :: rest) a w :=
  wpList_step fun K hK => by
    rw [if_pos hw]
    exact wp_load_mid ty x ho b o hx cs d hc hu hd hi (hK _ _ h)
theorem slr_empty {w w' : World} {c n cap : Nat} {A : Option Addr} (h : SlR w c (.slice A n cap) []) : SlR w' c (.slice A n cap) [] := by
  obtain ⟨A', cap', hv, h1, h2, h3⟩ := h
  exact ⟨A', cap', hv, h1, h2, fun hL => absurd rfl hL⟩
theorem map_one {L : List Fm} {c : Fr} (h : L.map Fm.c = [c]) : ∃ x, L = [x] ∧ x.c = c := by
  rcases L with _ | ⟨x, _ | ⟨y, t⟩⟩
  · cases h
  · exact ⟨x, rfl, by simpa using h⟩
  · simp at h
set_option maxHeartbeats 4000000 in
set_option maxRecDepth 100000 in
theorem known37_any (w : World) : Calls Try.prog 16 #[] w fun e w' => e = .returned (.bool true) ∧ Below w.heap.size w w' := by
  obtain ⟨x, hx⟩ : ∃ x : Fm, x = ⟨kfr, some ⟨w.heap.size, 0, none⟩, 3, none, 0⟩ := ⟨_, rfl⟩
  have hb1 := Below.alloc' (Below.self w) (.cells (kops.flatMap Ox.cells).toArray 106)
  have hb2 := Below.alloc' (Below.self (w.alloc (.cells (kops.flatMap Ox.cells).toArray 106))) (.cells x.cells.toArray 30)
  have hops := own_of_cells (w := w.alloc (.cells (kops.flatMap Ox.cells).toArray 106)) (B := w.heap.size) (e := 106) (c := 4) (n := 3) (cap := 3) (A := some ⟨w.heap.size, 0, none⟩) (L := kops) (enc := Ox.cells) (fun _ => rfl) (World.ownsRow_lit w (kops.flatMap Ox.cells).toArray 3 (Nat.le_refl _) (by unfold maxLen; omega) rfl) rfl
  have hfx := hops.keep hb2
  have hX := Held.made (w.alloc (.cells (kops.flatMap Ox.cells).toArray 106)) x.cells 30
  have hb := Below.call hb1 hb2
  obtain ⟨W0, hW0⟩ : ∃ W, (w.alloc (.cells (kops.flatMap Ox.cells).toArray 106)).alloc (.cells x.cells.toArray 30) = W := ⟨_, rfl⟩
  rw [hW0] at hfx hX hb
  simp only [World.size_alloc] at hX
  have HFX := Stow.mk (show FmR W0 x by rw [hx]; exact ⟨hfx, SlR.nil _ _⟩)
  have HX := Stow.mk hX
  have HB := Stow.mk hb
  have HEN := Stow.mk (flEnter_ok none 0 0 [] 0 x W0 (by omega) ⟨SlR.nil _ _, by simp⟩ HFX.out (by simp) (by rw [hx]; exact ⟨by show kops.length ≤ 1000; decide, by show ([] : List Hd).length ≤ 1000; decide⟩) rfl)
  have HKX := Stow.mk (show x.c = kfr by rw [hx])
  subst hx
  have HW0 := Stow.mk hW0
  clear hb1 hb2 hops hfx hX hb hW0
  go_enter Try.func16, Try.ntmps16
  go_upto_region 2 with fail
  generalize hW : World.alloc (World.alloc w _) _ = W
  obtain rfl : W = W0 := hW.symm.trans HW0.out
  clear hW HW0
  have c0x := HX.out.cell (i := 0) rfl
  have c1x := HX.out.cell (i := 1) rfl
  have c2x := HX.out.cell (i := 2) rfl
  have c3x := HX.out.cell (i := 3) rfl
  have c4x := HX.out.cell (i := 4) rfl
  have c5x := HX.out.cell (i := 5) rfl
  have c6x := HX.out.cell (i := 6) rfl
  have c7x := HX.out.cell (i := 7) rfl
  have c8x := HX.out.cell (i := 8) rfl
  have c9x := HX.out.cell (i := 9) rfl
  have c10x := HX.out.cell (i := 10) rfl
  have c11x := HX.out.cell (i := 11) rfl
  have c12x := HX.out.cell (i := 12) rfl
  go_wp2_with fail
  refine HEN.out.mono ?_
  rintro e w2 ⟨A2, c2, L2, he, hc2, hF2, hb2⟩
  obtain rfl : e = .returned (.tuple #[.agg #[.slice A2 1 c2, .int .i64 0], .int .i64 0]) := he
  have hww2 : w.heap.size ≤ w2.heap.size := by have := HB.out.size; have := hb2.size; omega
  clear c0x c1x c2x c3x c4x c5x c6x c7x c8x c9x c10x c11x c12x
  have hL2 : L2.map Fm.c = [kfr] := by rw [hc2]; rfl
  obtain ⟨x2, rfl, hx2⟩ := map_one hL2
  have ba := Below.alloc' (Below.self w2) (.cells #[.slice A2 1 c2, .int .i64 0] 24)
  have HB := Stow.mk (HB.out.trans ((hb2.trans (ba.mono hb2.size)).mono HB.out.size))
  have HT2 := Stow.mk (Held.made w2 [.slice A2 1 c2, .int .i64 0] 24)
  have hF2' := hF2.keep ba
  have hs2 := hb2.size
  obtain ⟨W2, hW2⟩ : ∃ W, w2.alloc (.cells #[.slice A2 1 c2, .int .i64 0] 24) = W := ⟨_, rfl⟩
  rw [show w2.alloc (.cells [.slice A2 1 c2, .int .i64 0].toArray 24) = W2 from hW2] at HT2
  rw [hW2] at hF2' HB
  have hru := flRun_any W2 A2 c2 1 [x2] 0 none (fun _ => False) none 0 10 false hF2'.rd rfl (by omega) (by intro y hy; obtain rfl : y = x2 := (by simpa using hy); rw [hx2]; exact ⟨by show kops.length ≤ 1000; decide, by show ([] : List Hd).length ≤ 1000; decide⟩) (.inl ⟨rfl, rfl⟩) (fun _ h => h.elim) (by omega) (by intro y hy; obtain rfl : y = x2 := (by simpa using hy); rw [hx2]; exact kfits rfl rfl rfl (by show ([] : Txt).length ≤ 1000; decide))
  rw [List.map_singleton, hx2, krun1] at hru
  have HRU := Stow.mk hru
  have ht2l := HT2.out.lt
  have q0 := HT2.out.cell (i := 0) rfl
  have q1 := HT2.out.cell (i := 1) rfl
  have HWS := Stow.mk hW2
  clear hru hF2 hF2' hb2 hc2 hL2 ba HEN HFX HKX HX hW2
  go_upto_region 3 with fail
  rw [show w2.alloc (.cells #[.slice A2 1 c2, .int .i64 0] 24) = W2 from HWS.out]
  clear HWS
  go_wp2_with fail
  refine HRU.out.mono ?_
  rintro e w3 ⟨A3, c3, L3, wc3, F3, he, hL3, hF3, hw3, -, -, ht3⟩
  obtain rfl : e = .returned (.tuple #[.agg #[.slice A3 1 c3, .int .i64 0], .agg wc3.toArray]) := he
  obtain ⟨A3', c3', rfl, hs3, hd3⟩ := hw3
  have hb3 := turn_none ht3
  obtain ⟨x3, rfl, hx3⟩ := map_one hL3
  have bz := Below.alloc' (Below.self w3) (.cells want0.toArray 98)
  have HB := Stow.mk (HB.out.trans ((hb3.trans (bz.mono hb3.size)).mono HB.out.size))
  have HT2 := Stow.mk ((HT2.out.kept hb3).kept bz)
  have HT4 := Stow.mk (Held.made w3 want0 98)
  have HF3 := Stow.mk hF3
  have HU := Stow.mk (Turn.of_below (F := fun k => k = w2.heap.size) bz)
  have H2T := Stow.mk (show (w3.alloc (.cells want0.toArray 98)).there w2.heap.size 0 ([.slice A3 1 c3, .int .i64 0] : List Value).length from HT2.out.there)
  have hs3' := hb3.size
  have hO1 : Only w2.heap.size (w3.alloc (.cells want0.toArray 98)) ((w3.alloc (.cells want0.toArray 98)).setCells w2.heap.size 0 [.slice A3 1 c3, .int .i64 0]) := only_all _ _ _
  have HT2 := Stow.mk (HT2.out.over [.slice A3 1 c3, .int .i64 0] rfl)
  have HT4 := Stow.mk (HT4.out.offO hO1 (by omega))
  have HU := Stow.mk (HU.out.trans (Turn.of_grown (F := fun k => k = w2.heap.size) hO1 (.inl rfl)) fun j hj => .inl hj)
  have HB := Stow.mk (HB.out.trans (hO1.below hww2 HB.out.size))
  have H4T := Stow.mk (show ((w3.alloc (.cells want0.toArray 98)).setCells w2.heap.size 0 [.slice A3 1 c3, .int .i64 0]).there w3.heap.size 0 (wantc 1 [71, 69, 84] [98] [47, 120] A3' 0 c3' [97] 0 [] fmz).length from HT4.out.there)
  have hO2 : Only w3.heap.size ((w3.alloc (.cells want0.toArray 98)).setCells w2.heap.size 0 [.slice A3 1 c3, .int .i64 0]) (((w3.alloc (.cells want0.toArray 98)).setCells w2.heap.size 0 [.slice A3 1 c3, .int .i64 0]).setCells w3.heap.size 0 (wantc 1 [71, 69, 84] [98] [47, 120] A3' 0 c3' [97] 0 [] fmz)) := only_all _ _ _
  have HT4 := Stow.mk (HT4.out.over (wantc 1 [71, 69, 84] [98] [47, 120] A3' 0 c3' [97] 0 [] fmz) rfl)
  have HT2 := Stow.mk (HT2.out.offO hO2 (by omega))
  have HU := Stow.mk (HU.out.trans (Turn.of_grown (F := fun k => k = w3.heap.size) hO2 (.inl rfl)) fun j hj => .inr (by omega))
  have HF3 := Stow.mk (HF3.out.turn HU.out fun j hj => by omega)
  have HB := Stow.mk (HB.out.trans (hO2.below (show w.heap.size ≤ w3.heap.size by omega) HB.out.size))
  obtain ⟨W4, hW4⟩ : ∃ W, ((w3.alloc (.cells want0.toArray 98)).setCells w2.heap.size 0 [.slice A3 1 c3, .int .i64 0]).setCells w3.heap.size 0 (wantc 1 [71, 69, 84] [98] [47, 120] A3' 0 c3' [97] 0 [] fmz) = W := ⟨_, rfl⟩
  have HUS := Stow.mk HU.out.size
  rw [hW4] at HT2 HT4 HF3 HB HUS
  have HWS := Stow.mk hW4
  have HTL := Stow.mk HT4.out.lt
  clear hO1 hO2 hW4 HU bz q0 q1
  go_upto_region 4 with (first
    | (refine wpList_store_hx rfl 24 (.tmp 2) (.tmp 22) rfl rfl w2.heap.size 0 [.slice A3 1 c3, .int .i64 0] rfl rfl H2T.out (by kernel_rfl) (by intro u hu; simp at hu; rcases hu with rfl | rfl <;> rfl) ?_)
    | (refine wpList_store_hx rfl 98 (.tmp 4) (.tmp 23) rfl rfl w3.heap.size 0 (wantc 1 [71, 69, 84] [98] [47, 120] A3' 0 c3' [97] 0 [] fmz) rfl rfl H4T.out (by rw [wantc_len]; kernel_rfl) (wantc_one _ _ _ _ _ _ _ _ _ _ _) ?_))
  generalize hW5 : World.setCells _ w3.heap.size _ _ = W5
  obtain rfl : W5 = W4 := hW5.symm.trans HWS.out
  clear hW5 HWS H2T H4T
  have q0 := HT2.out.cell (i := 0) rfl
  have q1 := HT2.out.cell (i := 1) rfl
  have v0 := HT4.out.cell (i := 0) rfl
  have v1 := HT4.out.cell (i := 1) rfl
  have v2 := HT4.out.cell (i := 2) rfl
  have v3 := HT4.out.cell (i := 3) rfl
  have v5 := HT4.out.cell (i := 5) rfl
  go_wp2_with fail
  clear q0 q1 v0 v1 v2 v3 v5
  have hus := HUS.out
  have htl := HTL.out
  have han := flAnswer_any A3 c3 1 [x3] 0 404 (.slice none 0 0) [110, 111] W5 HF3.out.rd (by simp) (by intro y hy; obtain rfl : y = x3 := (by simpa using hy); rw [hx3]; exact ⟨by show kops.length ≤ 1000; decide, by show ([] : List Hd).length ≤ 1000; decide⟩) (by intro y hy; obtain rfl : y = x3 := (by simpa using hy); rw [hx3]; decide) rfl
  rw [List.map_singleton, hx3, kans] at han
  refine han.mono ?_
  rintro e w6 ⟨A6, c6, L6, he, hL6, hF6, hb6⟩
  obtain rfl : e = .returned (.agg #[.slice A6 1 c6, .int .i64 0]) := he
  obtain ⟨x6, rfl, hx6⟩ := map_one hL6
  have HB := Stow.mk (HB.out.trans (hb6.mono HB.out.size))
  have HT2 := Stow.mk (HT2.out.kept hb6)
  have HT4 := Stow.mk (HT4.out.kept hb6)
  have ht2w := HT2.out.lt
  have hs6 := hb6.size
  have hO6 : Only w2.heap.size w6 (w6.setCells w2.heap.size 0 [.slice A6 1 c6, .int .i64 0]) := only_all _ _ _
  have H2T := Stow.mk (show w6.there w2.heap.size 0 ([.slice A6 1 c6, .int .i64 0] : List Value).length from HT2.out.there)
  have HT2 := Stow.mk (HT2.out.over [.slice A6 1 c6, .int .i64 0] rfl)
  have HT4 := Stow.mk (HT4.out.offO hO6 (by omega))
  have HF6 := Stow.mk (hF6.dd.only hO6 (by omega))
  have HB := Stow.mk (HB.out.trans (hO6.below hww2 HB.out.size))
  have hs66 := hO6.size
  obtain ⟨W6, hW6⟩ : ∃ W, w6.setCells w2.heap.size 0 [.slice A6 1 c6, .int .i64 0] = W := ⟨_, rfl⟩
  rw [hW6] at HT2 HT4 HF6 HB hs66
  have HWS := Stow.mk hW6
  clear hO6 hW6 hb6 hF6 hL6 han
  go_upto_region 7 with (refine wpList_store_hx rfl 24 (.tmp 2) (.tmp 57) rfl rfl w2.heap.size 0 [.slice A6 1 c6, .int .i64 0] rfl rfl H2T.out (by kernel_rfl) (by intro u hu; simp at hu; rcases hu with rfl | rfl <;> rfl) ?_)
  rw [HWS.out]
  clear HWS H2T
  have q0 := HT2.out.cell (i := 0) rfl
  have q1 := HT2.out.cell (i := 1) rfl
  have hru := flRun_any W6 A6 c6 1 [x6] 0 none (fun _ => False) none 0 10 false HF6.out.rd rfl (by omega) (by intro y hy; obtain rfl : y = x6 := (by simpa using hy); rw [hx6]; exact ⟨by show kops.length ≤ 1000; decide, by show ([] : List Hd).length ≤ 1000; decide⟩) (.inl ⟨rfl, rfl⟩) (fun _ h => h.elim) (by omega) (by intro y hy; obtain rfl : y = x6 := (by simpa using hy); rw [hx6]; exact kfits rfl rfl rfl (by decide))
  rw [List.map_singleton, hx6, krun2] at hru
  have HRU := Stow.mk hru
  clear hru
  go_wp2_with fail
  refine HRU.out.mono ?_
  rintro e w7 ⟨A7, c7, L7, wc7, F7, he, hL7, hF7, hw7, -, -, ht7⟩
  obtain rfl : e = .returned (.tuple #[.agg #[.slice A7 0 c7, .int .i64 0], .agg wc7.toArray]) := he
  obtain ⟨y7, hy7, rfl, hr7, hn7⟩ := hw7
  obtain rfl : L7 = [] := by simpa using hL7
  have hb7 := turn_none ht7
  have HB := Stow.mk (HB.out.trans (hb7.mono HB.out.size))
  have HT2 := Stow.mk (HT2.out.kept hb7)
  have HT4 := Stow.mk (HT4.out.kept hb7)
  have hs7 := hb7.size
  have hO1 : Only w2.heap.size w7 (w7.setCells w2.heap.size 0 [.slice A7 0 c7, .int .i64 0]) := only_all _ _ _
  have H2T := Stow.mk (show w7.there w2.heap.size 0 ([.slice A7 0 c7, .int .i64 0] : List Value).length from HT2.out.there)
  have HT2 := Stow.mk (HT2.out.over [.slice A7 0 c7, .int .i64 0] rfl)
  have HT4 := Stow.mk (HT4.out.offO hO1 (by omega))
  have HF7 := Stow.mk (hF7.only hO1 (by omega))
  have HB := Stow.mk (HB.out.trans (hO1.below hww2 HB.out.size))
  have H4T := Stow.mk (show (w7.setCells w2.heap.size 0 [.slice A7 0 c7, .int .i64 0]).there w3.heap.size 0 (wantc 2 [] [] [] none 0 0 [] 502 [97, 110, 111, 99] y7).length from HT4.out.there)
  have hO2 : Only w3.heap.size (w7.setCells w2.heap.size 0 [.slice A7 0 c7, .int .i64 0]) ((w7.setCells w2.heap.size 0 [.slice A7 0 c7, .int .i64 0]).setCells w3.heap.size 0 (wantc 2 [] [] [] none 0 0 [] 502 [97, 110, 111, 99] y7)) := only_all _ _ _
  have HT4 := Stow.mk (HT4.out.over (wantc 2 [] [] [] none 0 0 [] 502 [97, 110, 111, 99] y7) rfl)
  have HT2 := Stow.mk (HT2.out.offO hO2 (by omega))
  have HF7 := Stow.mk (HF7.out.only hO2 (by omega))
  have HB := Stow.mk (HB.out.trans (hO2.below (show w.heap.size ≤ w3.heap.size by omega) HB.out.size))
  have hs77 := Nat.le_trans hO1.size hO2.size
  obtain ⟨W7, hW7⟩ : ∃ W, (w7.setCells w2.heap.size 0 [.slice A7 0 c7, .int .i64 0]).setCells w3.heap.size 0 (wantc 2 [] [] [] none 0 0 [] 502 [97, 110, 111, 99] y7) = W := ⟨_, rfl⟩
  rw [hW7] at HT2 HT4 HF7 HB hs77
  have HWS := Stow.mk hW7
  clear hO1 hO2 hW7 q0 q1 ht7 hb7 hF7 hL7 hr7 hn7
  go_upto_region 8 with (first
    | (refine wpList_store_hx rfl 24 (.tmp 2) (.tmp 61) rfl rfl w2.heap.size 0 [.slice A7 0 c7, .int .i64 0] rfl rfl H2T.out (by kernel_rfl) (by intro u hu; simp at hu; rcases hu with rfl | rfl <;> rfl) ?_)
    | (refine wpList_store_hx rfl 98 (.tmp 4) (.tmp 62) rfl rfl w3.heap.size 0 (wantc 2 [] [] [] none 0 0 [] 502 [97, 110, 111, 99] y7) rfl rfl H4T.out (by rw [wantc_len]; kernel_rfl) (wantc_one _ _ _ _ _ _ _ _ _ _ _) ?_))
  rw [HWS.out]
  clear HWS H2T H4T
  have q0 := HT2.out.cell (i := 0) rfl
  have q1 := HT2.out.cell (i := 1) rfl
  have hru := flRun_any W7 A7 c7 0 [] 0 none (fun _ => False) none 0 10 false HF7.out.rd rfl (by omega) (by simp) (.inl ⟨rfl, rfl⟩) (fun _ h => h.elim) (by omega) (by simp)
  rw [List.map_nil, krun3] at hru
  have HRU := Stow.mk hru
  clear hru
  go_wp2_with fail
  refine HRU.out.mono ?_
  rintro e w8 ⟨A8, c8, L8, wc8, F8, he, hL8, hF8, hw8, -, -, ht8⟩
  obtain rfl : wc8 = want0 := hw8
  obtain rfl : e = .returned (.tuple #[.agg #[.slice A8 0 c8, .int .i64 0], .agg want0.toArray]) := he
  obtain rfl : L8 = [] := by simpa using hL8
  have hb8 := turn_none ht8
  have e8 : (w8.alloc (.cells #[.slice A8 0 c8, .int .i64 0] 24)).heap.size = w8.heap.size + 1 := by simp
  have ba1 := Below.alloc' (Below.self w8) (.cells #[.slice A8 0 c8, .int .i64 0] 24)
  have ba2 := Below.alloc' (Below.self (w8.alloc (.cells #[.slice A8 0 c8, .int .i64 0] 24))) (.cells want0.toArray 98)
  have hba := Below.call ba1 ba2
  have HT5 := Stow.mk ((Held.made w8 [.slice A8 0 c8, .int .i64 0] 24).kept ba2)
  have HT6 := Held.made (w8.alloc (.cells #[.slice A8 0 c8, .int .i64 0] 24)) want0 98
  rw [e8] at HT6
  have HT6 := Stow.mk HT6
  have HB := Stow.mk (HB.out.trans ((hb8.trans (hba.mono hb8.size)).mono HB.out.size))
  have HT2 := Stow.mk ((HT2.out.kept hb8).kept hba)
  have HT4 := Stow.mk ((HT4.out.kept hb8).kept hba)
  have HF8 := Stow.mk (hF8.keep hba)
  have HF7 := Stow.mk ((HF7.out.keep hb8).keep hba)
  have H6T := Stow.mk (show ((w8.alloc (.cells #[.slice A8 0 c8, .int .i64 0] 24)).alloc (.cells want0.toArray 98)).there (w8.heap.size + 1) 0 want0.length from HT6.out.there)
  have hO9 : Only (w8.heap.size + 1) ((w8.alloc (.cells #[.slice A8 0 c8, .int .i64 0] 24)).alloc (.cells want0.toArray 98)) (((w8.alloc (.cells #[.slice A8 0 c8, .int .i64 0] 24)).alloc (.cells want0.toArray 98)).setCells (w8.heap.size + 1) 0 want0) := only_all _ _ _
  have h2l := (HT2.out.lt)
  have hs8 := hb8.size
  have HT6 := Stow.mk (HT6.out.over want0 rfl)
  have HT5 := Stow.mk (HT5.out.offO hO9 (by omega))
  have HT2 := Stow.mk (HT2.out.offO hO9 (by omega))
  have HT4 := Stow.mk (HT4.out.offO hO9 (by omega))
  have HB := Stow.mk (HB.out.trans (hO9.below (show w.heap.size ≤ w8.heap.size + 1 by omega) HB.out.size))
  obtain ⟨W9, hW9⟩ : ∃ W, ((w8.alloc (.cells #[.slice A8 0 c8, .int .i64 0] 24)).alloc (.cells want0.toArray 98)).setCells (w8.heap.size + 1) 0 want0 = W := ⟨_, rfl⟩
  have HT5 := Stow.mk (show Held W9 w8.heap.size [.slice A8 0 c8, .int .i64 0] by rw [← hW9]; exact HT5.out)
  rw [hW9] at HT6 HB HT2 HT4
  have HWS := Stow.mk hW9
  have HSA := Stow.mk (flSame_any [] [] A8 A7 c8 c7 0 W9 rfl ⟨slr_empty (HF8.out.rd.row), by simp⟩ ⟨slr_empty (HF7.out.rd.row), by simp⟩)
  clear ba1 ba2 hba e8 hW9 hb8 ht8 hF8 hL8 q0 q1 hO9
  go_upto_region 9 with (refine wpList_store_hx rfl 98 (.tmp 6) (.tmp 67) rfl rfl (w8.heap.size + 1) 0 want0 rfl rfl H6T.out (by rw [wantc_len]; kernel_rfl) (wantc_one _ _ _ _ _ _ _ _ _ _ _) ?_)
  generalize hW : World.setCells _ _ _ _ = Wx
  obtain rfl : Wx = W9 := hW.symm.trans HWS.out
  clear hW HWS H6T
  have q0 := HT2.out.cell (i := 0) rfl
  have q1 := HT2.out.cell (i := 1) rfl
  have v0 := HT4.out.cell (i := 0) rfl
  have v6 := HT4.out.cell (i := 6) rfl
  have v8 := HT4.out.cell (i := 8) rfl
  have p0 := HT5.out.cell (i := 0) rfl
  have p1 := HT5.out.cell (i := 1) rfl
  go_wp2_with fail
  refine HSA.out.mono ?_
  rintro e w10 ⟨rfl, hb10⟩
  have HB := Stow.mk (HB.out.trans (hb10.mono HB.out.size))
  have HT6 := Stow.mk (HT6.out.kept hb10)
  have HSW := Stow.mk (wantSame_any 0 [] [] [] [] none none 0 0 [] 0 [] fmz fmz w10 rfl ⟨SlR.nil _ _, SlR.nil _ _⟩ ⟨SlR.nil _ _, SlR.nil _ _⟩ (SlR.nil _ _) (SlR.nil _ _))
  have HRG := Stow.mk HT6.out.range
  clear q0 q1 v0 v6 v8 p0 p1 hb10
  go_wp2_with (refine wpList_load_guarded rfl 98 (.tmp 6) rfl (w8.heap.size + 1) 0 rfl want0 _ HRG.out Try.underlying98 rfl (by rw [wantc_len]; kernel_rfl) ?_)
  refine HSW.out.mono ?_
  rintro e w11 ⟨rfl, hb11⟩
  have HB := Stow.mk (HB.out.trans (hb11.mono HB.out.size))
  clear hb11
  go_wp2_with fail
  go_ret
  exact ⟨by first | rfl | simp, HB.out⟩
end Go.Proofs.Ythbpcdoddcacdaa
