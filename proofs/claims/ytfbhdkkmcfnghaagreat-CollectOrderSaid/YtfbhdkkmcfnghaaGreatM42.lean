/- Walk of Collector.add. Conditions: the collector's memory, the spans'.; Walk of Collector.Receive. Conditions: the collector's memory; a text's length. -/
import Derived.Test.YtfbhdkkmcfnghaaGreatM38

section
namespace Go.Proofs.YtfbhdkkmcfnghaaGreat
open Go.RowKit
set_option linter.unusedVariables false
set_option linter.unusedSimpArgs false

theorem dd_to {D : List Wi} (node x : Int) {v : Value} {R : List Wm} {w : World} (hW : WinR w v R) (hR : wis R = D) (hok : Dd.Ok D) :
    Calls Tryz.prog 52 #[v, .int .i64 node, .int .i64 x] w fun e w' => ∃ v' R', e = .returned (.tuple #[v', .bool (Dd.fresh D node x).2]) ∧ wis R' = (Dd.fresh D node x).1 ∧ WinR w' v' R' ∧ Below w.heap.size w w' ∧ NewW w.heap.size v' R' := by
  subst hR
  exact ddFresh_any node x v R w hW hok
theorem Turn.mono {F : Nat → Prop} {B : Nat} {w w' : World} (h : Below B w w') (hB : ∀ k, k < w.heap.size → ¬ F k → k < B) : Turn F w w' := ⟨h.os, h.tape, h.output, h.size, fun k hk hf => h.block k (hB k hk hf)⟩
set_option maxHeartbeats 4000000 in
set_option maxRecDepth 100000 in
theorem coAdd_any {w : World} {P : Nat → Prop} {g m : Nat} {c : Co} (h : CoM w P g c) (hc : c.Ok m) (hm : m ≤ 1000000) (hP : ∀ k, w.heap.size ≤ k → P k) (x y : Nat) (A2 : Option Addr) (cap2 : Nat) (L : List Sp) (hS : SlR w 11 (.slice A2 L.length cap2) (L.map Sp.cells)) (hL : L.length ≤ 16) (hkd : KdOk L) :
    Calls Tryz.prog 29 #[.pointer (some ⟨g, 0, none⟩), .agg #[.int .i64 (x : Int), .int .i64 (y : Int), .slice A2 L.length cap2]] w fun e w' => e = .returned (.tuple #[]) ∧ CoM w' P g (c.add x y L) ∧ Turn (· = g) w w' := by
  obtain ⟨v, W0, A, cap, R, h⟩ := h
  have hb1 := Below.alloc' (Below.self w) (.cells #[.int .i64 (x : Int), .int .i64 (y : Int), .slice A2 L.length cap2] 56)
  have hx := Held.made w [.int .i64 (x : Int), .int .i64 (y : Int), .slice A2 L.length cap2] 56
  obtain ⟨W, hW⟩ : ∃ W, w.alloc (.cells #[.int .i64 (x : Int), .int .i64 (y : Int), .slice A2 L.length cap2] 56) = W := ⟨_, rfl⟩
  rw [show w.alloc (.cells [.int .i64 (x : Int), .int .i64 (y : Int), .slice A2 L.length cap2].toArray 56) = W from hW] at hx
  rw [hW] at hb1
  have HX := Stow.mk hx
  have HC := Stow.mk (h.keep hb1)
  have HS := Stow.mk (hS.keep hb1)
  have HT := Stow.mk (Turn.of_below (F := (· = g)) hb1)
  have HW := Stow.mk hW
  have HF := Stow.mk (fun W' (hb : Below W.heap.size W W') => dd_to (x : Int) (y : Int) (h.keep hb1 |>.keep hb).row.win h.row.wis hc.dd)
  have hgl := h.head.lt
  have HOK := Stow.mk hc
  have HKD := Stow.mk hkd
  have HP := Stow.mk hP
  have hBW := hb1.size
  have c1 := HC.out.head.cell (i := 1) rfl
  have x0 := hx.cell (i := 0) rfl
  have x1 := hx.cell (i := 1) rfl
  clear h hb1 hx hW hS hc hkd
  obtain ⟨D', f, hf⟩ : ∃ D' f, Dd.fresh c.D x y = (D', f) := ⟨_, _, rfl⟩
  have HFR := Stow.mk hf
  rw [hf] at HF
  clear hf
  go_enter Tryz.func29, Tryz.ntmps29
  go_upto_region 1 with fail
  generalize hX : World.alloc w _ = X
  obtain rfl : W = X := HW.out.symm.trans hX
  clear hX HW
  refine wp_region_held_drew (S := fun X => (X.cell? ⟨g, 1, none⟩ = some v ∧ X.cell? ⟨w.heap.size, 0, none⟩ = some (.int .i64 (x : Int))) ∧ X.cell? ⟨w.heap.size, 1, none⟩ = some (.int .i64 (y : Int))) (by kernel_rfl) ⟨⟨c1, x0⟩, x1⟩ (fun hHeld => ?_)
  refine wpAnyH_take (i := 0) (v := ?v0) rfl (by kernel_rfl) (by kernel_rfl) (by kernel_rfl) (fun _ _ _ h => h) (Or.inl ⟨by rfl, ?hy0⟩) (by assumption) ?rest0
  case hy0 =>
    intro W hSW
    try dsimp only at hSW
    obtain ⟨⟨hs0, hs1⟩, hs2⟩ := hSW
    go_simp
    try with_reducible rfl
  try simp only [List.getElem_toArray, List.getElem_cons_zero, List.getElem_cons_succ, Act.put, List.setIfInBounds_toArray, List.set_cons_zero, List.set_cons_succ]
  refine wpAnyH_take (i := 1) (v := ?v1) rfl (by kernel_rfl) (by kernel_rfl) (by kernel_rfl) (fun _ _ _ h => h) (Or.inl ⟨by rfl, ?hy1⟩) (by assumption) ?rest1
  case hy1 =>
    intro W hSW
    try dsimp only at hSW
    obtain ⟨⟨hs0, hs1⟩, hs2⟩ := hSW
    go_simp
    try with_reducible rfl
  try simp only [List.getElem_toArray, List.getElem_cons_zero, List.getElem_cons_succ, Act.put, List.setIfInBounds_toArray, List.set_cons_zero, List.set_cons_succ]
  refine wpAnyH_take (i := 2) (v := ?v2) rfl (by kernel_rfl) (by kernel_rfl) (by kernel_rfl) (fun _ _ _ h => h) (Or.inl ⟨by rfl, ?hy2⟩) (by assumption) ?rest2
  case hy2 =>
    intro W hSW
    try dsimp only at hSW
    obtain ⟨⟨hs0, hs1⟩, hs2⟩ := hSW
    go_simp
    try with_reducible rfl
  try simp only [List.getElem_toArray, List.getElem_cons_zero, List.getElem_cons_succ, Act.put, List.setIfInBounds_toArray, List.set_cons_zero, List.set_cons_succ]
  refine wpAnyH_take (i := 3) (v := ?v3) rfl (by kernel_rfl) (by kernel_rfl) (by kernel_rfl) (fun _ _ _ h => h) (Or.inl ⟨by rfl, ?hy3⟩) (by assumption) ?rest3
  case hy3 =>
    intro W hSW
    try dsimp only at hSW
    obtain ⟨⟨hs0, hs1⟩, hs2⟩ := hSW
    go_simp
    try with_reducible rfl
  try simp only [List.getElem_toArray, List.getElem_cons_zero, List.getElem_cons_succ, Act.put, List.setIfInBounds_toArray, List.set_cons_zero, List.set_cons_succ]
  refine wpAnyH_take (i := 4) (v := ?v4) rfl (by kernel_rfl) (by kernel_rfl) (by kernel_rfl) (fun _ _ _ h => h) (Or.inl ⟨by rfl, ?hy4⟩) (by assumption) ?rest4
  case hy4 =>
    intro W hSW
    try dsimp only at hSW
    obtain ⟨⟨hs0, hs1⟩, hs2⟩ := hSW
    go_simp
    try with_reducible rfl
  try simp only [List.getElem_toArray, List.getElem_cons_zero, List.getElem_cons_succ, Act.put, List.setIfInBounds_toArray, List.set_cons_zero, List.set_cons_succ]
  refine wpAnyH_take (i := 5) (v := ?v5) rfl (by kernel_rfl) (by kernel_rfl) (by kernel_rfl) (fun _ _ _ h => h) (Or.inl ⟨by rfl, ?hy5⟩) (by assumption) ?rest5
  case hy5 =>
    intro W hSW
    try dsimp only at hSW
    obtain ⟨⟨hs0, hs1⟩, hs2⟩ := hSW
    go_simp
    try with_reducible rfl
  try simp only [List.getElem_toArray, List.getElem_cons_zero, List.getElem_cons_succ, Act.put, List.setIfInBounds_toArray, List.set_cons_zero, List.set_cons_succ]
  refine wpAnyH_take (i := 6) (v := ?v6) rfl (by kernel_rfl) (by kernel_rfl) (by kernel_rfl) (fun _ _ _ h => h) (Or.inl ⟨by rfl, ?hy6⟩) (by assumption) ?rest6
  case hy6 =>
    intro W hSW
    try dsimp only at hSW
    obtain ⟨⟨hs0, hs1⟩, hs2⟩ := hSW
    go_simp
    try with_reducible rfl
  try simp only [List.getElem_toArray, List.getElem_cons_zero, List.getElem_cons_succ, Act.put, List.setIfInBounds_toArray, List.set_cons_zero, List.set_cons_succ]
  refine wpAnyH_take (i := 7) (v := ?v7) rfl (by kernel_rfl) (by kernel_rfl) (by kernel_rfl) (fun _ _ _ h => h) (Or.inl ⟨by rfl, ?hy7⟩) (by assumption) ?rest7
  case hy7 =>
    intro W hSW
    try dsimp only at hSW
    obtain ⟨⟨hs0, hs1⟩, hs2⟩ := hSW
    go_simp
    try with_reducible rfl
  try simp only [List.getElem_toArray, List.getElem_cons_zero, List.getElem_cons_succ, Act.put, List.setIfInBounds_toArray, List.set_cons_zero, List.set_cons_succ]
  refine wpAnyH_ready (rs := [8]) (by kernel_rfl) (by simp) ?_
  refine AllReadyH.cons rfl (fun K hK => ?_) AllReadyH.nil
  rw [if_pos (by rfl)]
  go_simp
  refine (HF.out _ (Below.drew (Below.self W))).mono ?_
  rintro e w1 ⟨v1, W1, rfl, hw1, hW1, hb1, hn1⟩
  obtain ⟨A1, k1, rfl⟩ := hW1.form
  have hb1' : Below W.heap.size W w1 := (Below.drew (Below.self W)).trans hb1
  have HW1 := Stow.mk hW1
  have HWI := Stow.mk hw1
  have HN1 := Stow.mk hn1
  have HC := Stow.mk (HC.out.keep hb1')
  have HX := Stow.mk (HX.out.kept hb1')
  have HS := Stow.mk (HS.out.keep hb1')
  have HT := Stow.mk (HT.out.trans (Turn.of_below (F := (· = g)) hb1') (fun i hi => .inl hi))
  have hBW0 := hBW
  have hBW := Nat.le_trans hBW hb1'.size
  dsimp only
  refine hK.out _ _ ⟨⟨HC.out.head.cell (i := 1) rfl, HX.out.cell (i := 0) rfl⟩, HX.out.cell (i := 1) rfl⟩ (fun hHeld => ?_)
  clear hK K hW1 hw1 hb1 hb1' hn1 HF c1 x0 x1
  try simp only [List.getElem_toArray, List.getElem_cons_zero, List.getElem_cons_succ, Act.put, List.setIfInBounds_toArray, List.set_cons_zero, List.set_cons_succ]
  refine wpAnyH_take (i := 9) (v := ?v9b) rfl (by kernel_rfl) (by kernel_rfl) (by kernel_rfl) (fun _ _ _ h => h) (Or.inl ⟨by rfl, ?hy9b⟩) (by assumption) ?rest9b
  case hy9b =>
    intro W hSW
    clear hSW
    go_simp
    try with_reducible rfl
  try simp only [List.getElem_toArray, List.getElem_cons_zero, List.getElem_cons_succ, Act.put, List.setIfInBounds_toArray, List.set_cons_zero, List.set_cons_succ]
  refine wpAnyH_take (i := 10) (v := ?v10b) rfl (by kernel_rfl) (by kernel_rfl) (by kernel_rfl) (fun _ _ _ h => h) (Or.inl ⟨by rfl, ?hy10b⟩) (by assumption) ?rest10b
  case hy10b =>
    intro W hSW
    clear hSW
    go_simp
    try with_reducible rfl
  try simp only [List.getElem_toArray, List.getElem_cons_zero, List.getElem_cons_succ, Act.put, List.setIfInBounds_toArray, List.set_cons_zero, List.set_cons_succ]
  refine wpAnyH_take (i := 11) (v := ?v11b) rfl (by kernel_rfl) (by kernel_rfl) (by kernel_rfl) (fun _ _ _ h => h) (Or.inl ⟨by rfl, ?hy11b⟩) (by assumption) ?rest11b
  case hy11b =>
    intro W hSW
    clear hSW
    go_simp
    try with_reducible rfl
  try simp only [List.getElem_toArray, List.getElem_cons_zero, List.getElem_cons_succ, Act.put, List.setIfInBounds_toArray, List.set_cons_zero, List.set_cons_succ]
  refine wpAnyH_take (i := 12) (v := ?v12b) rfl (by kernel_rfl) (by kernel_rfl) (by kernel_rfl) (fun _ _ _ h => h) (Or.inl ⟨by rfl, ?hy12b⟩) (by assumption) ?rest12b
  case hy12b =>
    intro W hSW
    clear hSW
    go_simp
    try with_reducible rfl
  try simp only [List.getElem_toArray, List.getElem_cons_zero, List.getElem_cons_succ, Act.put, List.setIfInBounds_toArray, List.set_cons_zero, List.set_cons_succ]
  refine wpAnyH_take (i := 13) (v := ?v13b) rfl (by kernel_rfl) (by kernel_rfl) (by kernel_rfl) (fun _ _ _ h => h) (Or.inl ⟨by rfl, ?hy13b⟩) (by assumption) ?rest13b
  case hy13b =>
    intro W hSW
    clear hSW
    go_simp
    try with_reducible rfl
  try simp only [List.getElem_toArray, List.getElem_cons_zero, List.getElem_cons_succ, Act.put, List.setIfInBounds_toArray, List.set_cons_zero, List.set_cons_succ]
  refine wpAnyH_done (by kernel_rfl) ?_ _
  try simp only [List.getElem_toArray, List.getElem_cons_zero, List.getElem_cons_succ, Act.put]
  clear hHeld
  have hev := HOK.out.ev
  have hsm := HOK.out.sum
  have hpos : (0 : Nat) ≤ 0 := Nat.le_refl _
  cases f with
  | false =>
    have HI := Stow.mk (fun W' (hc : W'.cell? ⟨g, 4, none⟩ = some (.int .i64 (c.tw : Nat))) (hz : W'.frozen? ⟨g, 4, none⟩ = false) => i64_plus ⟨g, 4, none⟩ c.tw 1 W' hc hz (by omega))
    go_wp2_with fail
    refine (HI.out _ (HC.out.head.cell (i := 4) rfl) (HC.out.head.free 4)).mono ?_
    rintro e w2 ⟨rfl, rfl⟩
    go_wp2_with fail
    refine bodyPost_ret (results_none rfl _ _ _) rfl ?_
    have hc' : c.add x y L = { c with tw := c.tw + 1 } := by unfold Co.add; rw [HFR.out]; rfl
    rw [hc']
    refine ⟨rfl, ⟨v, W0, A, cap, R, ?_, HC.out.gP, ?_⟩, HT.out.trans (turn_set _ _ _ _) (fun i hi => .inl hi)⟩
    · exact HC.out.head.set 4 _
    · have := HC.out.row.turn (turn_set w1 g 4 (.int .i64 ((c.tw + 1 : Nat) : Int))) HC.out.g1
      exact ⟨this.win, this.wis, this.inw, this.ink, this.ks, this.kk⟩
  | true =>
    have HI := Stow.mk (fun W' (hc : W'.cell? ⟨g, 3, none⟩ = some (.int .i64 (c.tk : Nat))) (hz : W'.frozen? ⟨g, 3, none⟩ = false) => i64_plus ⟨g, 3, none⟩ c.tk 1 W' hc hz (by omega))
    have c1 := HC.out.head.cell (i := 1) rfl
    have f1 := HC.out.head.free 1
    have hh2 : Held (w1.setCell ⟨g, 1, none⟩ (.slice A1 W1.length k1)) g (Co.cells { c with D := D' } (.slice A1 W1.length k1) A R.length cap) := HC.out.head.set 1 (.slice A1 W1.length k1)
    have ht2 := turn_set w1 g 1 (.slice A1 W1.length k1)
    have HC2 : Stow (CoAt (w1.setCell ⟨g, 1, none⟩ (.slice A1 W1.length k1)) P g { c with D := D' } (.slice A1 W1.length k1) W1 A cap R) := ⟨hh2, HC.out.gP, by
      have hr := HC.out.row.turn ht2 HC.out.g1
      have hn : InW P (.slice A1 W1.length k1) W1 := ⟨fun a n c e => HP.out _ (Nat.le_trans hBW0 (HN1.out.1 a n c e)), fun p hp a e => HP.out _ (Nat.le_trans hBW0 (HN1.out.2 p hp a e))⟩
      exact ⟨InW.turn HW1.out hn ht2 HC.out.g1, HWI.out, hn, hr.ink, hr.ks, hr.kk⟩⟩
    have hh3 : Held ((w1.setCell ⟨g, 1, none⟩ (.slice A1 W1.length k1)).setCell ⟨g, 3, none⟩ (.int .i64 ((c.tk + 1 : Nat) : Int))) g (Co.cells { c with D := D', tk := c.tk + 1 } (.slice A1 W1.length k1) A R.length cap) := HC2.out.head.set 3 _
    have ht3 := turn_set (w1.setCell ⟨g, 1, none⟩ (.slice A1 W1.length k1)) g 3 (.int .i64 ((c.tk + 1 : Nat) : Int))
    have HC3 : Stow (CoAt ((w1.setCell ⟨g, 1, none⟩ (.slice A1 W1.length k1)).setCell ⟨g, 3, none⟩ (.int .i64 ((c.tk + 1 : Nat) : Int))) P g { c with D := D', tk := c.tk + 1 } (.slice A1 W1.length k1) W1 A cap R) := ⟨hh3, HC.out.gP, by
      have hr := HC2.out.row.turn ht3 HC.out.g1
      exact ⟨hr.win, hr.wis, hr.inw, hr.ink, hr.ks, hr.kk⟩⟩
    have HX3 := Stow.mk ((HX.out.turn ht2 (by intro e; omega)).turn ht3 (by intro e; omega))
    have HS3 := Stow.mk (slr_turnU HC2.out.head (Co.noU HC2.out.row) (slr_turnU HC.out.head (Co.noU HC.out.row) HS.out sp_u ht2) sp_u ht3)
    have HT3 := Stow.mk ((HT.out.trans ht2 (fun i hi => .inl hi)).trans ht3 (fun i hi => .inl hi))
    have hI := HI.out (w1.setCell ⟨g, 1, none⟩ (.slice A1 W1.length k1)) (HC2.out.head.cell (i := 3) rfl) (HC2.out.head.free 3)
    have HJ := Stow.mk hI
    clear hh2 ht2 hh3 ht3 hI HC2 HI
    go_wp2_with fail
    refine HJ.out.mono ?_
    rintro e w2 ⟨rfl, hw2⟩
    rw [← hw2] at HC3 HX3 HS3 HT3
    have hB2 : w.heap.size ≤ w2.heap.size := by rw [hw2]; simpa using hBW
    have c2 := HX3.out.cell (i := 2) rfl
    clear hw2 HJ c1 f1 HC HX HS HT HW1 HWI HN1
    have HCA : Stow (Co.add c x y L = { c with D := D', tk := c.tk + 1, K := (Co.adds c.room L c.K c.ev).1, ev := (Co.adds c.room L c.K c.ev).2 }) := ⟨by unfold Co.add; rw [HFR.out]; rfl⟩
    go_wp2_with fail
    go_loopw [7, 8, 9, 39] (fun _ _ _ u wr => ∃ i : Nat, u = .int .i64 (i : Int) ∧ i ≤ L.length ∧ Stow (∃ A cap R, CoAt wr P g { c with D := D', tk := c.tk + 1, K := (Co.adds c.room (L.take i) c.K c.ev).1, ev := (Co.adds c.room (L.take i) c.K c.ev).2 } (.slice A1 W1.length k1) W1 A cap R) ∧ Stow (SlR wr 11 (.slice A2 L.length cap2) (L.map Sp.cells)) ∧ Stow (Turn (· = g) w wr) ∧ w.heap.size ≤ wr.heap.size) (fun _ _ _ u _ => L.length - (intOf u).toNat)
    case atStart => exact ⟨0, rfl, by omega, ⟨A, cap, R, HC3.out⟩, HS3, HT3, hB2⟩
    case round =>
      obtain ⟨i, rfl, hi, HE, HS, HT, hBr⟩ := hrel
      obtain ⟨Ar, cr, Rr, hCr⟩ := HE.out
      by_cases hlt : i < L.length
      · obtain ⟨b, off, rfl, hblt, _⟩ := HS.out.open (by simp; omega)
        have HRA := Stow.mk (sp_at HS.out hlt).2
        obtain ⟨hok1, hok2, hok3⟩ := Co.adds_ok c.room (L.take i) c.K c.ev HOK.out.fine HOK.out.kd (fun s hs => HKD.out s (List.mem_of_mem_take hs))
        have HNX := Stow.mk (Co.adds_take c.room hlt c.K c.ev)
        obtain ⟨s, hs⟩ : ∃ s, L[i] = s := ⟨_, rfl⟩
        rw [hs] at HRA HNX
        obtain ⟨Ki, ei, hKe⟩ : ∃ K e, Co.adds c.room (L.take i) c.K c.ev = (K, e) := ⟨_, _, rfl⟩
        rw [hKe] at hCr hok1 hok2 hok3 HNX
        simp only at hCr hok1 hok2 hok3 HNX
        have hgone := Co.gone_le hok1 c.room s
        have HCr := Stow.mk hCr
        have hii : (i : Int) < L.length := by omega
        have hi0 : (0 : Int) ≤ i := by omega
        have hbx := Below.alloc' (Below.self wr) (.cells s.cells.toArray 64)
        have hbh := Held.made wr s.cells 64
        obtain ⟨X, hX⟩ : ∃ X, wr.alloc (.cells s.cells.toArray 64) = X := ⟨_, rfl⟩
        rw [hX] at hbx hbh
        have HBX := Stow.mk hbx
        have HBH := Stow.mk hbh
        have HX := Stow.mk hX
        have HC := Stow.mk (HCr.out.keep hbx)
        have HS := Stow.mk (HS.out.keep hbx)
        have HT := Stow.mk (HT.out.trans (Turn.of_below (F := (· = g)) hbx) (fun i hi => .inl hi))
        have HA := Stow.mk (stAdd_any Ar cr Rr c.room s X.drew (HC.out.row.ks.keep (Below.drew (Below.self X))) (by rw [HC.out.row.kk]; exact hok1) HOK.out.room)
        rw [HC.out.row.kk] at HA
        have hBX := Nat.le_trans hBr hbx.size
        have hm3 : ei ≤ c.ev + 32 * 16 := by
          rw [List.length_take] at hok3
          omega
        clear hX hbx hbh hs HE hKe hCr HCr hok2 hok3
        have HXC : Stow (s.cells = s.cells) := ⟨rfl⟩
        unfold Sp.cells at HRA HX
        go_upto_region 9 with (refine wpList_load_mid rfl 64 (.tmp 41) rfl b (off + i * 11) rfl _ _ HRA.out Tryz.underlying64 rfl (by kernel_rfl) ?_)
        generalize hX2 : World.alloc wr _ = X2
        obtain rfl : X = X2 := HX.out.symm.trans hX2
        clear hX2 HX HRA
        refine wp_region_held_drew (S := fun X => (X.cell? ⟨g, 2, none⟩ = some (.slice Ar Rr.length cr) ∧ X.cell? ⟨g, 0, none⟩ = some (.int .i64 c.room)) ∧ X.rangeAt wr.heap.size 0 s.cells) (by kernel_rfl) ⟨⟨HC.out.head.cell (i := 2) rfl, HC.out.head.cell (i := 0) rfl⟩, HBH.out.range⟩ (fun hHeld => ?_)
        refine wpAnyH_take (i := 0) (v := ?v0L) rfl (by kernel_rfl) (by kernel_rfl) (by kernel_rfl) (fun _ _ _ h => h) (Or.inl ⟨by rfl, ?hy0L⟩) (by assumption) ?rest0L
        case hy0L =>
          intro W hSW
          try dsimp only at hSW
          obtain ⟨⟨hs0, hs1⟩, hs2⟩ := hSW
          go_simp
          try with_reducible rfl
        try simp only [List.getElem_toArray, List.getElem_cons_zero, List.getElem_cons_succ, Act.put, List.setIfInBounds_toArray, List.set_cons_zero, List.set_cons_succ]
        refine wpAnyH_take (i := 1) (v := ?v1L) rfl (by kernel_rfl) (by kernel_rfl) (by kernel_rfl) (fun _ _ _ h => h) (Or.inl ⟨by rfl, ?hy1L⟩) (by assumption) ?rest1L
        case hy1L =>
          intro W hSW
          try dsimp only at hSW
          obtain ⟨⟨hs0, hs1⟩, hs2⟩ := hSW
          go_simp
          try with_reducible rfl
        try simp only [List.getElem_toArray, List.getElem_cons_zero, List.getElem_cons_succ, Act.put, List.setIfInBounds_toArray, List.set_cons_zero, List.set_cons_succ]
        refine wpAnyH_take (i := 2) (v := ?v2L) rfl (by kernel_rfl) (by kernel_rfl) (by kernel_rfl) (fun _ _ _ h => h) (Or.inl ⟨by rfl, ?hy2L⟩) (by assumption) ?rest2L
        case hy2L =>
          intro W hSW
          try dsimp only at hSW
          obtain ⟨⟨hs0, hs1⟩, hs2⟩ := hSW
          go_simp
          try with_reducible rfl
        try simp only [List.getElem_toArray, List.getElem_cons_zero, List.getElem_cons_succ, Act.put, List.setIfInBounds_toArray, List.set_cons_zero, List.set_cons_succ]
        refine wpAnyH_take (i := 3) (v := ?v3L) rfl (by kernel_rfl) (by kernel_rfl) (by kernel_rfl) (fun _ _ _ h => h) (Or.inl ⟨by rfl, ?hy3L⟩) (by assumption) ?rest3L
        case hy3L =>
          intro W hSW
          try dsimp only at hSW
          obtain ⟨⟨hs0, hs1⟩, hs2⟩ := hSW
          go_simp
          try with_reducible rfl
        try simp only [List.getElem_toArray, List.getElem_cons_zero, List.getElem_cons_succ, Act.put, List.setIfInBounds_toArray, List.set_cons_zero, List.set_cons_succ]
        refine wpAnyH_take (i := 4) (v := ?v4L) rfl (by kernel_rfl) (by kernel_rfl) (by kernel_rfl) (fun _ _ _ h => h) (Or.inl ⟨by rfl, ?hy4L⟩) (by assumption) ?rest4L
        case hy4L =>
          intro W hSW
          try dsimp only at hSW
          obtain ⟨⟨hs0, hs1⟩, hs2⟩ := hSW
          go_simp
          try with_reducible rfl
        try simp only [List.getElem_toArray, List.getElem_cons_zero, List.getElem_cons_succ, Act.put, List.setIfInBounds_toArray, List.set_cons_zero, List.set_cons_succ]
        refine wpAnyH_take (i := 5) (v := ?v5L) rfl (by kernel_rfl) (by kernel_rfl) (by kernel_rfl) (fun _ _ _ h => h) (Or.inl ⟨by rfl, ?hy5L⟩) (by assumption) ?rest5L
        case hy5L =>
          intro W hSW
          try dsimp only at hSW
          obtain ⟨⟨hs0, hs1⟩, hs2⟩ := hSW
          go_simp
          try with_reducible rfl
        try simp only [List.getElem_toArray, List.getElem_cons_zero, List.getElem_cons_succ, Act.put, List.setIfInBounds_toArray, List.set_cons_zero, List.set_cons_succ]
        refine wpAnyH_take (i := 6) (v := ?v6L) rfl (by kernel_rfl) (by kernel_rfl) (by kernel_rfl) (fun _ _ _ h => h) (Or.inl ⟨by rfl, ?hy6L⟩) (by assumption) ?rest6L
        case hy6L =>
          intro W hSW
          try dsimp only at hSW
          obtain ⟨⟨hs0, hs1⟩, hs2⟩ := hSW
          go_simp
          try with_reducible rfl
        try simp only [List.getElem_toArray, List.getElem_cons_zero, List.getElem_cons_succ, Act.put, List.setIfInBounds_toArray, List.set_cons_zero, List.set_cons_succ]
        refine wpAnyH_take (i := 7) (v := ?v7L) rfl (by kernel_rfl) (by kernel_rfl) (by kernel_rfl) (fun _ _ _ h => h) (Or.inl ⟨by rfl, ?hy7L⟩) (by assumption) ?rest7L
        case hy7L =>
          intro W hSW
          try dsimp only at hSW
          obtain ⟨⟨hs0, hs1⟩, hs2⟩ := hSW
          go_simp
          try with_reducible rfl
        try simp only [List.getElem_toArray, List.getElem_cons_zero, List.getElem_cons_succ, Act.put, List.setIfInBounds_toArray, List.set_cons_zero, List.set_cons_succ]
        refine wpAnyH_take (i := 8) (v := .agg (s.cells).toArray) rfl (by kernel_rfl) (by kernel_rfl) (by kernel_rfl) (fun _ _ _ h => h) (yieldsIf_load_mid ?yw8 64 (.tmp 7) ?yo8 wr.heap.size 0 ?yx8 (s.cells) _ ?ys8 Tryz.underlying64 rfl ?yi8) (by assumption) ?rest8
        case yw8 => rfl
        case yo8 => rfl
        case yx8 => simp [Act.eval]
        case ys8 => exact fun W hW => hW.2
        case yi8 => first | kernel_rfl | (simp only [Fm.cells_len]; kernel_rfl)
        try simp only [List.getElem_toArray, List.getElem_cons_zero, List.getElem_cons_succ, Act.put, List.setIfInBounds_toArray, List.set_cons_zero, List.set_cons_succ]
        refine wpAnyH_ready (rs := [9]) (by kernel_rfl) (by simp) ?_
        refine AllReadyH.cons rfl (fun K hK => ?_) AllReadyH.nil
        rw [if_pos (by rfl)]
        go_simp
        refine HA.out.mono ?_
        rintro e w4 ⟨A4, k4, R4, rfl, hk4, hR4, hb4, hn4⟩
        have HIK : Stow (InK P A4 R4) := ⟨⟨fun _ a e => HP.out _ (Nat.le_trans hBX (hn4.1 a e)), fun p hp a e => HP.out _ (Nat.le_trans hBX (hn4.2 p hp a e))⟩⟩
        have hb4' : Below X.heap.size X w4 := (Below.drew (Below.self X)).trans hb4
        have HK4 := Stow.mk hk4
        have HR4 := Stow.mk hR4
        have HC := Stow.mk (HC.out.keep hb4')
        have HBH := Stow.mk (HBH.out.kept hb4')
        have HS := Stow.mk (HS.out.keep hb4')
        have HT := Stow.mk (HT.out.trans (Turn.of_below (F := (· = g)) hb4') (fun i hi => .inl hi))
        have hB4 := Nat.le_trans hBX hb4'.size
        dsimp only
        refine hK.out _ _ ⟨⟨HC.out.head.cell (i := 2) rfl, HC.out.head.cell (i := 0) rfl⟩, HBH.out.range⟩ (fun hHeld => ?_)
        clear hK K hk4 hR4 hb4 hb4' hn4 HA
        try simp only [List.getElem_toArray, List.getElem_cons_zero, List.getElem_cons_succ, Act.put, List.setIfInBounds_toArray, List.set_cons_zero, List.set_cons_succ]
        refine wpAnyH_take (i := 10) (v := ?v10d) rfl (by kernel_rfl) (by kernel_rfl) (by kernel_rfl) (fun _ _ _ h => h) (Or.inl ⟨by rfl, ?hy10d⟩) (by assumption) ?rest10d
        case hy10d =>
          intro W hSW
          clear hSW
          go_simp
          try with_reducible rfl
        try simp only [List.getElem_toArray, List.getElem_cons_zero, List.getElem_cons_succ, Act.put, List.setIfInBounds_toArray, List.set_cons_zero, List.set_cons_succ]
        refine wpAnyH_take (i := 11) (v := ?v11d) rfl (by kernel_rfl) (by kernel_rfl) (by kernel_rfl) (fun _ _ _ h => h) (Or.inl ⟨by rfl, ?hy11d⟩) (by assumption) ?rest11d
        case hy11d =>
          intro W hSW
          clear hSW
          go_simp
          try with_reducible rfl
        try simp only [List.getElem_toArray, List.getElem_cons_zero, List.getElem_cons_succ, Act.put, List.setIfInBounds_toArray, List.set_cons_zero, List.set_cons_succ]
        refine wpAnyH_take (i := 12) (v := ?v12d) rfl (by kernel_rfl) (by kernel_rfl) (by kernel_rfl) (fun _ _ _ h => h) (Or.inl ⟨by rfl, ?hy12d⟩) (by assumption) ?rest12d
        case hy12d =>
          intro W hSW
          clear hSW
          go_simp
          try with_reducible rfl
        try simp only [List.getElem_toArray, List.getElem_cons_zero, List.getElem_cons_succ, Act.put, List.setIfInBounds_toArray, List.set_cons_zero, List.set_cons_succ]
        refine wpAnyH_take (i := 13) (v := ?v13d) rfl (by kernel_rfl) (by kernel_rfl) (by kernel_rfl) (fun _ _ _ h => h) (Or.inl ⟨by rfl, ?hy13d⟩) (by assumption) ?rest13d
        case hy13d =>
          intro W hSW
          clear hSW
          go_simp
          try with_reducible rfl
        try simp only [List.getElem_toArray, List.getElem_cons_zero, List.getElem_cons_succ, Act.put, List.setIfInBounds_toArray, List.set_cons_zero, List.set_cons_succ]
        refine wpAnyH_take (i := 14) (v := ?v14d) rfl (by kernel_rfl) (by kernel_rfl) (by kernel_rfl) (fun _ _ _ h => h) (Or.inl ⟨by rfl, ?hy14d⟩) (by assumption) ?rest14d
        case hy14d =>
          intro W hSW
          clear hSW
          go_simp
          try with_reducible rfl
        try simp only [List.getElem_toArray, List.getElem_cons_zero, List.getElem_cons_succ, Act.put, List.setIfInBounds_toArray, List.set_cons_zero, List.set_cons_succ]
        refine wpAnyH_done (by kernel_rfl) ?_ _
        try simp only [List.getElem_toArray, List.getElem_cons_zero, List.getElem_cons_succ, Act.put]
        clear hHeld
        obtain ⟨n1, hn1⟩ : ∃ n, (St.add Ki c.room s).2 = n := ⟨_, rfl⟩
        rw [hn1] at hgone HNX ⊢
        have HI := Stow.mk (fun W' (hc : W'.cell? ⟨g, 6, none⟩ = some (.int .i64 (ei : Nat))) (hz : W'.frozen? ⟨g, 6, none⟩ = false) => i64_plus ⟨g, 6, none⟩ ei n1 W' hc hz (by omega))
        have q2 := HC.out.head.cell (i := 2) rfl
        have f2 := HC.out.head.free 2
        have ht2 := turn_set w4 g 2 (.slice A4 R4.length k4)
        have hh2 : Held (w4.setCell ⟨g, 2, none⟩ (.slice A4 R4.length k4)) g (Co.cells { c with D := D', tk := c.tk + 1, K := (St.add Ki c.room s).1, ev := ei } (.slice A1 W1.length k1) A4 R4.length k4) := HC.out.head.set 2 _
        have HC2 : Stow (CoAt (w4.setCell ⟨g, 2, none⟩ (.slice A4 R4.length k4)) P g { c with D := D', tk := c.tk + 1, K := (St.add Ki c.room s).1, ev := ei } (.slice A1 W1.length k1) W1 A4 k4 R4) := ⟨hh2, HC.out.gP, by
          have hr := HC.out.row.turn ht2 HC.out.g1
          exact ⟨hr.win, hr.wis, hr.inw, HIK.out, InK.turn HR4.out HIK.out ht2 HC.out.g1, HK4.out⟩⟩
        have ht3 := turn_set (w4.setCell ⟨g, 2, none⟩ (.slice A4 R4.length k4)) g 6 (.int .i64 ((ei + n1 : Nat) : Int))
        have hh3 : Held ((w4.setCell ⟨g, 2, none⟩ (.slice A4 R4.length k4)).setCell ⟨g, 6, none⟩ (.int .i64 ((ei + n1 : Nat) : Int))) g (Co.cells { c with D := D', tk := c.tk + 1, K := (St.add Ki c.room s).1, ev := ei + n1 } (.slice A1 W1.length k1) A4 R4.length k4) := HC2.out.head.set 6 _
        have HC3 : Stow (CoAt ((w4.setCell ⟨g, 2, none⟩ (.slice A4 R4.length k4)).setCell ⟨g, 6, none⟩ (.int .i64 ((ei + n1 : Nat) : Int))) P g { c with D := D', tk := c.tk + 1, K := (St.add Ki c.room s).1, ev := ei + n1 } (.slice A1 W1.length k1) W1 A4 k4 R4) := ⟨hh3, HC.out.gP, by
          have hr := HC2.out.row.turn ht3 HC.out.g1
          exact ⟨hr.win, hr.wis, hr.inw, hr.ink, hr.ks, hr.kk⟩⟩
        have HS3 := Stow.mk (slr_turnU HC2.out.head (Co.noU HC2.out.row) (slr_turnU HC.out.head (Co.noU HC.out.row) HS.out sp_u ht2) sp_u ht3)
        have HT3 := Stow.mk ((HT.out.trans ht2 (fun i hi => .inl hi)).trans ht3 (fun i hi => .inl hi))
        have hI := HI.out (w4.setCell ⟨g, 2, none⟩ (.slice A4 R4.length k4)) (HC2.out.head.cell (i := 6) rfl) (HC2.out.head.free 6)
        have HJ := Stow.mk hI
        clear hh2 ht2 hh3 ht3 hI HC2 HI HC HS HT HR4 HK4 HBH hn1
        go_wp2_with fail
        refine HJ.out.mono ?_
        rintro e w5 ⟨rfl, hw5⟩
        rw [← hw5] at HC3 HS3 HT3
        have hB5 : w.heap.size ≤ w5.heap.size := by rw [hw5]; simpa using hB4
        clear hw5 HJ q2 f2
        go_wp2_with fail
        refine ⟨⟨i + 1, by simp, by omega, ⟨A4, k4, R4, ?_⟩, HS3, HT3, hB5⟩, by simp [intOf]; omega⟩
        rw [HNX.out]
        exact HC3.out
      · obtain rfl : i = L.length := by omega
        rw [List.take_length] at hCr
        have HCr := Stow.mk hCr
        have hii : ¬ ((L.length : Nat) : Int) < L.length := by omega
        clear HE hCr
        go_wp2_with fail
        go_end0
        rw [HCA.out]
        exact ⟨rfl, ⟨_, W1, Ar, cr, Rr, HCr.out⟩, HT.out⟩
end Go.Proofs.YtfbhdkkmcfnghaaGreat
end

section
namespace Go.Proofs.YtfbhdkkmcfnghaaGreat
open Go.RowKit
set_option linter.unusedVariables false
set_option linter.unusedSimpArgs false

theorem BatchOf.slice {w w' : World} {x y : Int} {L : List Sp} {b : Nat} {e : Ending} (h : BatchOf w x y L b e w') : ∃ A cap, e = .returned (.tuple #[.agg #[.int .i64 x, .int .i64 y, .slice A L.length cap], .int .i64 (b : Int)]) ∧ SlR w' 11 (.slice A L.length cap) (L.map Sp.cells) ∧ Below w.heap.size w w' := by
  obtain ⟨v, h1, h2, h3⟩ := h
  obtain ⟨A, cap, rfl⟩ := own_form h2
  exact ⟨A, cap, h1, own_of_cells (fun s => rfl) h2 rfl, h3⟩
set_option maxHeartbeats 4000000 in
set_option maxRecDepth 100000 in
theorem coRecv_nil (l : List UInt8) (w : World) : Calls Tryz.prog 8 #[.pointer none, .string (bs l)] w fun e w' => e = .returned (.tuple #[.string (bs []), .int .i64 1]) ∧ w' = w := by
  go_enter Tryz.func8, Tryz.ntmps8
  go_wp2_with fail
  refine bodyPost_ret (results_tmp2 rfl _ _ _) rfl ?_
  exact ⟨rfl, rfl⟩
set_option maxHeartbeats 4000000 in
set_option maxRecDepth 100000 in
theorem coRecv_any {w : World} {P : Nat → Prop} {g m : Nat} {c : Co} (h : CoM w P g c) (hc : c.Ok m) (hm : m ≤ 1000000) (hP : ∀ k, w.heap.size ≤ k → P k) (l : List UInt8) (hl : l.length ≤ 9223372036854775807) :
    Calls Tryz.prog 8 #[.pointer (some ⟨g, 0, none⟩), .string (bs l)] w fun e w' => e = .returned (.tuple #[.string (bs (c.recv l).2.1), .int .i64 ((c.recv l).2.2 : Nat)]) ∧ CoM w' P g (c.recv l).1 ∧ Turn (· = g) w w' := by
  have HR := Stow.mk (btRead_any l w hl)
  have HG := Stow.mk (fun h => Co.read_good hl h)
  obtain ⟨q, hq⟩ : ∃ q, c.recv l = q := ⟨_, rfl⟩
  rw [hq]
  unfold Co.recv at hq
  rcases hr : btRead l with ⟨n1, n2, L, b⟩
  rw [hr] at HR HG hq
  simp only at HR HG hq
  have HQ := Stow.mk hq
  have HM := Stow.mk h
  have HOK := Stow.mk hc
  have hgl : g < w.heap.size := by obtain ⟨_, _, _, _, _, h⟩ := h; exact h.head.lt
  clear h hc hr hq
  go_enter Tryz.func8, Tryz.ntmps8
  go_wp2_with fail
  refine HR.out.mono ?_
  rintro e w1 hbo
  obtain ⟨A, cap, rfl, hs1, hb1⟩ := hbo.slice
  have HS := Stow.mk (hs1.alloc (.cells #[.int .i64 (n1 : Int), .int .i64 (n2 : Int), .slice A L.length cap] 56))
  have hb2 := hb1.alloc hb1.size (.cells #[.int .i64 (n1 : Int), .int .i64 (n2 : Int), .slice A L.length cap] 56)
  have HM := Stow.mk (HM.out.keep hb2)
  have HT := Stow.mk (Turn.of_below (F := (· = g)) hb2)
  have HX := Stow.mk (Held.made w1 [.int .i64 (n1 : Int), .int .i64 (n2 : Int), .slice A L.length cap] 56)
  have HP2 := Stow.mk (fun k hk => hP k (Nat.le_trans hb2.size hk))
  have hB1 := hb1.size
  clear hbo hs1 hb1 hb2 HR
  by_cases hb : b = 0
  · subst hb
    obtain rfl : (c.add n1 n2 L, (btAck n1 n2).1, 0) = q := by rw [← HQ.out]; rfl
    obtain ⟨g1, g2, g3, g4, g5, g6⟩ := HG.out rfl
    have HA := Stow.mk (coAdd_any HM.out HOK.out hm HP2.out n1 n2 A cap L HS.out g1 g3)
    have HK := Stow.mk (fun W => btAck_any (n1 : Int) (n2 : Int) W)
    rw [g6] at HK
    clear HG HQ g1 g2 g3 g4 g5 g6
    have x0 := HX.out.cell (i := 0) rfl
    have x1 := HX.out.cell (i := 1) rfl
    have x2 := HX.out.cell (i := 2) rfl
    go_wp2_with fail
    refine HA.out.mono ?_
    rintro e w2 ⟨rfl, hM2, ht2⟩
    have HM2 := Stow.mk hM2
    have HT2 := Stow.mk (HT.out.trans ht2 (fun i hi => .inl hi))
    have HX2 := Stow.mk (HX.out.turn ht2 (by omega))
    clear x0 x1 x2 hM2 ht2 HA
    have x0 := HX2.out.cell (i := 0) rfl
    have x1 := HX2.out.cell (i := 1) rfl
    go_wp2_with fail
    refine (HK.out _).mono ?_
    rintro e w3 ⟨rfl, hb3⟩
    have HM3 := Stow.mk (HM2.out.keep hb3)
    have HT3 := Stow.mk (HT2.out.trans (Turn.of_below (F := (· = g)) hb3) (fun i hi => .inl hi))
    clear hb3 x0 x1
    go_wp2_with fail
    refine bodyPost_ret (results_tmp2 rfl _ _ _) rfl ?_
    exact ⟨rfl, HM3.out, HT3.out⟩
  · obtain rfl : ({ c with bd := c.bd + 1 }, [], b) = q := by rw [← HQ.out, if_pos hb]
    obtain ⟨v, W0, A0, cap0, R0, h⟩ := HM.out
    have HC := Stow.mk h
    have hsm := HOK.out.sum
    have hbn : ((b : Int) != 0) = true := by simp; omega
    have HI := Stow.mk (i64_plus ⟨g, 5, none⟩ c.bd 1 _ (HC.out.head.cell (i := 5) rfl) (HC.out.head.free 5) (by omega))
    clear h HM HQ HG
    go_wp2_with fail
    refine HI.out.mono ?_
    rintro e w2 ⟨rfl, hw2⟩
    have ht := turn_set (w1.alloc (.cells #[.int .i64 (n1 : Int), .int .i64 (n2 : Int), .slice A L.length cap] 56)) g 5 (.int .i64 ((c.bd + 1 : Nat) : Int))
    have hh : Held _ g (Co.cells { c with bd := c.bd + 1 } v A0 R0.length cap0) := HC.out.head.set 5 (.int .i64 ((c.bd + 1 : Nat) : Int))
    have HE : Stow (CoM w2 P g { c with bd := c.bd + 1 }) := ⟨by
      have hr := HC.out.row.turn ht HC.out.g1
      rw [hw2]
      exact ⟨v, W0, A0, cap0, R0, hh, HC.out.gP, hr.win, hr.wis, hr.inw, hr.ink, hr.ks, hr.kk⟩⟩
    have HT2 : Stow (Turn (· = g) w w2) := ⟨by rw [hw2]; exact HT.out.trans ht (fun i hi => .inl hi)⟩
    clear hw2 ht hh HI HC HS HX HT
    go_wp2_with fail
    refine bodyPost_ret (results_tmp2 rfl _ _ _) rfl ?_
    exact ⟨rfl, HE.out, HT2.out⟩
end Go.Proofs.YtfbhdkkmcfnghaaGreat
end
