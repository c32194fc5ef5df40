/- Walk of the reference's Receive. Conditions: the lists' memory; a text's length. -/
import Derived.Test.YtfbhdkkmcfnghaaGreatM41
import Derived.Test.YtfbhdkkmcfnghaaGreatM42
import Derived.Test.YtfbhdkkmcfnghaaGreatM19
import Derived.Test.YtfbhdkkmcfnghaaGreatM36

section
namespace Go.Proofs.YtfbhdkkmcfnghaaGreat
open Go.RowKit
set_option linter.unusedVariables false
set_option linter.unusedSimpArgs false

theorem InW.of_win {w : World} {v : Value} {R : List Wm} (h : WinR w v R) (hp : ∀ p ∈ R, p.w.s ≠ []) : InW (fun k => k < w.heap.size) v R := by
  refine ⟨fun a n c e => ?_, fun p hq a ha => ?_⟩
  · rcases R with _ | ⟨q, t⟩
    · rw [h.nil rfl] at e
      simp at e
    · obtain ⟨A, cap, hv⟩ := h.form
      rw [hv] at e
      simp only [Value.slice.injEq] at e
      have hr := h.row
      rw [hv] at hr
      obtain ⟨b, off, hA, hb, _⟩ := hr.open (by simp)
      rw [e.1] at hA
      cases hA
      exact hb
  · have hr := h.ints p hq
    unfold Wm.v at hr
    obtain ⟨b, off, hA, hb, _⟩ := hr.open (by simp; exact List.length_pos_iff.2 (hp p hq))
    rw [ha] at hA
    cases hA
    exact hb
theorem InW.mono {P Q : Nat → Prop} {v : Value} {R : List Wm} (h : InW P v R) (hPQ : ∀ k, P k → Q k) : InW Q v R := ⟨fun a n c e => hPQ _ (h.1 a n c e), fun p hp a ha => hPQ _ (h.2 p hp a ha)⟩
/-- The reference's lists. -/
structure RfS (w : World) (c : Co) (v : Value) (W : List Wm) (A : Option Addr) (cap : Nat) (R : List Km) : Prop where
  win : WinR w v W
  wis : wis W = c.D
  ks : KsR w A cap R
  kk : R.map Km.k = c.K
  nil : A = none → cap = 0
theorem RfS.keep {w w' : World} {c : Co} {v : Value} {W : List Wm} {A : Option Addr} {cap : Nat} {R : List Km} (h : RfS w c v W A cap R) (hb : Below w.heap.size w w') : RfS w' c v W A cap R := ⟨h.win.keep hb, h.wis, h.ks.keep hb, h.kk, h.nil⟩
theorem RfS.turn {w w' : World} {g : Nat} {c : Co} {cs : List Value} {v : Value} {W : List Wm} {A : Option Addr} {cap : Nat} {R : List Km} (h : RfS w c v W A cap R) (hH : Held w g cs) (hn : NoU cs) (hW : InW (· ≠ g) v W) (ht : Turn (· = g) w w') : RfS w' c v W A cap R :=
  ⟨hW.turn h.win ht (fun i hi hne => hne hi), h.wis, h.ks.turnU hH hn ht, h.kk, h.nil⟩
theorem Co.Ok.inw {c : Co} {m : Nat} (hc : c.Ok m) {w : World} {v : Value} {W : List Wm} {A : Option Addr} {cap : Nat} {R : List Km} (h : RfS w c v W A cap R) : InW (fun k => k < w.heap.size) v W := by
  refine InW.of_win h.win (fun p hp => ?_)
  have hm : p.w ∈ c.D := by rw [← h.wis]; exact List.mem_map_of_mem hp
  have := (hc.dd.each _ hm).top
  intro e
  rw [e] at this
  cases this
theorem rRecv_results (W : World) (g : Nat) (a b c d e f h x y : Value) (tmps : Array Value) (hH : Held W g [a, b, c, d, e, f, h]) (h2 : tmps[4]?.getD undef = .pointer (some ⟨g, 0, none⟩)) (h3 : tmps[5]?.getD undef = x) (h4 : tmps[6]?.getD undef = y) :
    (results Tryz.f9 tmps).run Tryz.prog W = .ok (.tuple #[.agg #[a, b, c, d, e, f, h], x, y]) W := by
  have c0 := hH.cell (i := 0) rfl
  have c1 := hH.cell (i := 1) rfl
  have c2 := hH.cell (i := 2) rfl
  have c3 := hH.cell (i := 3) rfl
  have c4 := hH.cell (i := 4) rfl
  have c5 := hH.cell (i := 5) rfl
  have c6 := hH.cell (i := 6) rfl
  simp [results, Tryz.results9, go_sem, h2, h3, h4, c0, c1, c2, c3, c4, c5, c6]
def RecvOut (q : Co × List UInt8 × Nat) (v0 : Value) (W0 : List Wm) (w : World) (e : Ending) (w' : World) : Prop :=
  ∃ v W A cap R, e = .returned (.tuple #[.agg (q.1.cells v A R.length cap).toArray, .string (bs q.2.1), .int .i64 (q.2.2 : Nat)]) ∧ RfS w' q.1 v W A cap R ∧ Below w.heap.size w w' ∧ ∀ P : Nat → Prop, (∀ k, w.heap.size ≤ k → P k) → InW P v0 W0 → InW P v W
def cz : List Value := [.int .i64 0, .slice none 0 0, .slice none 0 0, .int .i64 0, .int .i64 0, .int .i64 0, .int .i64 0]
set_option maxHeartbeats 4000000 in
set_option maxRecDepth 100000 in
theorem rRecv_any {c : Co} {m : Nat} {v : Value} {W0 : List Wm} {A : Option Addr} {cap : Nat} {R : List Km} {w : World} (h : RfS w c v W0 A cap R) (hc : c.Ok m) (hm : m ≤ 1000000) (l : List UInt8) (hl : l.length ≤ 1099511627776) :
    Calls Tryz.prog 9 #[.agg (c.cells v A R.length cap).toArray, .string (bs l)] w (RecvOut (c.recv l) v W0 w) := by
  have hin := hc.inw h
  have b1 := Below.alloc' (Below.self w) (.cells (c.cells v A R.length cap).toArray 32)
  have b2 := Below.alloc' (Below.self (w.alloc (.cells (c.cells v A R.length cap).toArray 32))) (.cells cz.toArray 32)
  have h1 := (Held.made w (c.cells v A R.length cap) 32).kept b2
  have h2 := Held.made (w.alloc (.cells (c.cells v A R.length cap).toArray 32)) cz 32
  have hb := Below.call b1 b2
  obtain ⟨W, hW⟩ : ∃ W, (w.alloc (.cells (c.cells v A R.length cap).toArray 32)).alloc (.cells cz.toArray 32) = W := ⟨_, rfl⟩
  rw [hW] at h1 h2 hb
  simp only [World.size_alloc] at h2
  have HX := Stow.mk h1
  have HZ := Stow.mk h2
  have HB := Stow.mk hb
  have HS := Stow.mk (h.keep hb)
  have HW := Stow.mk hW
  have HIN := Stow.mk hin
  have HOK := Stow.mk hc
  have HR := Stow.mk (refBtRead_any l W hl)
  have HG := Stow.mk (fun h => Co.read_good (l := l) (by omega) h)
  have HNU := Stow.mk (h.win.form)
  have hzW0 := h2.lt
  clear b1 b2 h1 h2 hb hW h hin hc
  obtain ⟨q, hq⟩ : ∃ q, c.recv l = q := ⟨_, rfl⟩
  rw [hq]
  unfold Co.recv at hq
  rcases hr : btRead l with ⟨n1, n2, L, b⟩
  rw [hr] at HR HG hq
  simp only at HR HG hq
  have HQ := Stow.mk hq
  clear hq hr
  unfold Co.cells cz at HW
  unfold Co.cells
  obtain ⟨Av, kv, rfl⟩ := HNU.out
  go_enter Tryz.func9, Tryz.ntmps9
  go_upto_region 1 with fail
  generalize hX : World.alloc (World.alloc w _) _ = X
  obtain rfl : W = X := HW.out.symm.trans hX
  clear hX HW
  go_wp2_with fail
  refine HR.out.mono ?_
  rintro e w1 hbo
  obtain ⟨A2, cap2, rfl, hs1, hb1⟩ := hbo.slice
  have hb2 := Below.alloc' hb1 (.cells #[.int .i64 (n1 : Int), .int .i64 (n2 : Int), .slice A2 L.length cap2] 56)
  have HBX := Stow.mk (Held.made w1 [.int .i64 (n1 : Int), .int .i64 (n2 : Int), .slice A2 L.length cap2] 56)
  have HSP := Stow.mk (hs1.alloc (.cells #[.int .i64 (n1 : Int), .int .i64 (n2 : Int), .slice A2 L.length cap2] 56))
  have HX := Stow.mk (HX.out.kept hb2)
  have HZ := Stow.mk (HZ.out.kept hb2)
  have HS := Stow.mk (HS.out.keep hb2)
  have HB := Stow.mk (HB.out.trans (hb2.mono HB.out.size))
  have hw1 : W.heap.size ≤ w1.heap.size := hb1.size
  have hzW := HZ.out.lt
  clear hbo hs1 hb1 hb2 HR
  by_cases hb : b = 0
  · subst hb
    have HQ2 : Stow ((c.add n1 n2 L, (btAck n1 n2).1, 0) = q) := ⟨by rw [← HQ.out]; rfl⟩
    obtain ⟨g1, g2, g3, g4, g5, g6⟩ := HG.out rfl
    have HKD := Stow.mk g3
    obtain ⟨w2, hw2⟩ : ∃ W, w1.alloc (.cells #[.int .i64 (n1 : Int), .int .i64 (n2 : Int), .slice A2 L.length cap2] 56) = W := ⟨_, rfl⟩
    obtain ⟨bb, hbb⟩ : ∃ k, w1.heap.size = k := ⟨_, rfl⟩
    have HW2 := Stow.mk hw2
    have HBB := Stow.mk hbb
    have HK := Stow.mk (refBtAck_any (n1 : Int) (n2 : Int) w2)
    rw [hw2] at HX HZ HS HB HBX HSP
    rw [hbb] at HBX hw1
    clear hw2 HG HQ g2 g3 g4 g5 g6 hbb
    go_upto_region 5 with fail
    rw [HW2.out, HBB.out]
    have x0 := HBX.out.cell (i := 0) rfl
    have x1 := HBX.out.cell (i := 1) rfl
    go_wp2_with fail
    refine HK.out.mono ?_
    rintro e w3 ⟨rfl, hb3⟩
    have HX := Stow.mk (HX.out.kept hb3)
    have HZ := Stow.mk (HZ.out.kept hb3)
    have HBX := Stow.mk (HBX.out.kept hb3)
    have HS := Stow.mk (HS.out.keep hb3)
    have HSP := Stow.mk (HSP.out.keep hb3)
    have HB := Stow.mk (HB.out.trans (hb3.mono HB.out.size))
    clear hb3 HW2 HBB HK x0 x1
    have x0 := HBX.out.cell (i := 0) rfl
    have x1 := HBX.out.cell (i := 1) rfl
    have c1 := HX.out.cell (i := 1) rfl
    have HZL := HZ.out.lt
    have HF := refFresh_in (n1 : Int) (n2 : Int) (.slice Av W0.length kv) W0 w3 HS.out.win (by rw [HS.out.wis]; exact HOK.out.dd)
    rw [HS.out.wis] at HF
    obtain ⟨D', f, hf⟩ : ∃ D' f, Dd.fresh c.D n1 n2 = (D', f) := ⟨_, _, rfl⟩
    have HFR := Stow.mk hf
    unfold FreshIn at HF
    rw [hf] at HF
    have HFS := Stow.mk HF
    clear hf HF
    go_wp2_with fail
    refine HFS.out.mono ?_
    rintro e w4 ⟨v1, W1, rfl, hw4, hW4, hb4, hP4⟩
    have hsz4 := HB.out.size
    have HPV1 : Stow (∀ P : Nat → Prop, (∀ k, w.heap.size ≤ k → P k) → InW P (.slice Av W0.length kv) W0 → InW P v1 W1) := ⟨fun P hP h0 => hP4 P (fun k hk => hP k (Nat.le_trans hsz4 hk)) h0⟩
    obtain ⟨A1, k1, rfl⟩ := hW4.form
    have HX := Stow.mk (HX.out.kept hb4)
    have HZ := Stow.mk (HZ.out.kept hb4)
    have HBX := Stow.mk (HBX.out.kept hb4)
    have HS := Stow.mk (HS.out.keep hb4)
    have HSP := Stow.mk (HSP.out.keep hb4)
    have HB := Stow.mk (HB.out.trans (hb4.mono HB.out.size))
    have HWI := Stow.mk hw4
    have HWN := Stow.mk hW4
    have HVI0 : Stow (InW (fun k => k ≠ w.heap.size ∧ k ≠ w.heap.size + 1) (.slice Av W0.length kv) W0) := ⟨HIN.out.mono (fun k hk => by omega)⟩
    have HVI : Stow (InW (fun k => k ≠ w.heap.size ∧ k ≠ w.heap.size + 1) (.slice A1 W1.length k1) W1) := ⟨hP4 _ (fun k hk => by omega) HVI0.out⟩
    clear hw4 hW4 hb4 hP4 HFS x0 x1 c1 HIN
    have hsm := HOK.out.sum
    have hev := HOK.out.ev
    have HADD : Stow (c.add n1 n2 L = if f = true then { c with D := D', tk := c.tk + 1, K := (Co.adds c.room L c.K c.ev).1, ev := (Co.adds c.room L c.K c.ev).2 } else { c with tw := c.tw + 1 }) := ⟨by unfold Co.add; rw [HFR.out]⟩
    cases f with
    | false =>
      have hadd : c.add n1 n2 L = { c with tw := c.tw + 1 } := HADD.out
      obtain rfl : ({ c with tw := c.tw + 1 }, (btAck n1 n2).1, 0) = q := by rw [← HQ2.out, hadd]
      have c4 := HX.out.cell (i := 4) rfl
      have f4 := HX.out.free 4
      have hn1 : c.tw ≤ 1000000 := by omega
      have hO := Only.set w.heap.size w4 4 (.int .i64 ((c.tw : Int) + 1))
      have HVX : Stow (Held (w4.setCell ⟨w.heap.size, 4, none⟩ (.int .i64 ((c.tw : Int) + 1))) w.heap.size (Co.cells { c with tw := c.tw + 1 } (.slice Av W0.length kv) A R.length cap)) := ⟨by
        have := HX.out.set 4 (.int .i64 ((c.tw : Int) + 1))
        rw [show ((c.tw : Int) + 1) = ((c.tw + 1 : Nat) : Int) by simp] at this ⊢
        exact this⟩
      have HVZ := Stow.mk (HZ.out.offO hO (by omega))
      have HVS : Stow (RfS (w4.setCell ⟨w.heap.size, 4, none⟩ (.int .i64 ((c.tw : Int) + 1))) { c with tw := c.tw + 1 } (.slice Av W0.length kv) W0 A cap R) := ⟨by
        have := HS.out.turn HX.out (by intro k hk; simp [Co.cells] at hk) (HVI0.out.mono (fun k hk => hk.1)) (Turn.of_grown hO (.inl rfl))
        exact ⟨this.win, this.wis, this.ks, this.kk, this.nil⟩⟩
      have HVB := Stow.mk (HB.out.trans (hO.below (Nat.le_refl _) HB.out.size))
      have HVI := HVI0
      have HPV : Stow (∀ P : Nat → Prop, (∀ k, w.heap.size ≤ k → P k) → InW P (.slice Av W0.length kv) W0 → InW P (.slice Av W0.length kv) W0) := ⟨fun P hP h0 => h0⟩
      clear hO HS HB HX HZ hsm HOK hadd HADD HQ2 HVI0 hev HSP HBX HWI HWN HFR
      go_upto_region 9 with fail
      go_wp2_with (first
        | (refine wpList_load_mid rfl 32 (.tmp 2) rfl w.heap.size 0 rfl (Co.cells { c with tw := c.tw + 1 } (.slice Av W0.length kv) A R.length cap) _ HVX.out.range Tryz.underlying32 rfl (by kernel_rfl) ?_)
        | (refine wpList_store_hx rfl 32 (.tmp 4) (.tmp 53) rfl rfl (w.heap.size + 1) 0 (Co.cells { c with tw := c.tw + 1 } (.slice Av W0.length kv) A R.length cap) rfl rfl HVZ.out.there (by kernel_rfl) (by intro u hu; simp [Co.cells] at hu; rcases hu with rfl | rfl | rfl | rfl | rfl | rfl | rfl <;> rfl) ?_))
      refine bodyPost_ret (rRecv_results _ (w.heap.size + 1) _ _ _ _ _ _ _ _ _ _ (HVZ.out.over (Co.cells { c with tw := c.tw + 1 } (.slice Av W0.length kv) A R.length cap) rfl) rfl rfl rfl) rfl ?_
      exact ⟨_, _, _, _, R, rfl, HVS.out.turn HVZ.out (by intro k hk; simp [cz] at hk) (HVI.out.mono (fun k hk => hk.2)) (Turn.of_grown (only_all _ _ _) (.inl rfl)), HVB.out.trans ((only_all (Co.cells { c with tw := c.tw + 1 } (.slice Av W0.length kv) A R.length cap) _ 0).below (by omega) HVB.out.size), HPV.out⟩
    | true =>
      have hadd : c.add n1 n2 L = { c with D := D', tk := c.tk + 1, K := (Co.adds c.room L c.K c.ev).1, ev := (Co.adds c.room L c.K c.ev).2 } := HADD.out
      obtain rfl : ({ c with D := D', tk := c.tk + 1, K := (Co.adds c.room L c.K c.ev).1, ev := (Co.adds c.room L c.K c.ev).2 }, (btAck n1 n2).1, 0) = q := by rw [← HQ2.out, hadd]
      obtain ⟨cA, hcA⟩ : ∃ x : Co, x = { c with D := D', tk := c.tk + 1 } := ⟨_, rfl⟩
      have c1 := HX.out.cell (i := 1) rfl
      have c3 := HX.out.cell (i := 3) rfl
      have f1 := HX.out.free 1
      have f3 := HX.out.free 3
      have htk : c.tk ≤ 1000000 := by omega
      have hO1 := Only.set w.heap.size w4 1 (.slice A1 W1.length k1)
      have hO2 := Only.set w.heap.size (w4.setCell ⟨w.heap.size, 1, none⟩ (.slice A1 W1.length k1)) 3 (.int .i64 ((c.tk : Int) + 1))
      have hO := hO1.trans hO2
      have hT : Turn (· = w.heap.size) w4 _ := Turn.of_grown hO (.inl rfl)
      have hnu : NoU (Co.cells c (.slice Av W0.length kv) A R.length cap) := by intro k hk; simp [Co.cells] at hk
      have hX5 : Held ((w4.setCell ⟨w.heap.size, 1, none⟩ (.slice A1 W1.length k1)).setCell ⟨w.heap.size, 3, none⟩ (.int .i64 ((c.tk : Int) + 1))) w.heap.size (Co.cells { c with D := D', tk := c.tk + 1 } (.slice A1 W1.length k1) A R.length cap) := by
        have := (HX.out.set 1 (.slice A1 W1.length k1)).set 3 (.int .i64 ((c.tk : Int) + 1))
        rw [show ((c.tk : Int) + 1) = ((c.tk + 1 : Nat) : Int) by simp] at this ⊢
        exact this
      have hZ5 := HZ.out.offO hO (by omega)
      have hB5 := HBX.out.offO hO (by omega)
      have hP5 := slr_turnU HX.out hnu HSP.out sp_u hT
      have hS5 : RfS ((w4.setCell ⟨w.heap.size, 1, none⟩ (.slice A1 W1.length k1)).setCell ⟨w.heap.size, 3, none⟩ (.int .i64 ((c.tk : Int) + 1))) { c with D := D', tk := c.tk + 1 } (.slice A1 W1.length k1) W1 A cap R :=
        ⟨HVI.out.turn HWN.out hT (fun i hi hP => hP.1 hi), HWI.out, HS.out.ks.turnU HX.out hnu hT, HS.out.kk, HS.out.nil⟩
      have hV5 := HB.out.trans (hO.below (Nat.le_refl _) HB.out.size)
      have HX5 := Stow.mk hX5
      have HZ5 := Stow.mk hZ5
      have HB5 := Stow.mk hB5
      have HP5 := Stow.mk hP5
      have HS5 := Stow.mk hS5
      have HV5 := Stow.mk hV5
      clear hX5 hZ5 hB5 hP5 hS5 hV5 hO1 hO2 hO hT hnu HX HZ HB HBX HSP HS HWI HWN HFR hadd HADD HQ2 HVI0 hcA cA
      go_upto_region 12 with fail
      generalize World.setCell (World.setCell _ _ _) _ _ = w5 at HX5 HZ5 HB5 HP5 HS5 HV5 ⊢
      clear c1 c3 f1 f3
      go_wp2_with fail
      go_loopw [13, 14, 15] (fun u _ _ wr => ∃ i : Nat, u = .int .i64 (i : Int) ∧ i ≤ L.length ∧ Stow (∃ A cap R, RfS wr { c with D := D', tk := c.tk + 1, K := (Co.adds c.room (L.take i) c.K c.ev).1, ev := (Co.adds c.room (L.take i) c.K c.ev).2 } (.slice A1 W1.length k1) W1 A cap R ∧ Held wr w.heap.size (Co.cells { c with D := D', tk := c.tk + 1, K := (Co.adds c.room (L.take i) c.K c.ev).1, ev := (Co.adds c.room (L.take i) c.K c.ev).2 } (.slice A1 W1.length k1) A R.length cap)) ∧ Stow (Held wr (w.heap.size + 1) cz) ∧ Stow (Held wr bb [.int .i64 (n1 : Int), .int .i64 (n2 : Int), .slice A2 L.length cap2]) ∧ Stow (SlR wr 11 (.slice A2 L.length cap2) (L.map Sp.cells)) ∧ Stow (Below w.heap.size w wr)) (fun u _ _ _ => L.length - (intOf u).toNat)
      case atStart => exact ⟨0, rfl, by omega, ⟨A, cap, R, HS5.out, HX5.out⟩, HZ5, HB5, HP5, HV5⟩
      case round =>
        obtain ⟨i, rfl, hi, HE, HZ, HBX, HSP, HB⟩ := hrel
        obtain ⟨Ar, cr, Rr, hSr, hXr⟩ := HE.out
        by_cases hlt : i < L.length
        · obtain ⟨b, off, rfl, hblt, _⟩ := HSP.out.open (by simp; omega)
          have HRA := Stow.mk (sp_at HSP.out hlt).2
          obtain ⟨hok1, hok2, hok3⟩ := Co.adds_ok c.room (L.take i) c.K c.ev HOK.out.fine HOK.out.kd (fun s hs => HKD.out s (List.mem_of_mem_take hs))
          have HNX := Stow.mk (Co.adds_take c.room hlt c.K c.ev)
          obtain ⟨s, hs⟩ : ∃ s, L[i] = s := ⟨_, rfl⟩
          rw [hs] at HRA HNX
          obtain ⟨Ki, ei, hKe⟩ : ∃ K e, Co.adds c.room (L.take i) c.K c.ev = (K, e) := ⟨_, _, rfl⟩
          rw [hKe] at hSr hXr hok1 hok2 hok3 HNX
          simp only at hSr hXr hok1 hok2 hok3 HNX
          have hgone := Co.gone_le hok1 c.room s
          have HSr := Stow.mk hSr
          have HXr := Stow.mk hXr
          have hii : (i : Int) < L.length := by omega
          have hi0 : (0 : Int) ≤ i := by omega
          have HA := Stow.mk (rAdd_any Ar cr Rr c.room s wr.drew (hSr.ks.keep (Below.drew (Below.self wr))) (by rw [hSr.kk]; exact hok1) HOK.out.room hSr.nil)
          rw [hSr.kk] at HA
          have hm3 : ei ≤ c.ev + 32 * 16 := by
            rw [List.length_take] at hok3
            omega
          have b2 := HBX.out.cell (i := 2) rfl
          have hzwr := HZ.out.lt
          clear hs HE hKe hok2 hok3 hSr hXr
          go_upto_region 15 with fail
          clear b2
          refine wp_region_held_drew (S := fun X => (X.cell? ⟨w.heap.size, 2, none⟩ = some (.slice Ar Rr.length cr) ∧ X.cell? ⟨w.heap.size, 0, none⟩ = some (.int .i64 c.room)) ∧ X.cell? ⟨bb, 2, none⟩ = some (.slice (some ⟨b, off, none⟩) L.length cap2) ∧ X.rangeAt b (off + i * 11) s.cells) (by kernel_rfl) ⟨⟨HXr.out.cell (i := 2) rfl, HXr.out.cell (i := 0) rfl⟩, HBX.out.cell (i := 2) rfl, HRA.out⟩ (fun hHeld => ?_)
          refine wpAnyH_take (i := 0) (v := ?v0L) rfl (by kernel_rfl) (by kernel_rfl) (by kernel_rfl) (fun _ _ _ h => h) (Or.inl ⟨by rfl, ?hy0L⟩) (by assumption) ?rest0L
          case hy0L =>
            intro W hSW
            try dsimp only at hSW
            obtain ⟨⟨hs0, hs1⟩, hs2, hs3⟩ := hSW
            go_simp
            try with_reducible rfl
          try simp only [List.getElem_toArray, List.getElem_cons_zero, List.getElem_cons_succ, Act.put, List.setIfInBounds_toArray, List.set_cons_zero, List.set_cons_succ]
          refine wpAnyH_take (i := 1) (v := ?v1L) rfl (by kernel_rfl) (by kernel_rfl) (by kernel_rfl) (fun _ _ _ h => h) (Or.inl ⟨by rfl, ?hy1L⟩) (by assumption) ?rest1L
          case hy1L =>
            intro W hSW
            try dsimp only at hSW
            obtain ⟨⟨hs0, hs1⟩, hs2, hs3⟩ := hSW
            go_simp
            try with_reducible rfl
          try simp only [List.getElem_toArray, List.getElem_cons_zero, List.getElem_cons_succ, Act.put, List.setIfInBounds_toArray, List.set_cons_zero, List.set_cons_succ]
          refine wpAnyH_take (i := 2) (v := ?v2L) rfl (by kernel_rfl) (by kernel_rfl) (by kernel_rfl) (fun _ _ _ h => h) (Or.inl ⟨by rfl, ?hy2L⟩) (by assumption) ?rest2L
          case hy2L =>
            intro W hSW
            try dsimp only at hSW
            obtain ⟨⟨hs0, hs1⟩, hs2, hs3⟩ := hSW
            go_simp
            try with_reducible rfl
          try simp only [List.getElem_toArray, List.getElem_cons_zero, List.getElem_cons_succ, Act.put, List.setIfInBounds_toArray, List.set_cons_zero, List.set_cons_succ]
          refine wpAnyH_take (i := 3) (v := ?v3L) rfl (by kernel_rfl) (by kernel_rfl) (by kernel_rfl) (fun _ _ _ h => h) (Or.inl ⟨by rfl, ?hy3L⟩) (by assumption) ?rest3L
          case hy3L =>
            intro W hSW
            try dsimp only at hSW
            obtain ⟨⟨hs0, hs1⟩, hs2, hs3⟩ := hSW
            go_simp
            try with_reducible rfl
          try simp only [List.getElem_toArray, List.getElem_cons_zero, List.getElem_cons_succ, Act.put, List.setIfInBounds_toArray, List.set_cons_zero, List.set_cons_succ]
          refine wpAnyH_take (i := 4) (v := ?v4L) rfl (by kernel_rfl) (by kernel_rfl) (by kernel_rfl) (fun _ _ _ h => h) (Or.inl ⟨by rfl, ?hy4L⟩) (by assumption) ?rest4L
          case hy4L =>
            intro W hSW
            try dsimp only at hSW
            obtain ⟨⟨hs0, hs1⟩, hs2, hs3⟩ := hSW
            go_simp
            try with_reducible rfl
          try simp only [List.getElem_toArray, List.getElem_cons_zero, List.getElem_cons_succ, Act.put, List.setIfInBounds_toArray, List.set_cons_zero, List.set_cons_succ]
          refine wpAnyH_take (i := 5) (v := ?v5L) rfl (by kernel_rfl) (by kernel_rfl) (by kernel_rfl) (fun _ _ _ h => h) (Or.inl ⟨by rfl, ?hy5L⟩) (by assumption) ?rest5L
          case hy5L =>
            intro W hSW
            try dsimp only at hSW
            obtain ⟨⟨hs0, hs1⟩, hs2, hs3⟩ := hSW
            go_simp
            try with_reducible rfl
          try simp only [List.getElem_toArray, List.getElem_cons_zero, List.getElem_cons_succ, Act.put, List.setIfInBounds_toArray, List.set_cons_zero, List.set_cons_succ]
          refine wpAnyH_take (i := 6) (v := ?v6L) rfl (by kernel_rfl) (by kernel_rfl) (by kernel_rfl) (fun _ _ _ h => h) (Or.inl ⟨by rfl, ?hy6L⟩) (by assumption) ?rest6L
          case hy6L =>
            intro W hSW
            try dsimp only at hSW
            obtain ⟨⟨hs0, hs1⟩, hs2, hs3⟩ := hSW
            go_simp
            try with_reducible rfl
          try simp only [List.getElem_toArray, List.getElem_cons_zero, List.getElem_cons_succ, Act.put, List.setIfInBounds_toArray, List.set_cons_zero, List.set_cons_succ]
          refine wpAnyH_take (i := 7) (v := ?v7L) rfl (by kernel_rfl) (by kernel_rfl) (by kernel_rfl) (fun _ _ _ h => h) (Or.inl ⟨by rfl, ?hy7L⟩) (by assumption) ?rest7L
          case hy7L =>
            intro W hSW
            try dsimp only at hSW
            obtain ⟨⟨hs0, hs1⟩, hs2, hs3⟩ := hSW
            go_simp
            try with_reducible rfl
          try simp only [List.getElem_toArray, List.getElem_cons_zero, List.getElem_cons_succ, Act.put, List.setIfInBounds_toArray, List.set_cons_zero, List.set_cons_succ]
          refine wpAnyH_take (i := 8) (v := .agg (s.cells).toArray) rfl (by kernel_rfl) (by kernel_rfl) (by kernel_rfl) (fun _ _ _ h => h) (yieldsIf_load_mid ?yw8 64 (.tmp 76) ?yo8 b (off + i * 11) ?yx8 (s.cells) _ ?ys8 Tryz.underlying64 rfl ?yi8) (by assumption) ?rest8
          case yw8 => rfl
          case yo8 => rfl
          case yx8 => simp [Act.eval]
          case ys8 => exact fun W hW => hW.2.2
          case yi8 => first | kernel_rfl | (simp only [Fm.cells_len]; kernel_rfl)
          try simp only [List.getElem_toArray, List.getElem_cons_zero, List.getElem_cons_succ, Act.put, List.setIfInBounds_toArray, List.set_cons_zero, List.set_cons_succ]
          refine wpAnyH_ready (rs := [9]) (by kernel_rfl) (by simp) ?_
          refine AllReadyH.cons rfl (fun K hK => ?_) AllReadyH.nil
          rw [if_pos (by rfl)]
          go_simp
          refine HA.out.mono ?_
          rintro e w6 ⟨A4, k4, R4, rfl, hk4, hR4, hb4, hn4⟩
          have hb4' : Below wr.heap.size wr w6 := (Below.drew (Below.self wr)).trans hb4
          have HK4 := Stow.mk hk4
          have HR4 := Stow.mk hR4
          have HN4 := Stow.mk hn4
          have HRA6 := Stow.mk (show w6.rangeAt b (off + i * 11) s.cells from fun j v hj => by rw [hb4'.cell (p := ⟨b, _, none⟩) hblt]; exact HRA.out j v hj)
          have HSr := Stow.mk (HSr.out.keep hb4')
          have HXr := Stow.mk (HXr.out.kept hb4')
          have HZ := Stow.mk (HZ.out.kept hb4')
          have HBX := Stow.mk (HBX.out.kept hb4')
          have HSP := Stow.mk (HSP.out.keep hb4')
          have HB := Stow.mk (HB.out.trans (hb4'.mono HB.out.size))
          dsimp only
          refine hK.out _ _ ⟨⟨HXr.out.cell (i := 2) rfl, HXr.out.cell (i := 0) rfl⟩, HBX.out.cell (i := 2) rfl, HRA6.out⟩ (fun hHeld => ?_)
          clear hK K hk4 hR4 hb4 hb4' hn4 HA
          try simp only [List.getElem_toArray, List.getElem_cons_zero, List.getElem_cons_succ, Act.put, List.setIfInBounds_toArray, List.set_cons_zero, List.set_cons_succ]
          refine wpAnyH_take (i := 10) (v := ?v10d) rfl (by kernel_rfl) (by kernel_rfl) (by kernel_rfl) (fun _ _ _ h => h) (Or.inl ⟨by rfl, ?hy10d⟩) (by assumption) ?rest10d
          case hy10d =>
            intro W hSW
            clear hSW
            go_simp
            try with_reducible rfl
          try simp only [List.getElem_toArray, List.getElem_cons_zero, List.getElem_cons_succ, Act.put, List.setIfInBounds_toArray, List.set_cons_zero, List.set_cons_succ]
          refine wpAnyH_take (i := 11) (v := ?v11d) rfl (by kernel_rfl) (by kernel_rfl) (by kernel_rfl) (fun _ _ _ h => h) (Or.inl ⟨by rfl, ?hy11d⟩) (by assumption) ?rest11d
          case hy11d =>
            intro W hSW
            clear hSW
            go_simp
            try with_reducible rfl
          try simp only [List.getElem_toArray, List.getElem_cons_zero, List.getElem_cons_succ, Act.put, List.setIfInBounds_toArray, List.set_cons_zero, List.set_cons_succ]
          refine wpAnyH_take (i := 12) (v := ?v12d) rfl (by kernel_rfl) (by kernel_rfl) (by kernel_rfl) (fun _ _ _ h => h) (Or.inl ⟨by rfl, ?hy12d⟩) (by assumption) ?rest12d
          case hy12d =>
            intro W hSW
            clear hSW
            go_simp
            try with_reducible rfl
          try simp only [List.getElem_toArray, List.getElem_cons_zero, List.getElem_cons_succ, Act.put, List.setIfInBounds_toArray, List.set_cons_zero, List.set_cons_succ]
          refine wpAnyH_take (i := 13) (v := ?v13d) rfl (by kernel_rfl) (by kernel_rfl) (by kernel_rfl) (fun _ _ _ h => h) (Or.inl ⟨by rfl, ?hy13d⟩) (by assumption) ?rest13d
          case hy13d =>
            intro W hSW
            clear hSW
            go_simp
            try with_reducible rfl
          try simp only [List.getElem_toArray, List.getElem_cons_zero, List.getElem_cons_succ, Act.put, List.setIfInBounds_toArray, List.set_cons_zero, List.set_cons_succ]
          refine wpAnyH_take (i := 14) (v := ?v14d) rfl (by kernel_rfl) (by kernel_rfl) (by kernel_rfl) (fun _ _ _ h => h) (Or.inl ⟨by rfl, ?hy14d⟩) (by assumption) ?rest14d
          case hy14d =>
            intro W hSW
            clear hSW
            go_simp
            try with_reducible rfl
          try simp only [List.getElem_toArray, List.getElem_cons_zero, List.getElem_cons_succ, Act.put, List.setIfInBounds_toArray, List.set_cons_zero, List.set_cons_succ]
          refine wpAnyH_done (by kernel_rfl) ?_ _
          try simp only [List.getElem_toArray, List.getElem_cons_zero, List.getElem_cons_succ, Act.put]
          clear hHeld
          obtain ⟨n1', hn1'⟩ : ∃ n, (St.add Ki c.room s).2 = n := ⟨_, rfl⟩
          rw [hn1'] at hgone HNX ⊢
          have q2 := HXr.out.cell (i := 2) rfl
          have q6 := HXr.out.cell (i := 6) rfl
          have f2 := HXr.out.free 2
          have f6 := HXr.out.free 6
          have hsum : (ei : Int) + (n1' : Int) ≤ 9223372036854775807 := by omega
          have hO1 := Only.set w.heap.size w6 2 (.slice A4 R4.length k4)
          have hO2 := Only.set w.heap.size (w6.setCell ⟨w.heap.size, 2, none⟩ (.slice A4 R4.length k4)) 6 (.int .i64 ((ei : Int) + (n1' : Int)))
          have hO := hO1.trans hO2
          have hT : Turn (· = w.heap.size) w6 _ := Turn.of_grown hO (.inl rfl)
          have hnu : NoU (Co.cells { c with D := D', tk := c.tk + 1, K := Ki, ev := ei } (.slice A1 W1.length k1) Ar Rr.length cr) := by intro k hk; simp [Co.cells] at hk
          have HX7 : Stow (Held ((w6.setCell ⟨w.heap.size, 2, none⟩ (.slice A4 R4.length k4)).setCell ⟨w.heap.size, 6, none⟩ (.int .i64 ((ei : Int) + (n1' : Int)))) w.heap.size (Co.cells { c with D := D', tk := c.tk + 1, K := (St.add Ki c.room s).1, ev := ei + n1' } (.slice A1 W1.length k1) A4 R4.length k4)) := ⟨by
            have := (HXr.out.set 2 (.slice A4 R4.length k4)).set 6 (.int .i64 ((ei : Int) + (n1' : Int)))
            rw [show ((ei : Int) + (n1' : Int)) = ((ei + n1' : Nat) : Int) by simp] at this ⊢
            exact this⟩
          have HZ7 := Stow.mk (HZ.out.offO hO (by omega))
          have HB7 := Stow.mk (HBX.out.offO hO (by omega))
          have HP7 := Stow.mk (slr_turnU HXr.out hnu HSP.out sp_u hT)
          have HS7 : Stow (RfS ((w6.setCell ⟨w.heap.size, 2, none⟩ (.slice A4 R4.length k4)).setCell ⟨w.heap.size, 6, none⟩ (.int .i64 ((ei : Int) + (n1' : Int)))) { c with D := D', tk := c.tk + 1, K := (St.add Ki c.room s).1, ev := ei + n1' } (.slice A1 W1.length k1) W1 A4 k4 R4) :=
            ⟨⟨HVI.out.turn HSr.out.win hT (fun i hi hP => hP.1 hi), HSr.out.wis, HR4.out.turnU HXr.out hnu hT, HK4.out, HN4.out⟩⟩
          have HV7 := Stow.mk (HB.out.trans (hO.below (Nat.le_refl _) HB.out.size))
          clear hO1 hO2 hO hT hnu HSr HXr HZ HBX HSP HB HR4 HK4 HN4 hn1' HRA HRA6
          go_wp2_with fail
          refine ⟨⟨i + 1, by simp, by omega, ⟨A4, k4, R4, ?_, ?_⟩, HZ7, HB7, HP7, HV7⟩, by simp [intOf]; omega⟩
          · rw [HNX.out]
            exact HS7.out
          · rw [HNX.out]
            exact HX7.out
        · obtain rfl : i = L.length := by omega
          rw [List.take_length] at hSr hXr
          have HVX := Stow.mk hXr
          have HVS := Stow.mk hSr
          have HVZ := Stow.mk HZ.out
          have HVB := Stow.mk HB.out
          have b2 := HBX.out.cell (i := 2) rfl
          clear HE hSr hXr HSP
          go_upto_region 18 with fail
          have HPV := HPV1
          go_wp2_with (first
            | (refine wpList_load_mid rfl 32 (.tmp 2) rfl w.heap.size 0 rfl (Co.cells { c with D := D', tk := c.tk + 1, K := (Co.adds c.room L c.K c.ev).1, ev := (Co.adds c.room L c.K c.ev).2 } (.slice A1 W1.length k1) Ar Rr.length cr) _ HVX.out.range Tryz.underlying32 rfl (by kernel_rfl) ?_)
            | (refine wpList_store_hx rfl 32 (.tmp 4) (.tmp 88) rfl rfl (w.heap.size + 1) 0 (Co.cells { c with D := D', tk := c.tk + 1, K := (Co.adds c.room L c.K c.ev).1, ev := (Co.adds c.room L c.K c.ev).2 } (.slice A1 W1.length k1) Ar Rr.length cr) rfl rfl HVZ.out.there (by kernel_rfl) (by intro u hu; simp [Co.cells] at hu; rcases hu with rfl | rfl | rfl | rfl | rfl | rfl | rfl <;> rfl) ?_))
          refine bodyPost_ret (rRecv_results _ (w.heap.size + 1) _ _ _ _ _ _ _ _ _ _ (HVZ.out.over (Co.cells { c with D := D', tk := c.tk + 1, K := (Co.adds c.room L c.K c.ev).1, ev := (Co.adds c.room L c.K c.ev).2 } (.slice A1 W1.length k1) Ar Rr.length cr) rfl) rfl rfl rfl) rfl ?_
          exact ⟨_, _, _, _, Rr, rfl, HVS.out.turn HVZ.out (by intro k hk; simp [cz] at hk) (HVI.out.mono (fun k hk => hk.2)) (Turn.of_grown (only_all _ _ _) (.inl rfl)), HVB.out.trans ((only_all (Co.cells { c with D := D', tk := c.tk + 1, K := (Co.adds c.room L c.K c.ev).1, ev := (Co.adds c.room L c.K c.ev).2 } (.slice A1 W1.length k1) Ar Rr.length cr) _ 0).below (by omega) HVB.out.size), HPV.out⟩
  · obtain rfl : ({ c with bd := c.bd + 1 }, [], b) = q := by rw [← HQ.out, if_pos hb]
    have hbn : ((b : Int) != 0) = true := by simp; omega
    have hsm := HOK.out.sum
    obtain ⟨w2, hw2⟩ : ∃ W, w1.alloc (.cells #[.int .i64 (n1 : Int), .int .i64 (n2 : Int), .slice A2 L.length cap2] 56) = W := ⟨_, rfl⟩
    have HW2 := Stow.mk hw2
    rw [hw2] at HX HZ HS HB
    clear hw2 HBX HSP HG HQ
    go_upto_region 3 with fail
    rw [HW2.out]
    have c5 := HX.out.cell (i := 5) rfl
    have f5 := HX.out.free 5
    have hn1 : c.bd ≤ 1000000 := by omega
    have hO := Only.set w.heap.size w2 5 (.int .i64 ((c.bd : Int) + 1))
    have HVX : Stow (Held (w2.setCell ⟨w.heap.size, 5, none⟩ (.int .i64 ((c.bd : Int) + 1))) w.heap.size (Co.cells { c with bd := c.bd + 1 } (.slice Av W0.length kv) A R.length cap)) := ⟨by
      have := HX.out.set 5 (.int .i64 ((c.bd : Int) + 1))
      rw [show ((c.bd : Int) + 1) = ((c.bd + 1 : Nat) : Int) by simp] at this ⊢
      exact this⟩
    have HVZ := Stow.mk (HZ.out.offO hO (by omega))
    have HVI : Stow (InW (fun k => k ≠ w.heap.size ∧ k ≠ w.heap.size + 1) (.slice Av W0.length kv) W0) := ⟨HIN.out.mono (fun k hk => by omega)⟩
    have HVS : Stow (RfS (w2.setCell ⟨w.heap.size, 5, none⟩ (.int .i64 ((c.bd : Int) + 1))) { c with bd := c.bd + 1 } (.slice Av W0.length kv) W0 A cap R) := ⟨by
      have := HS.out.turn HX.out (by intro k hk; simp [Co.cells] at hk) (HVI.out.mono (fun k hk => hk.1)) (Turn.of_grown hO (.inl rfl))
      exact ⟨this.win, this.wis, this.ks, this.kk, this.nil⟩⟩
    have HVB := Stow.mk (HB.out.trans (hO.below (Nat.le_refl _) HB.out.size))
    clear hO HS HB HX HZ hsm HOK
    go_upto_region 4 with fail
    have HPV : Stow (∀ P : Nat → Prop, (∀ k, w.heap.size ≤ k → P k) → InW P (.slice Av W0.length kv) W0 → InW P (.slice Av W0.length kv) W0) := ⟨fun P hP h0 => h0⟩
    go_wp2_with (first
      | (refine wpList_load_mid rfl 32 (.tmp 2) rfl w.heap.size 0 rfl (Co.cells { c with bd := c.bd + 1 } (.slice Av W0.length kv) A R.length cap) _ HVX.out.range Tryz.underlying32 rfl (by kernel_rfl) ?_)
      | (refine wpList_store_hx rfl 32 (.tmp 4) (.tmp 27) rfl rfl (w.heap.size + 1) 0 (Co.cells { c with bd := c.bd + 1 } (.slice Av W0.length kv) A R.length cap) rfl rfl HVZ.out.there (by kernel_rfl) (by intro u hu; simp [Co.cells] at hu; rcases hu with rfl | rfl | rfl | rfl | rfl | rfl | rfl <;> rfl) ?_))
    refine bodyPost_ret (rRecv_results _ (w.heap.size + 1) _ _ _ _ _ _ _ _ _ _ (HVZ.out.over (Co.cells { c with bd := c.bd + 1 } (.slice Av W0.length kv) A R.length cap) rfl) rfl rfl rfl) rfl ?_
    exact ⟨_, _, _, _, R, rfl, HVS.out.turn HVZ.out (by intro k hk; simp [cz] at hk) (HVI.out.mono (fun k hk => hk.2)) (Turn.of_grown (only_all _ _ _) (.inl rfl)), HVB.out.trans ((only_all (Co.cells { c with bd := c.bd + 1 } (.slice Av W0.length kv) A R.length cap) _ 0).below (by omega) HVB.out.size), HPV.out⟩
end Go.Proofs.YtfbhdkkmcfnghaaGreat
end
