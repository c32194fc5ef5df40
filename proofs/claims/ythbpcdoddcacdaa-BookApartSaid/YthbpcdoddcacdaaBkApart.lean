/- Walk of the statement on two books that are played side by side. Conditions: a slice's own. -/
import Derived.Test.YthbpcdoddcacdaaBkLast
import Derived.Deep.MidRow
namespace Go.Proofs.Ythbpcdoddcacdaa
open Go.RowKit Cells
set_option linter.unusedVariables false

/-- The second book holds what the first one's own books hold, and no shadow. -/
structure Bk.Apt (S O : Bk.St) : Prop where
  nodes : S.nodes = O.nodes
  own : ∀ n, S.bk n false = O.bk n false
  none : ∀ n, O.bk n true = []
theorem Bk.Apt.new (n : Int) : Bk.Apt (Bk.new n) (Bk.new n) := ⟨rfl, fun _ => rfl, fun _ => rfl⟩
theorem Bk.Apt.shadow {S O : Bk.St} (h : Bk.Apt S O) (n : Int) (k v : Bk.Tx) : Bk.Apt (S.put n true k v).1 O := by
  unfold Bk.St.put
  split
  · split
    · exact ⟨h.nodes, h.own, h.none⟩
    · exact ⟨h.nodes, fun n' => by simpa using h.own n', h.none⟩
  · exact h
theorem Bk.Apt.both {S O : Bk.St} (h : Bk.Apt S O) (n : Int) (k v : Bk.Tx) : Bk.Apt (S.put n false k v).1 (O.put n false k v).1 := by
  unfold Bk.St.put
  rw [h.nodes, h.own]
  split
  · split
    · exact ⟨rfl, h.own, h.none⟩
    · refine ⟨rfl, fun n' => ?_, fun n' => by simpa using h.none n'⟩
      simp only [h.own n']
  · exact h
theorem Bk.Apt.of {S O : Bk.St} (h : Bk.Apt S O) (n : Int) : S.of n false = O.of n false ∧ O.of n true = [] := by
  unfold Bk.St.of
  rw [h.nodes, h.own, h.none]
  exact ⟨rfl, by split <;> rfl⟩
theorem BKs.ok {w : World} {F : Nat → Prop} {g c : Nat} {S : Bk.St} (h : BKs w F g S c) : S.Ok := let ⟨_, _, _, _, _, hk⟩ := h; hk.ok
theorem BKs.low {w : World} {F : Nat → Prop} {g c : Nat} {S : Bk.St} (h : BKs w F g S c) : BKs w (fun k => F k ∧ k < w.heap.size) g S c := by
  obtain ⟨m, N, Do, blk, hn, hk⟩ := h
  exact ⟨m, N, Do, blk, hn, { hk with own := ⟨⟨hk.own.1, hk.head.lt⟩, ⟨hk.own.2.1, hk.outer.lt⟩, fun n s b hn hb => ⟨hk.own.2.2 n s b hn hb, (hk.inner n s b hn hb).lt⟩⟩ }⟩
/-- Two books in one world, apart; neither has block 'x'. -/
def AP2 (B x : Nat) (w : World) (g g' : Nat) (S O : Bk.St) (c : Nat) : Prop :=
  ∃ F F', BKs w F g S c ∧ BKs w F' g' O c ∧ (∀ k, F k → B ≤ k ∧ k ≠ x) ∧ (∀ k, F' k → B ≤ k ∧ k ≠ x) ∧ ∀ k, F k → ¬ F' k
theorem AP2.swap {B x c : Nat} {w : World} {g g' : Nat} {S O : Bk.St} (h : AP2 B x w g g' S O c) : AP2 B x w g' g O S c :=
  let ⟨F, F', h1, h2, h3, h4, h5⟩ := h
  ⟨F', F, h2, h1, h4, h3, fun k a b => h5 k b a⟩
theorem AP2.keep {B x c : Nat} {w w' : World} {g g' : Nat} {S O : Bk.St} (h : AP2 B x w g g' S O c) (hb : Below w.heap.size w w') : AP2 B x w' g g' S O c :=
  let ⟨F, F', h1, h2, h3, h4, h5⟩ := h
  ⟨F, F', h1.keep hb, h2.keep hb, h3, h4, h5⟩
theorem AP2.more {B x c c' : Nat} {w : World} {g g' : Nat} {S O : Bk.St} (h : AP2 B x w g g' S O c) (hc : c ≤ c') : AP2 B x w g g' S O c' :=
  let ⟨F, F', h1, h2, h3, h4, h5⟩ := h
  ⟨F, F', h1.mono hc, h2.mono hc, h3, h4, h5⟩
theorem AP2.fresh {B x c : Nat} {w : World} {g g' : Nat} {S O : Bk.St} (h : AP2 B x w g g' S O c) : AP2 B w.heap.size w g g' S O c :=
  let ⟨F, F', h1, h2, h3, h4, h5⟩ := h
  ⟨_, _, h1.low, h2.low, fun k hk => ⟨(h3 k hk.1).1, by have := hk.2; omega⟩, fun k hk => ⟨(h4 k hk.1).1, by have := hk.2; omega⟩, fun k hk hk' => h5 k hk.1 hk'.1⟩
theorem AP2.put {w0 w : World} {g g' c x : Nat} {cs : List Value} {S O : Bk.St} (n : Int) (s : Bool) (k v : Bk.Tx) (h : AP2 w0.heap.size x w g g' S O c) (hx : Held w x cs) (hc : c < 1000000) (hk : k.length ≤ maxLen) (hv : v.length ≤ maxLen) (hW : Below w0.heap.size w0 w) :
    Calls Try.prog 50 #[.pointer (some ⟨g, 0, none⟩), .int .i64 n, .bool s, .string (bs k), .string (bs v)] w fun e w' => e = .returned (.bool (S.put n s k v).2) ∧ AP2 w0.heap.size x w' g g' (S.put n s k v).1 O (c + 1) ∧ Held w' x cs ∧ Below w0.heap.size w0 w' := by
  obtain ⟨F, F', h1, h2, h3, h4, h5⟩ := h
  refine (bkPut_any w F g c S n s k v h1 hc hk hv).mono ?_
  rintro e w' ⟨he, F1, k1, k2, k3⟩
  have hxl := hx.lt
  refine ⟨he, ⟨F1, fun k => F' k ∧ k < w.heap.size, k1, (h2.low.turn k3 fun k hk hf => h5 k hf hk.1).mono (Nat.le_succ c), fun i hi => ?_, fun i hi => h4 i hi.1, fun i hi hi' => ?_⟩, held_turn hx k3 (fun hf => (h3 x hf).2 rfl), hW.trans (k3.below (fun k hk => (h3 k hk).1) hW.size)⟩
  · rcases k2 i hi with h | h
    · exact h3 i h
    · exact ⟨Nat.le_trans hW.size h, by omega⟩
  · rcases k2 i hi with h | h
    · exact h5 i h hi'.1
    · have := hi'.2; omega
theorem AP2.all {B x c : Nat} {w : World} {g g' : Nat} {S O : Bk.St} (h : AP2 B x w g g' S O c) (hs : S.Short) (n : Int) (s : Bool) :
    Calls Try.prog 55 #[.pointer (some ⟨g, 0, none⟩), .int .i64 n, .bool s] w fun e w' => ∃ A cap, e = .returned (.slice A (S.of n s).length cap) ∧ EnR w' A cap (S.of n s) ∧ Below w.heap.size w w' :=
  let ⟨F, F', h1, _⟩ := h
  bkAll_any w F g c S n s h1 hs
theorem Bk.Ok.of {S : Bk.St} (h : S.Ok) (n : Int) (s : Bool) : (S.of n s).length ≤ 16 ∧ Bk.Sorted (S.of n s) := by
  unfold Bk.St.of
  split
  · exact ⟨h.few _ _, h.sorted _ _⟩
  · exact ⟨by simp, List.Pairwise.nil⟩
theorem AP2.ok {B x c : Nat} {w : World} {g g' : Nat} {S O : Bk.St} (h : AP2 B x w g g' S O c) : S.Ok := let ⟨_, _, h1, _⟩ := h; h1.ok
theorem AP2.new {w0 w1 w2 : World} {g g' : Nat} {S O : Bk.St} (h1 : BKs w1 (fun k => w0.heap.size ≤ k) g S 0) (hb1 : Below w0.heap.size w0 w1) (h2 : BKs w2 (fun k => w1.heap.size ≤ k) g' O 0) (hb2 : Below w1.heap.size w1 w2) : AP2 w0.heap.size w2.heap.size w2 g g' S O 0 :=
  ⟨_, _, h1.low.keep hb2, h2.low, fun k hk => ⟨hk.1, by have := hk.2; have := hb2.size; omega⟩, fun k hk => ⟨Nat.le_trans hb1.size hk.1, by have := hk.2; omega⟩, fun k hk hk' => by have := hk.2; have := hk'.1; omega⟩

set_option maxHeartbeats 4000000 in
set_option maxRecDepth 100000 in
theorem apart36 (a : Int) (A : Option Addr) (cap : Nat) (L : List Mv4) (w : World) (hS : SlR w 4 (.slice A L.length cap) (L.map Mv4.cells)) (hL : ∀ x ∈ L, x.ok) :
    Calls Try.prog 11 #[.int .i64 a, .slice A L.length cap] w fun e w' => e = .returned (.bool true) ∧ Below w.heap.size w w' := by
  have HS := Stow.mk hS
  have HL := Stow.mk hL
  clear hS hL
  by_cases hl : 300 < L.length
  · have d1 : decide ((300 : Int) < L.length) = true := by simp; omega
    have d1' : decide (300 < L.length) = true := by simpa using hl
    clear hl
    go_enter Try.func11, Try.ntmps11
    go_wp2_with fail
    refine (known36_any _).mono ?_
    rintro e wk ⟨rfl, hbk⟩
    have HBK := Stow.mk hbk
    clear hbk
    go_wp2_with fail
    go_ret
    exact ⟨rfl, HBK.out⟩
  have d1 : decide ((300 : Int) < L.length) = false := by simp; omega
  have d1' : decide (300 < L.length) = false := by simpa using hl
  have HN : Stow (L.length ≤ 300) := ⟨by omega⟩
  clear hl
  go_enter Try.func11, Try.ntmps11
  go_wp2_with fail
  refine (bkNew_any a w).mono ?_
  rintro e w1 ⟨g, rfl, hB1, hW1⟩
  have HB1 := Stow.mk hB1
  have HW1 := Stow.mk hW1
  clear hB1 hW1
  go_wp2_with fail
  refine (bkNew_any a w1).mono ?_
  rintro e w2 ⟨g', rfl, hB2, hW2⟩
  have HAP := Stow.mk (AP2.new HB1.out HW1.out hB2 hW2)
  have HW2 := Stow.mk (HW1.out.trans (hW2.mono HW1.out.size))
  clear hB2 hW2 HB1 HW1
  go_wp2_with fail
  go_loopw [7] (fun u wr => ∃ i : Nat, u = .int .i64 (i : Int) ∧ i ≤ L.length ∧ Stow (∃ x S O, AP2 w.heap.size x wr g g' S O (i * 2) ∧ Bk.Apt S O ∧ S.Short ∧ O.Short) ∧ Stow (Below w.heap.size w wr)) (fun u _ => L.length - (intOf u).toNat)
  case atStart => exact ⟨0, rfl, by omega, ⟨_, _, _, HAP.out, Bk.Apt.new a, Bk.new_short a, Bk.new_short a⟩, HW2⟩
  case round =>
    obtain ⟨i, rfl, hi, HBX, HWR⟩ := hrel
    have hn := HN.out
    by_cases hlt : i < L.length
    · have hSW := SlR.keep HS.out HWR.out
      obtain ⟨b, off, rfl, hblt, _⟩ := HS.out.open (by simp; omega)
      have HLO := Stow.mk (hSW.cells (i := i) (x := L[i].cells) (by rw [List.getElem?_map, List.getElem?_eq_getElem hlt]; rfl)).2
      obtain ⟨_, S, O, hAP, hap, hs1, hs2⟩ := HBX.out
      have hok := HL.out _ (List.getElem_mem hlt)
      obtain ⟨x, hx⟩ : ∃ x, L[i] = x := ⟨_, rfl⟩
      rw [hx] at hok HLO
      obtain ⟨xn, xs, xk, xv⟩ := x
      have ba := Below.alloc' (Below.self wr) (.cells #[.int .i64 xn, .bool xs, .string (bs xk), .string (bs xv)] 76)
      have HP := Stow.mk (AP2.put (w0 := w) xn xs xk xv (hAP.fresh.keep ba) (Held.made wr [.int .i64 xn, .bool xs, .string (bs xk), .string (bs xv)] 76) (by omega) hok.k hok.v (HWR.out.trans (ba.mono HWR.out.size)))
      have HSH := Stow.mk (Bk.put_short hs1 xn xs hok.k xv)
      have HSO := Stow.mk hs2
      have HAPT := Stow.mk hap
      have HK := Stow.mk hok
      have hii : (i : Int) < L.length := by omega
      have hi0 : (0 : Int) ≤ i := by omega
      clear hx hAP hap hs1 hs2 hok ba hSW
      go_upto_region 8 with (refine wpList_load_mid rfl 76 (.tmp 29) rfl b (off + i * 4) rfl [.int .i64 xn, .bool xs, .string (bs xk), .string (bs xv)] _ HLO.out Try.underlying76 rfl (by kernel_rfl) ?_)
      go_wp2_with fail
      refine HP.out.mono ?_
      rintro e w3 ⟨rfl, hAP, hH, hW⟩
      have q0 := hH.cell (i := 0) rfl
      have q1 := hH.cell (i := 1) rfl
      have q2 := hH.cell (i := 2) rfl
      have q3 := hH.cell (i := 3) rfl
      have HAP := Stow.mk hAP
      have HH := Stow.mk hH
      have HW := Stow.mk hW
      clear hAP hH hW HP
      cases xs
      · have HP := Stow.mk (AP2.put (w0 := w) xn false xk xv HAP.out.swap HH.out (by omega) HK.out.k HK.out.v HW.out)
        go_wp2_with fail
        refine HP.out.mono ?_
        rintro e w4 ⟨rfl, hAP, hH, hW⟩
        have HX : Stow (∃ x S O, AP2 w.heap.size x w4 g g' S O ((i + 1) * 2) ∧ Bk.Apt S O ∧ S.Short ∧ O.Short) := ⟨_, _, _, hAP.swap.more (by omega), HAPT.out.both xn xk xv, HSH.out, Bk.put_short HSO.out xn false HK.out.k xv⟩
        have HW := Stow.mk hW
        clear hAP hH hW HP q0 q1 q2 q3
        go_wp2_with fail
        exact ⟨⟨i + 1, rfl, by omega, HX, HW⟩, by simp [intOf]; omega⟩
      · have HX : Stow (∃ x S O, AP2 w.heap.size x w3 g g' S O ((i + 1) * 2) ∧ Bk.Apt S O ∧ S.Short ∧ O.Short) := ⟨_, _, _, HAP.out.more (by omega), HAPT.out.shadow xn xk xv, HSH.out, HSO.out⟩
        go_wp2_with fail
        exact ⟨⟨i + 1, rfl, by omega, HX, HW⟩, by simp [intOf]; omega⟩
    · obtain rfl : i = L.length := by omega
      obtain ⟨x, S, O, hAP, hap, hs1, hs2⟩ := HBX.out
      have HAP := Stow.mk hAP
      have HAPT := Stow.mk hap
      have HS1 := Stow.mk hs1
      have HS2 := Stow.mk hs2
      have hni : ¬ (L.length : Int) < L.length := by omega
      clear hAP hap hs1 hs2 HBX
      obtain ⟨wl, rfl⟩ : ∃ W, W = wr := ⟨_, rfl⟩
      go_wp2_with fail
      go_loopw [9] (fun u wr => ∃ i : Nat, u = .int .i64 (i : Int) ∧ i ≤ 8 ∧ Stow (Below wl.heap.size wl wr)) (fun u _ => 8 - (intOf u).toNat)
      case atStart => exact ⟨0, rfl, by omega, ⟨Below.self _⟩⟩
      case round =>
        obtain ⟨i, rfl, hi, HBR⟩ := hrel
        have hof := HAPT.out.of (i : Int)
        have hk1 := Bk.Ok.of HAP.out.ok (i : Int) false
        have hk2 := Bk.Ok.of HAP.out.ok (i : Int) true
        have HA1 := fun W (h : Below wl.heap.size wl W) => AP2.all (HAP.out.keep h) HS1.out (i : Int) false
        have HA2 := fun W (h : Below wl.heap.size wl W) => AP2.all (HAP.out.keep h) HS1.out (i : Int) true
        have HA3 := fun W (h : Below wl.heap.size wl W) => AP2.all (HAP.out.keep h).swap HS2.out (i : Int) false
        have HA4 := fun W (h : Below wl.heap.size wl W) => AP2.all (HAP.out.keep h).swap HS2.out (i : Int) true
        rw [← hof.1] at HA3
        rw [hof.2] at HA4
        obtain ⟨E, hE⟩ : ∃ x, S.of (i : Int) false = x := ⟨_, rfl⟩
        obtain ⟨T, hT⟩ : ∃ x, S.of (i : Int) true = x := ⟨_, rfl⟩
        rw [hE] at HA1 HA3 hk1
        rw [hT] at HA2 hk2
        have HK1 := Stow.mk hk1
        have HK2 := Stow.mk hk2
        have HA1 := Stow.mk HA1
        have HA2 := Stow.mk HA2
        have HA3 := Stow.mk HA3
        have HA4 := Stow.mk HA4
        have h16 := hk2.1
        have e1 : decide ((16 : Int) < E.length) = false := by have := hk1.1; simp; omega
        have e1' : decide (16 < E.length) = false := by have := hk1.1; simp; omega
        have e2 : decide ((16 : Int) < T.length) = false := by have := hk2.1; simp; omega
        have e2' : decide (16 < T.length) = false := by have := hk2.1; simp; omega
        clear hE hT hk1 hk2 hof
        by_cases hlt8 : i < 8
        · have hii : (i : Int) < 8 := by omega
          go_wp2_with fail
          refine (HA1.out _ HBR.out).mono ?_
          rintro e w1 ⟨A1, c1, rfl, hE1, hb⟩
          have HE1 := Stow.mk hE1
          have HW1 := Stow.mk (HBR.out.trans (hb.mono HBR.out.size))
          clear hE1 hb
          go_wp2_with fail
          refine (HA2.out _ HW1.out).mono ?_
          rintro e w2 ⟨A2, c2, rfl, hE2, hb⟩
          have HE1 := Stow.mk (HE1.out.keep hb)
          have HE2 := Stow.mk hE2
          have HW2 := Stow.mk (HW1.out.trans (hb.mono HW1.out.size))
          clear hE2 hb
          go_wp2_with fail
          refine (HA3.out _ HW2.out).mono ?_
          rintro e w3 ⟨A3, c3, rfl, hE3, hb⟩
          have HE1 := Stow.mk (HE1.out.keep hb)
          have HE2 := Stow.mk (HE2.out.keep hb)
          have HE3 := Stow.mk hE3
          have HW3 := Stow.mk (HW2.out.trans (hb.mono HW2.out.size))
          clear hE3 hb
          go_wp2_with fail
          refine (enSame_any E A1 A3 c1 c3 w3 HE1.out HE3.out).mono ?_
          rintro e w4 ⟨rfl, hb⟩
          have HE2 := Stow.mk (HE2.out.keep hb)
          have HW4 := Stow.mk (HW3.out.trans (hb.mono HW3.out.size))
          clear hb
          go_wp2_with fail
          refine (HA4.out _ HW4.out).mono ?_
          rintro e w5 ⟨A5, c5, rfl, -, hb⟩
          have HE2 := Stow.mk (HE2.out.keep hb)
          have HW5 := Stow.mk (HW4.out.trans (hb.mono HW4.out.size))
          clear hb
          go_wp2_with fail
          go_loopw [12] (fun u wr => ∃ j : Nat, u = .int .i64 (j : Int) ∧ 1 ≤ j ∧ (j ≤ T.length ∨ j = 1) ∧ Stow (Below w5.heap.size w5 wr)) (fun u _ => T.length + 1 - (intOf u).toNat)
          case atStart => exact ⟨1, rfl, by omega, by omega, ⟨Below.self _⟩⟩
          case round =>
            obtain ⟨j, rfl, hj1, hj, HBJ⟩ := hrel
            by_cases hjt : j < T.length
            · have hE := HE2.out.keep HBJ.out
              obtain ⟨b, off, rfl, hb, _⟩ := hE.open (by simp; omega)
              obtain ⟨p, rfl⟩ : ∃ p, j = p + 1 := ⟨j - 1, by omega⟩
              have c0 := (hE.cells (i := p + 1) (x := enc T[p + 1]) (by rw [List.getElem?_map, List.getElem?_eq_getElem hjt]; rfl)).2 0 _ rfl
              have c1 := (hE.cells (i := p) (x := enc T[p]) (by rw [List.getElem?_map, List.getElem?_eq_getElem (by omega)]; rfl)).2 0 _ rfl
              have hs := List.pairwise_iff_getElem.1 HK2.out.2 p (p + 1) (by omega) hjt (by omega)
              obtain ⟨x, hx⟩ : ∃ x, (T[p + 1]).1 = x := ⟨_, rfl⟩
              obtain ⟨y, hy⟩ : ∃ y, (T[p]).1 = y := ⟨_, rfl⟩
              rw [hx] at hs c0
              rw [hy] at hs c1
              have hs2 : Op.bytesLess x y = false := by
                rw [Bk.less_before]
                cases h : bytesBefore x y
                · rfl
                · exact absurd (WideShapes.bytes_trans _ _ _ h hs) (by rw [WideAt.bytes_irrefl]; simp)
              have hs3 : (x == y) = false := by
                cases h : x == y
                · rfl
                · obtain rfl : x = y := by simpa using h
                  exact absurd hs (by rw [WideAt.bytes_irrefl]; simp)
              clear hs
              simp only [Nat.add_zero] at c0 c1
              have hjj : ((p : Int) + 1) < T.length := by omega
              have hp0 : (0 : Int) ≤ (p : Int) + 1 := by omega
              have hp1 : (0 : Int) ≤ (p : Int) := by omega
              have hp2 : (p : Int) < T.length := by omega
              clear hx hy hE HA1 HA2 HA3 HA4 HE1 HE3
              go_wp2_with fail
              go_region
              all_goals
                go_wp2_with fail
                exact ⟨⟨p + 2, by simp [Int.add_assoc], by omega, by omega, ⟨Below.drew HBJ.out⟩⟩, by simp [intOf]; omega⟩
            · have hjj : ¬ (j : Int) < T.length := by omega
              have HW6 := Stow.mk (HW5.out.trans (HBJ.out.mono HW5.out.size))
              go_wp2_with fail
              exact ⟨⟨i + 1, rfl, by omega, HW6⟩, by simp [intOf]; omega⟩
        · obtain rfl : i = 8 := by omega
          go_wp2_with fail
          refine (known36_any _).mono ?_
          rintro e wk ⟨rfl, hbk⟩
          have HBK := Stow.mk (HWR.out.trans ((HBR.out.trans (hbk.mono HBR.out.size)).mono HWR.out.size))
          clear hbk
          go_wp2_with fail
          go_ret
          exact ⟨rfl, HBK.out⟩
theorem apart36_at (v0 v1 : Value) (w : World) (a : Int) (h0 : v0 = .int .i64 a) (h1 : pSlice w 4 moveCells v1) :
    Calls Try.prog 11 #[v0, v1] w fun e w' => e = .returned (.bool true) ∧ Below w.heap.size w w' := by
  subst h0
  obtain ⟨L, A, cap, rfl, hS, hL⟩ := moves_of h1
  exact apart36 a A cap L w hS hL
end Go.Proofs.Ythbpcdoddcacdaa
