/- Walk of the statement on books that are played. Conditions: a slice's own. -/
import Derived.Test.YthbpcdoddcacdaaBkLast
import Derived.Test.YthbpcdoddcacdaaBkRefPut
import Derived.Deep.MidRow
namespace Go.Proofs.Ythbpcdoddcacdaa
open Go.RowKit Cells
set_option linter.unusedVariables false

theorem BKs.ok' {w : World} {F : Nat → Prop} {g c : Nat} {S : Bk.St} (h : BKs w F g S c) : S.Ok := let ⟨_, _, _, _, _, hk⟩ := h; hk.ok
theorem BKs.low' {w : World} {F : Nat → Prop} {g c : Nat} {S : Bk.St} (h : BKs w F g S c) : BKs w (fun k => F k ∧ k < w.heap.size) g S c := by
  obtain ⟨m, N, Do, blk, hn, hk⟩ := h
  exact ⟨m, N, Do, blk, hn, { hk with own := ⟨⟨hk.own.1, hk.head.lt⟩, ⟨hk.own.2.1, hk.outer.lt⟩, fun n s b hn hb => ⟨hk.own.2.2 n s b hn hb, (hk.inner n s b hn hb).lt⟩⟩ }⟩
/-- What the box of the reference's books holds. -/
abbrev rfc (A : Option Addr) (cap : Nat) (S : Bk.St) : List Value := [.int .i64 (S.nodes : Nat), .slice A (2 * S.nodes) cap, .int .i64 (S.lost : Nat)]
/-- The book and the reference's books in one world, apart; box x holds the latter. -/
structure PB2 (w0 w : World) (F : Nat → Prop) (g x : Nat) (A : Option Addr) (cap : Nat) (rows : List Value) (S S' : Bk.St) (c : Nat) : Prop where
  bk : BKs w F g S c
  rf : RfR w A cap rows S'
  box : Held w x (rfc A cap S')
  off : RfN (fun b => (¬ F b ∧ b ≠ x) ∧ b < w.heap.size) A rows
  low : ∀ k, F k → w0.heap.size ≤ k ∧ k < w.heap.size
  x0 : w0.heap.size ≤ x
  fx : ¬ F x
theorem PB2.keep {w0 w w' : World} {F : Nat → Prop} {g x : Nat} {A : Option Addr} {cap : Nat} {rows : List Value} {S S' : Bk.St} {c : Nat} (h : PB2 w0 w F g x A cap rows S S' c) (hb : Below w.heap.size w w') : PB2 w0 w' F g x A cap rows S S' c :=
  ⟨h.bk.keep hb, h.rf.keep hb, h.box.kept hb, h.off.mono fun b hb' => ⟨hb'.1, Nat.lt_of_lt_of_le hb'.2 hb.size⟩, fun k hk => ⟨(h.low k hk).1, Nat.lt_of_lt_of_le (h.low k hk).2 hb.size⟩, h.x0, h.fx⟩
/-- Both are empty. -/
theorem PB2.start {w w1 w2 : World} {g : Nat} {S : Bk.St} {A : Option Addr} {cap : Nat} {rows : List Value} (h : BKs w1 (fun k => w.heap.size ≤ k) g S 0) (hb1 : Below w.heap.size w w1) (h2 : RfR w2 A cap rows S) (hN : RfN (fun b => w1.heap.size ≤ b ∧ b < w2.heap.size) A rows) (hb2 : Below w1.heap.size w1 w2) :
    PB2 w (w2.alloc (.cells (rfc A cap S).toArray 73)) (fun k => w.heap.size ≤ k ∧ k < w1.heap.size) g w2.heap.size A cap rows S S 0 := by
  have ba := Below.alloc' (Below.self w2) (.cells (rfc A cap S).toArray 73)
  have s1 := hb1.size
  have s2 := hb2.size
  have s3 := ba.size
  exact ⟨(h.low'.keep hb2).keep ba, h2.keep ba, Held.made w2 _ _, hN.mono fun b hb => ⟨⟨fun hf => by omega, by omega⟩, by omega⟩, fun k hk => ⟨hk.1, by omega⟩, by omega, fun hf => by omega⟩
/-- The reference's books turn, in their box. -/
theorem PB2.mid {w0 w w1 w' : World} {F : Nat → Prop} {g x : Nat} {A A' : Option Addr} {cap cap' : Nat} {rows rows' : List Value} {S S' : Bk.St} {c : Nat} (h : PB2 w0 w F g x A cap rows S S c) (hb : Below w.heap.size w w1) (h2 : RfR w1 A' cap' rows' S') (hN : RfN (fun b => ((¬ F b ∧ b ≠ x) ∧ b < w.heap.size) ∨ (w.heap.size ≤ b ∧ b < w1.heap.size)) A' rows')
    (hO : Only x w1 w') (hH : Held w' x (rfc A' cap' S')) : PB2 w0 w' F g x A' cap' rows' S S' c := by
  have ht : Turn (fun k => k = x) w1 w' := Turn.of_grown hO (.inl rfl)
  have s1 := hb.size
  have s2 := ht.size
  have hxl := h.box.lt
  have hM : RfN (fun b => (¬ F b ∧ b ≠ x) ∧ b < w1.heap.size) A' rows' := hN.mono fun b hb => by
    rcases hb with hb | hb
    · exact ⟨hb.1, by omega⟩
    · exact ⟨⟨fun hf => by have := (h.low b hf).2; omega, by omega⟩, hb.2⟩
  exact ⟨(h.bk.keep hb).turn ht fun k hk e => h.fx (e ▸ hk), h2.turn ht (hM.mono fun b hb => hb.1.2), hH, hM.mono fun b hb => ⟨hb.1, by omega⟩, fun k hk => ⟨(h.low k hk).1, by have := (h.low k hk).2; omega⟩, h.x0, h.fx⟩
/-- The book turns. -/
theorem PB2.put {w0 w : World} {F : Nat → Prop} {g x : Nat} {A : Option Addr} {cap : Nat} {rows : List Value} {S : Bk.St} {c : Nat} (n : Int) (s : Bool) (k v : Bk.Tx) (h : PB2 w0 w F g x A cap rows S (S.put n s k v).1 c) (hc : c < 1000000) (hk : k.length ≤ maxLen) (hv : v.length ≤ maxLen) (hW : Below w0.heap.size w0 w) {mv : Nat} {cs : List Value} (hm : Held w mv cs) (hmF : ¬ F mv) :
    Calls Try.prog 50 #[.pointer (some ⟨g, 0, none⟩), .int .i64 n, .bool s, .string (bs k), .string (bs v)] w fun e w' => e = .returned (.bool (S.put n s k v).2) ∧ ∃ F1, PB2 w0 w' F1 g x A cap rows (S.put n s k v).1 (S.put n s k v).1 (c + 1) ∧ Held w' mv cs ∧ Below w0.heap.size w0 w' := by
  refine (bkPut_any w F g c S n s k v h.bk hc hk hv).mono ?_
  rintro e w' ⟨he, F', k1, k2, k3⟩
  have s1 := k3.size
  have hxl := h.box.lt
  refine ⟨he, fun b => F' b ∧ b < w'.heap.size, ⟨k1.low', h.rf.turn k3 (h.off.mono fun b hb => hb.1.1), held_turn h.box k3 h.fx, h.off.mono fun b hb => ⟨⟨fun hf => ?_, hb.1.2⟩, by omega⟩, fun b hb => ⟨?_, hb.2⟩, h.x0, fun hf => ?_⟩, held_turn hm k3 hmF, hW.trans (k3.below (fun b hb => (h.low b hb).1) hW.size)⟩
  · rcases k2 b hf.1 with h1 | h1
    · exact hb.1.1 h1
    · omega
  · rcases k2 b hb.1 with h1 | h1
    · exact (h.low b h1).1
    · exact Nat.le_trans hW.size h1
  · rcases k2 x hf.1 with h1 | h1
    · exact h.fx h1
    · omega

set_option maxHeartbeats 4000000 in
set_option maxRecDepth 100000 in
theorem plays36 (a : Int) (A0 : Option Addr) (cap0 : Nat) (L : List Mv4) (key : Bk.Tx) (w : World) (hS : SlR w 4 (.slice A0 L.length cap0) (L.map Mv4.cells)) (hL : ∀ x ∈ L, x.ok) (hkey : key.length ≤ maxLen) :
    Calls Try.prog 10 #[.int .i64 a, .slice A0 L.length cap0, .string (bs key)] w fun e w' => e = .returned (.bool true) ∧ Below w.heap.size w w' := by
  have HS := Stow.mk hS
  have HL := Stow.mk hL
  have HK := Stow.mk hkey
  clear hS hL hkey
  by_cases hl : 300 < L.length
  · have d1 : decide ((300 : Int) < L.length) = true := by simp; omega
    have d1' : decide (300 < L.length) = true := by simpa using hl
    clear hl
    go_enter Try.func10, Try.ntmps10
    go_wp2_with fail
    refine (known36_any _).mono ?_
    rintro e wk ⟨rfl, hbk⟩
    have HBK := Stow.mk hbk
    clear hbk
    go_wp2_with fail
    go_ret
    exact ⟨rfl, HBK.out⟩
  have d1 : decide ((300 : Int) < L.length) = false := by simp; omega
  have d1' : decide (300 < L.length) = false := by simpa using hl
  have HN : Stow (L.length ≤ 300) := ⟨by omega⟩
  clear hl
  go_enter Try.func10, Try.ntmps10
  go_wp2_with fail
  refine (bkNew_any a w).mono ?_
  rintro e w1 ⟨g, rfl, hB1, hW1⟩
  have HB1 := Stow.mk hB1
  have HW1 := Stow.mk hW1
  clear hB1 hW1
  go_wp2_with fail
  refine (refNew_any a w1).mono ?_
  rintro e w2 ⟨A, cap, rows, rfl, h2, hN2, hW2⟩
  have HPB := Stow.mk (PB2.start HB1.out HW1.out h2 hN2 hW2)
  have HW2 := Stow.mk (Below.alloc' (HW1.out.trans (hW2.mono HW1.out.size)) (.cells (rfc A cap (Bk.new a)).toArray 73))
  clear h2 hN2 hW2 HB1 HW1
  obtain ⟨S0, hS0⟩ : ∃ S, Bk.new a = S := ⟨_, rfl⟩
  have HS0 := Stow.mk hS0
  rw [hS0] at HPB HW2
  rw [hS0]
  clear hS0
  go_upto_region 5 with fail
  obtain ⟨x, hx⟩ : ∃ x, w2.heap.size = x := ⟨_, rfl⟩
  obtain ⟨W2, hW2⟩ : ∃ W, w2.alloc (.cells (rfc A cap S0).toArray 73) = W := ⟨_, rfl⟩
  rw [show w2.alloc (.cells #[.int .i64 (S0.nodes : Nat), .slice A (2 * S0.nodes) cap, .int .i64 (S0.lost : Nat)] 73) = W2 from hW2]
  rw [hW2] at HPB HW2
  rw [hx] at HPB ⊢
  clear hW2 hx
  go_wp2_with fail
  go_loopw [9] (fun u wr => ∃ i : Nat, u = .int .i64 (i : Int) ∧ i ≤ L.length ∧ Stow (∃ F A cap rows, PB2 w wr F g x A cap rows (Bk.play a (L.take i)) (Bk.play a (L.take i)) i) ∧ Stow (Below w.heap.size w wr)) (fun u _ => L.length - (intOf u).toNat)
  case atStart => exact ⟨0, rfl, by omega, ⟨_, _, _, _, by rw [List.take_zero]; exact (show Bk.play a [] = S0 from HS0.out) ▸ HPB.out⟩, HW2⟩
  case round =>
    obtain ⟨i, rfl, hi, HBX, HWR⟩ := hrel
    have hn := HN.out
    clear HPB HW2 HS0
    by_cases hlt : i < L.length
    · have hSW := SlR.keep HS.out HWR.out
      obtain ⟨b, off, rfl, hblt, _⟩ := HS.out.open (by simp; omega)
      have HLO := Stow.mk (hSW.cells (i := i) (x := L[i].cells) (by rw [List.getElem?_map, List.getElem?_eq_getElem hlt]; rfl)).2
      have HPN := Stow.mk (Bk.play_next a hlt)
      obtain ⟨F, A1, cap1, rows1, hPB⟩ := HBX.out
      have hok := HL.out _ (List.getElem_mem hlt)
      obtain ⟨y, hy⟩ : ∃ y, L[i] = y := ⟨_, rfl⟩
      rw [hy] at hok HLO HPN
      obtain ⟨xn, xs, xk, xv⟩ := y
      obtain ⟨S, hS⟩ : ∃ S, Bk.play a (L.take i) = S := ⟨_, rfl⟩
      rw [hS] at hPB HPN
      have ba := Below.alloc' (Below.self wr) (.cells #[.int .i64 xn, .bool xs, .string (bs xk), .string (bs xv)] 76)
      have HP := Stow.mk (refPut_any _ A1 cap1 rows1 S xn xs xk xv (hPB.rf.keep ba) hPB.bk.ok')
      have hii : (i : Int) < L.length := by omega
      have hi0 : (0 : Int) ≤ i := by omega
      have q0 := hPB.box.cell (i := 0) rfl
      have q1 := hPB.box.cell (i := 1) rfl
      have q2 := hPB.box.cell (i := 2) rfl
      have hxl := hPB.box.lt
      have z1 : (x == wr.heap.size) = false := by simp; omega
      have z2 : x ≠ wr.heap.size := by omega
      have HPB := Stow.mk hPB
      have HK2 := Stow.mk hok
      have HBA := Stow.mk ba
      have HMV := Stow.mk (Held.made wr [.int .i64 xn, .bool xs, .string (bs xk), .string (bs xv)] 76)
      clear hy hPB hS hok ba hSW HBX
      go_upto_region 9 with (refine wpList_load_mid rfl 76 (.tmp 35) rfl b (off + i * 4) rfl [.int .i64 xn, .bool xs, .string (bs xk), .string (bs xv)] _ HLO.out Try.underlying76 rfl (by kernel_rfl) ?_)
      go_wp2_with fail
      refine HP.out.mono ?_
      rintro e w3 ⟨A2, cap2, rows2, rfl, hRF, hRN, hb3⟩
      have HB3 := Stow.mk (HBA.out.trans (hb3.mono HBA.out.size))
      have HRF := Stow.mk hRF
      have HRN := Stow.mk (hRN _ (HPB.out.off.mono fun b hb => hb))
      have HMV := Stow.mk (HMV.out.kept hb3)
      have HX3 := Stow.mk (HPB.out.box.kept HB3.out)
      have hs3 := HB3.out.size
      obtain ⟨S', hS'⟩ : ∃ x, (S.put xn xs xk xv).1 = x := ⟨_, rfl⟩
      obtain ⟨ok, hok⟩ : ∃ x, (S.put xn xs xk xv).2 = x := ⟨_, rfl⟩
      have HS' := Stow.mk (And.intro hS' hok)
      rw [hS'] at HRF HPN
      rw [hS', hok]
      clear hS' hok hRF hRN hb3 q0 q1 q2 z1 z2 HBA
      have hm3 := HMV.out.lt
      have ba := Below.alloc' (Below.self w3) (.cells (rfc A2 cap2 S').toArray 73)
      have HX4 := Stow.mk (HX3.out.kept ba)
      have HT4 := Stow.mk (Held.made w3 (rfc A2 cap2 S') 73)
      have HMV := Stow.mk (HMV.out.kept ba)
      have HB4 := Stow.mk (HB3.out.trans (ba.mono HB3.out.size))
      have HRF := Stow.mk (HRF.out.keep ba)
      have HSZ := Stow.mk (show (w3.alloc (.cells (rfc A2 cap2 S').toArray 73)).heap.size = w3.heap.size + 1 by simp)
      obtain ⟨W4, hW4⟩ : ∃ W, w3.alloc (.cells (rfc A2 cap2 S').toArray 73) = W := ⟨_, rfl⟩
      go_upto_region 10 with fail
      rw [hW4] at HX4 HT4 HMV HB4 HRF HSZ
      clear hW4 ba
      have q0 := HX4.out.cell (i := 0) rfl
      have q1 := HX4.out.cell (i := 1) rfl
      have q2 := HX4.out.cell (i := 2) rfl
      have f0 := HX4.out.free 0
      have f1 := HX4.out.free 1
      have f2 := HX4.out.free 2
      have y0 := HT4.out.cell (i := 0) rfl
      have y1 := HT4.out.cell (i := 1) rfl
      have y2 := HT4.out.cell (i := 2) rfl
      go_upto_region 11 with fail
      have hO1 : Only x W4 (W4.setCell ⟨x, 0, none⟩ (.int .i64 (S'.nodes : Nat))) := Only.set _ _ 0 _
      have hO2 : Only x (W4.setCell ⟨x, 0, none⟩ (.int .i64 (S'.nodes : Nat))) ((W4.setCell ⟨x, 0, none⟩ (.int .i64 (S'.nodes : Nat))).setCell ⟨x, 1, none⟩ (.slice A2 (2 * S'.nodes) cap2)) := Only.set _ _ 1 _
      have hO3 : Only x ((W4.setCell ⟨x, 0, none⟩ (.int .i64 (S'.nodes : Nat))).setCell ⟨x, 1, none⟩ (.slice A2 (2 * S'.nodes) cap2)) (((W4.setCell ⟨x, 0, none⟩ (.int .i64 (S'.nodes : Nat))).setCell ⟨x, 1, none⟩ (.slice A2 (2 * S'.nodes) cap2)).setCell ⟨x, 2, none⟩ (.int .i64 (S'.lost : Nat))) := Only.set _ _ 2 _
      have hO := (hO1.trans hO2).trans hO3
      have HX5 := Stow.mk (((HX4.out.set 0 (.int .i64 (S'.nodes : Nat))).set 1 (.slice A2 (2 * S'.nodes) cap2)).set 2 (.int .i64 (S'.lost : Nat)))
      obtain ⟨W5, hW5⟩ : ∃ W, ((W4.setCell ⟨x, 0, none⟩ (.int .i64 (S'.nodes : Nat))).setCell ⟨x, 1, none⟩ (.slice A2 (2 * S'.nodes) cap2)).setCell ⟨x, 2, none⟩ (.int .i64 (S'.lost : Nat)) = W := ⟨_, rfl⟩
      rw [hW5] at hO HX5
      rw [hW5]
      have hz := HSZ.out
      have HMV := Stow.mk (HMV.out.off hO (by omega))
      have HPM := Stow.mk (PB2.mid HPB.out HB4.out HRF.out (HRN.out.mono fun b hb => by
        rcases hb with hb | hb
        · exact .inl hb
        · exact .inr ⟨by have := hb.1; simp at this; omega, by omega⟩) hO HX5.out)
      have HWM := Stow.mk ((HWR.out.trans (HB4.out.mono HWR.out.size)).trans (hO.below HPB.out.x0 (Nat.le_trans HWR.out.size HB4.out.size)))
      clear hW5 hO hO1 hO2 hO3 q0 q1 q2 f0 f1 f2 y0 y1 y2 HX4 HT4 HB4 HRF HRN HX3 HP HB3 HX5 hz HSZ
      have HFM : Stow (¬ F wr.heap.size) := ⟨fun hf => by have := (HPB.out.low _ hf).2; omega⟩
      obtain ⟨rfl, rfl⟩ := HS'.out
      have HC := Stow.mk (PB2.put xn xs xk xv (HPM.out.keep (Below.drew (Below.self W5))) (by omega) HK2.out.k HK2.out.v (Below.drew HWM.out) HMV.out.drew HFM.out)
      obtain ⟨S', hS'⟩ : ∃ x, (S.put xn xs xk xv).1 = x := ⟨_, rfl⟩
      obtain ⟨ok, hok⟩ : ∃ x, (S.put xn xs xk xv).2 = x := ⟨_, rfl⟩
      rw [hS', hok] at HC
      rw [hS'] at HPN HPM
      simp only [hS', hok]
      clear hS' hok HS'
      have p0 := HMV.out.cell (i := 0) rfl
      have p1 := HMV.out.cell (i := 1) rfl
      have p2 := HMV.out.cell (i := 2) rfl
      have p3 := HMV.out.cell (i := 3) rfl
      have p4 := HPM.out.box.cell (i := 2) rfl
      have hok : (ok == ok) = true := by simp
      have hll : ((S'.lost : Int) == (S'.lost : Int)) = true := by simp
      go_region_held3 (fun w' => w'.cell? ⟨wr.heap.size, 0, none⟩ = some (.int .i64 xn) ∧ w'.cell? ⟨wr.heap.size, 1, none⟩ = some (.bool xs) ∧ w'.cell? ⟨wr.heap.size, 2, none⟩ = some (.string (bs xk)) ∧ w'.cell? ⟨wr.heap.size, 3, none⟩ = some (.string (bs xv)) ∧ w'.cell? ⟨x, 2, none⟩ = some (.int .i64 (S'.lost : Nat))) (first | go_keep | exact hk6)
        (first
          | (go_at_call 50; refine HC.out.mono ?_; rintro e w6 ⟨rfl, F1, h6, hm6, hw6⟩; have hk6 := And.intro (hm6.cell (i := 0) rfl) (And.intro (hm6.cell (i := 1) rfl) (And.intro (hm6.cell (i := 2) rfl) (And.intro (hm6.cell (i := 3) rfl) (h6.box.cell (i := 2) rfl)))))
          | (go_at_call 51; refine (bkLost_any _ _ _ _ _ h6.bk).mono ?_; rintro e w7 ⟨rfl, rfl⟩))
      have HNX : Stow (∃ F A cap rows, PB2 w w7 F g x A cap rows (Bk.play a (L.take (i + 1))) (Bk.play a (L.take (i + 1))) (i + 1)) := ⟨F1, _, _, _, by rw [HPN.out]; exact h6⟩
      have HW6 := Stow.mk hw6
      clear h6 hm6 hw6 hk6 p0 p1 p2 p3 p4
      go_wp2_with fail
      exact ⟨⟨i + 1, rfl, by omega, HNX, HW6⟩, by simp [intOf]; omega⟩
    · obtain rfl : i = L.length := by omega
      obtain ⟨F, A1, cap1, rows1, hPB⟩ := HBX.out
      rw [List.take_length] at hPB
      obtain ⟨hsh, hso⟩ := Bk.play_short a L HL.out
      obtain ⟨S, hS⟩ : ∃ S, Bk.play a L = S := ⟨_, rfl⟩
      rw [hS] at hPB hsh hso
      have HPB := Stow.mk hPB
      have HSH := Stow.mk hsh
      have HSO := Stow.mk hso
      have hni : ¬ (L.length : Int) < L.length := by omega
      obtain ⟨wl, rfl⟩ : ∃ W, W = wr := ⟨_, rfl⟩
      clear hPB hsh hso hS HBX
      have HBX : Stow (∀ W, Below wl.heap.size wl W → W.cell? ⟨x, 0, none⟩ = some (.int .i64 (S.nodes : Nat)) ∧ W.cell? ⟨x, 1, none⟩ = some (.slice A1 (2 * S.nodes) cap1) ∧ W.cell? ⟨x, 2, none⟩ = some (.int .i64 (S.lost : Nat))) := ⟨fun W hW => ⟨(HPB.out.box.kept hW).cell (i := 0) rfl, (HPB.out.box.kept hW).cell (i := 1) rfl, (HPB.out.box.kept hW).cell (i := 2) rfl⟩⟩
      go_wp2_with fail
      go_loopw [13] (fun u wr => ∃ m : Int, u = .int .i64 m ∧ -1 ≤ m ∧ m ≤ 9 ∧ Stow (Below wl.heap.size wl wr)) (fun u _ => (9 - intOf u).toNat)
      case atStart => exact ⟨-1, rfl, by omega, by omega, ⟨Below.self _⟩⟩
      case round =>
        obtain ⟨m, rfl, hm1, hm2, HBR⟩ := hrel
        have HG1 := fun W s (h : Below wl.heap.size wl W) => bkGet_any W F g _ S m s key (HPB.out.bk.keep h) HK.out
        have HG2 := fun W s (h : Below wl.heap.size wl W) => refGet_any W A1 cap1 rows1 S m s key (HPB.out.rf.keep h) HSO.out
        have HAL := fun W s (h : Below wl.heap.size wl W) => bkAll_any W F g _ S m s (HPB.out.bk.keep h) HSH.out
        have HOF := fun W s (h : Below wl.heap.size wl W) => refOf_any W A1 cap1 rows1 S m s (HPB.out.rf.keep h)
        have HG1 := Stow.mk HG1
        have HG2 := Stow.mk HG2
        have HAL := Stow.mk HAL
        have HOF := Stow.mk HOF
        by_cases hm8 : m ≤ 8
        · go_wp2_with fail
          go_loopw [14] (fun u wr2 => ∃ k : Nat, u = .int .i64 (k : Int) ∧ k ≤ 2 ∧ Stow (Below wl.heap.size wl wr2)) (fun u _ => 2 - (intOf u).toNat)
          case atStart => exact ⟨0, rfl, by omega, HBR⟩
          case round =>
            obtain ⟨k, rfl, hk, HB6⟩ := hrel
            rcases k with _ | _ | k
            · have HG1 := Stow.mk (fun W h => HG1.out W false h)
              have HG2 := Stow.mk (fun W h => HG2.out W false h)
              have HAL := Stow.mk (fun W h => HAL.out W false h)
              have HOF := Stow.mk (fun W h => HOF.out W false h)
              obtain ⟨E, hE⟩ : ∃ x, S.of m false = x := ⟨_, rfl⟩
              rw [hE] at HG1 HG2 HAL HOF
              obtain ⟨got, hgot⟩ : ∃ x, (Bk.get E key).getD [] = x := ⟨_, rfl⟩
              obtain ⟨has, hhas⟩ : ∃ x, Bk.has E key = x := ⟨_, rfl⟩
              rw [hgot, hhas] at HG1 HG2
              clear hE hgot hhas
              go_wp2_with fail
              refine (HG1.out _ HB6.out).mono ?_
              rintro e w6 ⟨rfl, hb⟩
              have HB6 := Stow.mk (HB6.out.trans (hb.mono HB6.out.size))
              clear hb
              obtain ⟨q0, q1, q2⟩ := HBX.out _ HB6.out
              go_wp2_with fail
              refine (HG2.out _ HB6.out).mono ?_
              rintro e w7 ⟨rfl, hb⟩
              have HB7 := Stow.mk (HB6.out.trans (hb.mono HB6.out.size))
              clear hb q0 q1 q2
              obtain ⟨q0, q1, q2⟩ := HBX.out _ HB7.out
              go_wp2_with fail
              go_region_held3 (fun w' => w'.cell? ⟨x, 0, none⟩ = some (.int .i64 (S.nodes : Nat)) ∧ w'.cell? ⟨x, 1, none⟩ = some (.slice A1 (2 * S.nodes) cap1) ∧ w'.cell? ⟨x, 2, none⟩ = some (.int .i64 (S.lost : Nat))) (first | go_keep | exact hkk)
               (first
                | (go_at_call 55; (first | have HC := HBo | have HC := Stow.mk (Below.drew HB7.out)); refine (HAL.out _ HC.out).mono ?_; rintro e wa ⟨Aa, ca, rfl, hEa, hba⟩; have HBa := Stow.mk (HC.out.trans (hba.mono HC.out.size)); have HEa := Stow.mk hEa; (try have HEo := Stow.mk (HEo.out.keep hba)); have HBl := HBa; have hkk := HBX.out _ HBa.out)
                | (go_at_call 56; (first | have HC := HBa | have HC := Stow.mk (Below.drew HB7.out)); refine (HOF.out _ HC.out).mono ?_; rintro e wo ⟨Ao, co, rfl, hEo, hbo⟩; have HBo := Stow.mk (HC.out.trans (hbo.mono HC.out.size)); have HEo := Stow.mk hEo; (try have HEa := Stow.mk (HEa.out.keep hbo)); have HBl := HBo; have hkk := HBX.out _ HBo.out)
                | (go_at_call 54; refine (enSame_any E Aa Ao ca co _ HEa.out HEo.out).mono ?_; rintro e ws ⟨rfl, hbs⟩; have HBs := Stow.mk (HBl.out.trans (hbs.mono HBl.out.size)); have hkk := HBX.out _ HBs.out))
              all_goals
                clear hkk hbs hba hbo hEa hEo q0 q1 q2
                go_wp2_with fail
                exact ⟨⟨0 + 1, rfl, by omega, HBs⟩, by simp [intOf]⟩
            · have HG1 := Stow.mk (fun W h => HG1.out W true h)
              have HG2 := Stow.mk (fun W h => HG2.out W true h)
              have HAL := Stow.mk (fun W h => HAL.out W true h)
              have HOF := Stow.mk (fun W h => HOF.out W true h)
              obtain ⟨E, hE⟩ : ∃ x, S.of m true = x := ⟨_, rfl⟩
              rw [hE] at HG1 HG2 HAL HOF
              obtain ⟨got, hgot⟩ : ∃ x, (Bk.get E key).getD [] = x := ⟨_, rfl⟩
              obtain ⟨has, hhas⟩ : ∃ x, Bk.has E key = x := ⟨_, rfl⟩
              rw [hgot, hhas] at HG1 HG2
              clear hE hgot hhas
              go_wp2_with fail
              refine (HG1.out _ HB6.out).mono ?_
              rintro e w6 ⟨rfl, hb⟩
              have HB6 := Stow.mk (HB6.out.trans (hb.mono HB6.out.size))
              clear hb
              obtain ⟨q0, q1, q2⟩ := HBX.out _ HB6.out
              go_wp2_with fail
              refine (HG2.out _ HB6.out).mono ?_
              rintro e w7 ⟨rfl, hb⟩
              have HB7 := Stow.mk (HB6.out.trans (hb.mono HB6.out.size))
              clear hb q0 q1 q2
              obtain ⟨q0, q1, q2⟩ := HBX.out _ HB7.out
              go_wp2_with fail
              go_region_held3 (fun w' => w'.cell? ⟨x, 0, none⟩ = some (.int .i64 (S.nodes : Nat)) ∧ w'.cell? ⟨x, 1, none⟩ = some (.slice A1 (2 * S.nodes) cap1) ∧ w'.cell? ⟨x, 2, none⟩ = some (.int .i64 (S.lost : Nat))) (first | go_keep | exact hkk)
               (first
                | (go_at_call 55; (first | have HC := HBo | have HC := Stow.mk (Below.drew HB7.out)); refine (HAL.out _ HC.out).mono ?_; rintro e wa ⟨Aa, ca, rfl, hEa, hba⟩; have HBa := Stow.mk (HC.out.trans (hba.mono HC.out.size)); have HEa := Stow.mk hEa; (try have HEo := Stow.mk (HEo.out.keep hba)); have HBl := HBa; have hkk := HBX.out _ HBa.out)
                | (go_at_call 56; (first | have HC := HBa | have HC := Stow.mk (Below.drew HB7.out)); refine (HOF.out _ HC.out).mono ?_; rintro e wo ⟨Ao, co, rfl, hEo, hbo⟩; have HBo := Stow.mk (HC.out.trans (hbo.mono HC.out.size)); have HEo := Stow.mk hEo; (try have HEa := Stow.mk (HEa.out.keep hbo)); have HBl := HBo; have hkk := HBX.out _ HBo.out)
                | (go_at_call 54; refine (enSame_any E Aa Ao ca co _ HEa.out HEo.out).mono ?_; rintro e ws ⟨rfl, hbs⟩; have HBs := Stow.mk (HBl.out.trans (hbs.mono HBl.out.size)); have hkk := HBX.out _ HBs.out))
              all_goals
                clear hkk hbs hba hbo hEa hEo q0 q1 q2
                go_wp2_with fail
                exact ⟨⟨1 + 1, rfl, by omega, HBs⟩, by simp [intOf]⟩
            · obtain rfl : k = 0 := by omega
              have e1 : IntKind.i64.wrap (m + 1) = m + 1 := IntWalk.i64_in _ (by omega)
              go_wp2_with fail
              exact ⟨⟨m + 1, rfl, by omega, by omega, HB6⟩, by simp [intOf]; omega⟩
        · obtain rfl : m = 9 := by omega
          go_wp2_with fail
          refine (known36_any _).mono ?_
          rintro e wk ⟨rfl, hbk⟩
          have HBK := Stow.mk (HWR.out.trans ((HBR.out.trans (hbk.mono HBR.out.size)).mono HWR.out.size))
          clear hbk
          go_wp2_with fail
          go_ret
          exact ⟨rfl, HBK.out⟩
theorem plays36_at (v0 v1 : Value) (k : List UInt8) (w : World) (a : Int) (h0 : v0 = .int .i64 a) (h1 : pSlice w 4 moveCells v1) (hk : k.length ≤ maxLen) :
    Calls Try.prog 10 #[v0, v1, .string (bs k)] w fun e w' => e = .returned (.bool true) ∧ Below w.heap.size w w' := by
  subst h0
  obtain ⟨L, A, cap, rfl, hS, hL⟩ := moves_of h1
  exact plays36 a A cap L k w hS hL hk
end Go.Proofs.Ythbpcdoddcacdaa
