/- Walks of the reference's Read and ReadAck. Condition: the text is no longer than 2^40. -/
import Derived.Test.YtkhepehgafijfaaBatchRefRead
namespace Go.Proofs.Ytkhepehgafijfaa
open Go.RowKit
set_option linter.unusedVariables false

set_option maxHeartbeats 1000000 in
set_option maxRecDepth 100000 in
theorem refReadAck_any (l : List UInt8) (w : World) (hl : l.length ≤ 1099511627776) :
    Calls Try.prog 18 #[.string (bs l)] w fun e w' => e = .returned (.tuple #[.int .i64 ((btReadAck l).1 : Nat), .int .i64 ((btReadAck l).2.1 : Nat), .int .i64 ((btReadAck l).2.2 : Nat)]) ∧ Below w.heap.size w w' := by
  rcases hf : front l 2 with ⟨t, n1, n2, y, b⟩
  by_cases hb : b = 0
  rotate_left
  · have HF := Stow.mk (ack_bad hf hb)
    have hbn : ((b : Int) != 0) = true := by simp; omega
    have HO := Stow.mk hf
    clear hf
    go_enter Try.func18, Try.ntmps18
    go_wp2_with fail
    refine (front_bad l _ 2 b n1 n2 t y rfl _ hl HO.out hb).mono ?_
    rintro e w1 ⟨rfl, hb1⟩
    go_wp2_with fail
    go_ret3
    exact ⟨by rw [HF.out]; rfl, hb1⟩
  subst hb
  have HO := Stow.mk hf
  by_cases hy : y = t.length
  · have HF := Stow.mk (ack_good hf hy)
    have hyn : (y != (t.length : Int)) = false := by simpa using hy
    have HY := Stow.mk hy
    clear hy hf
    go_enter Try.func18, Try.ntmps18
    go_wp2_with fail
    refine (front_good l _ 2 n1 n2 t y rfl _ hl HO.out).mono ?_
    rintro e w1 ⟨g, rfl, hH, hg, hb1⟩
    have q0 := hH.cell (i := 0) rfl
    have q1 := hH.cell (i := 1) rfl
    go_wp2_with fail
    go_quiet (fail)
    go_wp2_with fail
    go_ret3
    exact ⟨by rw [HF.out]; rfl, Below.drewN' hb1 _⟩
  · have HF := Stow.mk (ack_long hf hy)
    have hyn : (y != (t.length : Int)) = true := by simpa using hy
    clear hf
    go_enter Try.func18, Try.ntmps18
    go_wp2_with fail
    refine (front_good l _ 2 n1 n2 t y rfl _ hl HO.out).mono ?_
    rintro e w1 ⟨g, rfl, hH, hg, hb1⟩
    go_wp2_with fail
    go_ret3
    exact ⟨by rw [HF.out]; rfl, hb1⟩

theorem held_below {w w' : World} {g B : Nat} {cs : List Value} (h : Held w g cs) (hb : Below B w w') (hg : g < B) : Held w' g cs := by
  obtain ⟨t, h⟩ := h
  exact ⟨t, (hb.block g hg).trans h⟩
theorem Held.far {w : World} {g : Nat} {cs : List Value} (h : Held w g cs) {p : Addr} (hp : g ≠ p.block) (u : Value) : Held (w.setCell p u) g cs := by
  obtain ⟨t, h⟩ := h
  exact ⟨t, (Below.heap_setCell w p u g hp).trans h⟩
theorem refBt_results (W : World) (g : Nat) (x y : Int) (v : Value) (b : Int) (tmps : Array Value) (hH : Held W g [.int .i64 x, .int .i64 y, v])
    (h2 : tmps[2]?.getD undef = .pointer (some ⟨g, 0, none⟩)) (h3 : tmps[3]?.getD undef = .int .i64 b) :
    (results Try.f16 tmps).run Try.prog W = .ok (.tuple #[.agg #[.int .i64 x, .int .i64 y, v], .int .i64 b]) W := by
  have c0 := hH.cell (i := 0) rfl
  have c1 := hH.cell (i := 1) rfl
  have c2 := hH.cell (i := 2) rfl
  simp [results, Try.results16, go_sem, h2, h3, c0, c1, c2]


set_option maxHeartbeats 2000000 in
set_option maxRecDepth 100000 in
theorem refBtRead_any (l : List UInt8) (w : World) (hl : l.length ≤ 1099511627776) :
    Calls Try.prog 16 #[.string (bs l)] w (BatchOf w (btRead l).1 (btRead l).2.1 (btRead l).2.2.1 (btRead l).2.2.2) := by
  have hR0 := Held.made w [.int .i64 0, .int .i64 0, .slice none 0 0] 24
  rcases hf : front l 1 with ⟨t, n1, n2, y, b⟩
  have HO := Stow.mk hf
  by_cases hb : b = 0
  rotate_left
  · have HF := Stow.mk (rd_bad hf hb)
    have hbn : ((b : Int) != 0) = true := by simp; omega
    clear hf
    go_enter Try.func16, Try.ntmps16
    go_wp2_with fail
    refine (front_bad l _ 1 b n1 n2 t y rfl _ hl HO.out hb).mono ?_
    rintro e w1 ⟨rfl, hb1⟩
    have hR1 := hR0.kept hb1
    have hbl1 : Below w.heap.size w w1 := Below.call (Below.alloc' (Below.self _) _) hb1
    have q0 := hR1.cell (i := 0) rfl
    have q1 := hR1.cell (i := 1) rfl
    have q2 := hR1.cell (i := 2) rfl
    have f0 := hR1.free 0
    have f1 := hR1.free 1
    have f2 := hR1.free 2
    go_wp2_with fail
    refine bodyPost_ret (refBt_results _ w.heap.size 0 0 (.slice none 0 0) _ _ (((hR1.set 0 (.int .i64 0)).set 1 (.int .i64 0)).set 2 (.slice none 0 0)) rfl rfl) rfl ⟨.slice none 0 0, ?_, ?_, ?_⟩
    · rw [HF.out]; rfl
    · rw [HF.out]; exact ⟨rfl, .inl ⟨rfl, rfl⟩⟩
    · exact ((hbl1.setCell (p := ⟨w.heap.size, 0, none⟩) (Nat.le_refl _) _).setCell (p := ⟨w.heap.size, 1, none⟩) (Nat.le_refl _) _).setCell (p := ⟨w.heap.size, 2, none⟩) (Nat.le_refl _) _
  subst hb
  have htl : t.length ≤ 1099511627776 ∧ y ≤ 9223372036854775807 := by
    rcases ho : openK l 1 with ⟨u, c⟩
    have hc : c = 0 := by
      by_cases hc : c = 0
      · exact hc
      · rw [front_1 ho hc] at hf; simp only [Prod.mk.injEq] at hf; omega
    subst hc
    rcases g1 : numM u 3 7 with ⟨m1, y1, b1⟩
    rcases g2 : numM u y1 1099511627776 with ⟨m2, y2, b2⟩
    obtain rfl : b1 = 0 := by
      by_cases hc : b1 = 0
      · exact hc
      · rw [front_2 ho g1 hc] at hf; simp only [Prod.mk.injEq] at hf; omega
    obtain rfl : b2 = 0 := by
      by_cases hc : b2 = 0
      · exact hc
      · rw [front_3 ho g1 g2 hc] at hf; simp only [Prod.mk.injEq] at hf; omega
    rw [front_4 ho g1 g2] at hf
    simp only [Prod.mk.injEq] at hf
    obtain ⟨rfl, rfl, rfl, rfl, _⟩ := hf
    have hul := openK_len ho
    exact ⟨by omega, (numM_place (by omega) g2).1⟩
  obtain ⟨htl, hyl⟩ := htl
  rcases h3 : numM t y 16 with ⟨n3, y3, b3⟩
  have H3 := Stow.mk h3
  by_cases hb3 : b3 = 0
  rotate_left
  · have HF := Stow.mk (rd_many hf h3 hb3)
    have hbn : ((b3 : Int) != 0) = true := by simp; omega
    clear hf h3
    go_enter Try.func16, Try.ntmps16
    go_wp2_with fail
    refine (front_good l _ 1 n1 n2 t y rfl _ hl HO.out).mono ?_
    rintro e w1 ⟨g, rfl, hH, hg, hb1⟩
    have hR1 := hR0.kept hb1
    have hbl1 : Below w.heap.size w w1 := Below.call (Below.alloc' (Below.self _) _) hb1
    go_wp2_with fail
    refine (refNumM_any t y _ 16 rfl _ (by omega) (by omega) (by omega)).mono ?_
    rw [H3.out]
    rintro e w2 ⟨rfl, rfl⟩
    have q0 := hR1.cell (i := 0) rfl
    have q1 := hR1.cell (i := 1) rfl
    have q2 := hR1.cell (i := 2) rfl
    have f0 := hR1.free 0
    have f1 := hR1.free 1
    have f2 := hR1.free 2
    go_wp2_with fail
    refine bodyPost_ret (refBt_results _ w.heap.size 0 0 (.slice none 0 0) _ _ (((hR1.set 0 (.int .i64 0)).set 1 (.int .i64 0)).set 2 (.slice none 0 0)) rfl rfl) rfl ⟨.slice none 0 0, ?_, ?_, ?_⟩
    · rw [HF.out]; rfl
    · rw [HF.out]; exact ⟨rfl, .inl ⟨rfl, rfl⟩⟩
    · exact ((hbl1.setCell (p := ⟨w.heap.size, 0, none⟩) (Nat.le_refl _) _).setCell (p := ⟨w.heap.size, 1, none⟩) (Nat.le_refl _) _).setCell (p := ⟨w.heap.size, 2, none⟩) (Nat.le_refl _) _
  subst hb3
  obtain ⟨hy3, hn3⟩ := numM_place (by omega) h3
  obtain ⟨R, hR⟩ : ∃ R, spansR t n3 [] y3 = R := ⟨_, rfl⟩
  have HALL : Stow (spansAll t y3 n3 = if R.2.2 ≠ 0 then ([], R.2.2) else if R.2.1 ≠ t.length then ([], 3) else if n3 = 0 then ([], 9) else (R.1, 0)) := ⟨by unfold spansAll; rw [hR]⟩
  have HR := Stow.mk hR
  clear hR hf h3
  go_enter Try.func16, Try.ntmps16
  go_wp2_with fail
  refine (front_good l _ 1 n1 n2 t y rfl _ hl HO.out).mono ?_
  rintro e w1 ⟨g, rfl, hH, hg, hb1⟩
  have hR1 := hR0.kept hb1
  have hbl1 : Below w.heap.size w w1 := Below.call (Below.alloc' (Below.self _) _) hb1
  go_wp2_with fail
  refine (refNumM_any t y _ 16 rfl _ (by omega) (by omega) (by omega)).mono ?_
  rw [H3.out]
  rintro e w2 ⟨rfl, rfl⟩
  have q0 := hH.cell (i := 0) rfl
  have q1 := hH.cell (i := 1) rfl
  go_wp2_with fail
  have hgl := hH.lt
  have hgn : g ≠ w2.heap.size := by omega
  go_region
  go_wp2_with fail
  clear q0 q1
  have hlt1 := hR1.lt
  go_loopw [6, 10, 11, 12, 13] (fun p v _ _ _ wr => ∃ (j : Nat) (acc : List Sp) (a : Int) (A : Option Addr) (cap : Nat), v = .int .i64 j ∧ j ≤ n3 ∧ acc.length = j ∧ p = .int .i64 a ∧ a ≤ 9223372036854775807 ∧ Stow (spansR t (n3 - j) acc a = R) ∧
      Held wr w2.heap.size [.int .i64 (n1 : Int), .int .i64 (n2 : Int), .slice A acc.length cap] ∧ wr.ownsRow (w2.heap.size + 1) 46 11 (.slice A acc.length cap) acc.length (acc.flatMap Sp.cells) ∧ Held wr w.heap.size [.int .i64 0, .int .i64 0, .slice none 0 0] ∧ Below w.heap.size w wr)
    (fun _ v _ _ _ _ => n3 - (intOf v).toNat)
  case atStart =>
    refine ⟨0, [], y3, none, 0, rfl, by omega, rfl, rfl, hy3, ⟨by rw [← HR.out]; rfl⟩, ?_, World.ownsRow_nil _ _ _ _, ?_, ?_⟩
    · exact (Held.made w2 [.int .i64 (n1 : Int), .int .i64 (n2 : Int), .slice none 0 0] _).drew
    · exact (hR1.kept (Below.alloc' (Below.self _) _)).drew
    · exact (Below.alloc' hbl1 _).drew
  case round =>
    obtain ⟨j, acc, a, A, cap, rfl, hj, hacc, rfl, ha2, HJ, hHb, hown, hHr, hbr⟩ := hrel
    have hal : acc.length ≤ 16 := by omega
    have HACC := Stow.mk hacc
    clear hacc
    have hltb := hHb.lt
    by_cases hlt : j < n3
    · rcases hs : readSpan t a with ⟨s, z, e⟩
      have HS : Stow (readRef t a = (s, z, e)) := ⟨by rw [← read_same t a (by omega), hs]⟩
      by_cases he : e = 0
      · subst he
        have hay : ∃ y' : Nat, z = (y' : Int) ∧ y' ≤ t.length := by
          by_cases hneg : a < 0
          · rw [readSpan_neg hneg] at hs; simp at hs
          · obtain ⟨k, rfl⟩ := Int.eq_ofNat_of_zero_le (by omega : 0 ≤ a)
            obtain ⟨m, h1, h2, _⟩ := span_fwdk (by omega) hs
            exact ⟨k + m, h1, h2⟩
        obtain ⟨y', rfl, hy'⟩ := hay
        have HJ2 : Stow (spansR t (n3 - (j + 1)) (acc ++ [s]) (y' : Int) = R) := ⟨by rw [← HJ.out, show n3 - j = (n3 - (j + 1)) + 1 by omega, spansR_snoc hs]⟩
        clear hs HJ
        obtain ⟨hi, lo, id, up, name, st, sq, kd, sh, t0, t1⟩ := s
        go_wp2_with fail
        refine (refRead_any t a _ (by omega) ha2).mono ?_
        rw [HS.out]
        simp only [Sp.val]
        rintro e w3 ⟨rfl, hb3⟩
        have hown3 := (own_kept hown hb3).alloc (.cells #[.int .u64 (hi : Int), .int .u64 (lo : Int), .int .u64 (id : Int), .int .u64 (up : Int), .string (bs name), .int .i64 st, .int .i64 sq, .int .i64 kd, .bool sh, .int .i64 t0, .int .i64 t1] 46)
        have hB3 : w2.heap.size + 1 ≤ w3.heap.size := by have := hb3.size; omega
        have hHb3 := hHb.kept hb3
        have hHr3 := hHr.kept hb3
        have c2 := hHb3.cell (i := 2) rfl
        have f2 := hHb3.free 2
        have hbw : Below w.heap.size w (w3.alloc (.cells #[.int .u64 (hi : Int), .int .u64 (lo : Int), .int .u64 (id : Int), .int .u64 (up : Int), .string (bs name), .int .i64 st, .int .i64 sq, .int .i64 kd, .bool sh, .int .i64 t0, .int .i64 t1] 46)) := Below.alloc' (Below.call hbr hb3) _
        clear hown
        have k1 : ∀ u ∈ ([.int .u64 (hi : Int), .int .u64 (lo : Int), .int .u64 (id : Int), .int .u64 (up : Int), .string (bs name), .int .i64 st, .int .i64 sq, .int .i64 kd, .bool sh, .int .i64 t0, .int .i64 t1] : List Value), u.oneCell' = true := by simp [Value.oneCell']
        have k2 : (acc.length + 1) * 96 ≤ 140737488355328 := by omega
        have k3 : acc.length + 1 ≤ maxLen := by unfold maxLen; omega
        have k4 : w2.heap.size + 1 ≤ (w3.alloc (.cells #[.int .u64 (hi : Int), .int .u64 (lo : Int), .int .u64 (id : Int), .int .u64 (up : Int), .string (bs name), .int .i64 st, .int .i64 sq, .int .i64 kd, .bool sh, .int .i64 t0, .int .i64 t1] 46)).heap.size := by simp; omega
        have k5 : w3.heap.size + 1 = (w3.alloc (.cells #[.int .u64 (hi : Int), .int .u64 (lo : Int), .int .u64 (id : Int), .int .u64 (up : Int), .string (bs name), .int .i64 st, .int .i64 sq, .int .i64 kd, .bool sh, .int .i64 t0, .int .i64 t1] 46)).heap.size := by simp
        have K5 := Stow.mk k5
        have K1 := Stow.mk k1
        have K4 := Stow.mk k4
        have HO3 := Stow.mk hown3
        clear k1 k5 k4 hown3
        have hlt2 : w2.heap.size < w3.heap.size := by omega
        go_wp2_with (at_builtin; refine wpList_append_elem_form _ _ _ rfl (.tmp 60) (.tmp 62) 22 rfl (w2.heap.size + 1) 46 _ 11 96 Try.underlying22 info_span _ _ _ HO3.out rfl _ rfl K5.out rfl (by decide) rfl K1.out k2 k3 K4.out ?_; intro A4 cap4 w4 hown4 hg4 hb4 hs4; have hHb4 : Held w4 w2.heap.size [.int .i64 (n1 : Int), .int .i64 (n2 : Int), .slice A acc.length cap] := held_below (hHb3.kept (Below.alloc' (Below.self _) _)) hb4 (by omega); have c4 := hHb4.cell (i := 2) rfl; have f4 := hHb4.free 2; clear c2 f2)
        have hHr4 : Held w4 w.heap.size [.int .i64 0, .int .i64 0, .slice none 0 0] := held_below (hHr3.kept (Below.alloc' (Below.self _) _)) hb4 (by omega)
        have hlen : ∀ x : Sp, (acc ++ [x]).length = acc.length + 1 := fun x => by simp
        refine ⟨⟨j + 1, acc ++ [⟨hi, lo, id, up, name, st, sq, kd, sh, t0, t1⟩], y', A4, cap4, rfl, by omega, by rw [hlen, HACC.out], rfl, by omega, HJ2, ?_, ?_, ?_, ?_⟩, by simp [intOf]; omega⟩
        · rw [hlen]; exact hHb4.set 2 (.slice A4 (acc.length + 1) cap4)
        · rw [hlen, spans_next]; exact ownsRow_setCell_below hown4 (a := ⟨w2.heap.size, 2, none⟩) (by simp) _
        · exact hHr4.far (p := ⟨w2.heap.size, 2, none⟩) (by simp; omega) _
        · exact (Below.trans hbw (hb4.mono (by omega))).setCell (p := ⟨w2.heap.size, 2, none⟩) (by simp; omega) _
      · have hen : ((e : Int) != 0) = true := by simp; omega
        have HRR : Stow (R = ([], 0, e)) := ⟨by rw [← HJ.out, show n3 - j = (n3 - (j + 1)) + 1 by omega, spansR_bad hs he]⟩
        have HF0 : Stow (spansAll t y3 n3 = ([], e)) := ⟨by rw [HALL.out, HRR.out, if_pos he]⟩
        have HF := Stow.mk (rd_spans HO.out H3.out HF0.out he)
        clear hs HJ
        obtain ⟨hi, lo, id, up, name, st, sq, kd, sh, t0, t1⟩ := s
        go_wp2_with fail
        refine (refRead_any t a _ (by omega) ha2).mono ?_
        rw [HS.out]
        simp only [Sp.val]
        rintro e w3 ⟨rfl, hb3⟩
        have hHr3 := hHr.kept hb3
        have hbl3 : Below w.heap.size w w3 := Below.call hbr hb3
        have hltX : w.heap.size < w3.heap.size := hHr3.lt
        have z0 := hHr3.cell (i := 0) rfl
        have z1 := hHr3.cell (i := 1) rfl
        have z2 := hHr3.cell (i := 2) rfl
        have y0 := hHr3.free 0
        have y1 := hHr3.free 1
        have y2 := hHr3.free 2
        go_wp2_with fail
        refine bodyPost_ret (refBt_results _ w.heap.size 0 0 (.slice none 0 0) _ _ ((((hHr3.set 0 (.int .i64 0)).set 1 (.int .i64 0)).set 2 (.slice none 0 0)).kept (Below.alloc' (Below.self _) _)) rfl rfl) rfl ⟨.slice none 0 0, ?_, ?_, ?_⟩
        · rw [HF.out]; rfl
        · rw [HF.out]; exact ⟨rfl, .inl ⟨rfl, rfl⟩⟩
        · exact Below.alloc' (((hbl3.setCell (p := ⟨w.heap.size, 0, none⟩) (Nat.le_refl _) _).setCell (p := ⟨w.heap.size, 1, none⟩) (Nat.le_refl _) _).setCell (p := ⟨w.heap.size, 2, none⟩) (Nat.le_refl _) _) _
    · obtain rfl : j = n3 := by omega
      have hRR : R = (acc, a, 0) := by rw [← HJ.out, Nat.sub_self]; rfl
      have HRR := Stow.mk hRR
      clear hRR
      by_cases ha3 : a = t.length
      · have hd : (a != (t.length : Int)) = false := by simpa using ha3
        by_cases hm0 : j = 0
        · have hd0 : ((j : Int) == 0) = true := by simp; omega
          have HF0 : Stow (spansAll t y3 j = ([], 9)) := ⟨by rw [HALL.out, HRR.out]; simp [ha3, hm0]⟩
          have HF := Stow.mk (rd_spans HO.out H3.out HF0.out (by omega))
          have q0 := hHr.cell (i := 0) rfl
          have q1 := hHr.cell (i := 1) rfl
          have q2 := hHr.cell (i := 2) rfl
          have f0 := hHr.free 0
          have f1 := hHr.free 1
          have f2 := hHr.free 2
          go_wp2_with fail
          refine bodyPost_ret (refBt_results _ w.heap.size 0 0 (.slice none 0 0) _ _ (((hHr.set 0 (.int .i64 0)).set 1 (.int .i64 0)).set 2 (.slice none 0 0)) rfl rfl) rfl ⟨.slice none 0 0, ?_, ?_, ?_⟩
          · rw [HF.out]; rfl
          · rw [HF.out]; exact ⟨rfl, .inl ⟨rfl, rfl⟩⟩
          · exact ((hbr.setCell (p := ⟨w.heap.size, 0, none⟩) (Nat.le_refl _) _).setCell (p := ⟨w.heap.size, 1, none⟩) (Nat.le_refl _) _).setCell (p := ⟨w.heap.size, 2, none⟩) (Nat.le_refl _) _
        · have hd0 : ((j : Int) == 0) = false := by simp; omega
          have HF0 : Stow (spansAll t y3 j = (acc, 0)) := ⟨by rw [HALL.out, HRR.out]; simp [ha3, hm0]⟩
          have HF := Stow.mk (rd_good HO.out H3.out HF0.out)
          have q0 := hHr.cell (i := 0) rfl
          have q1 := hHr.cell (i := 1) rfl
          have q2 := hHr.cell (i := 2) rfl
          have f0 := hHr.free 0
          have f1 := hHr.free 1
          have f2 := hHr.free 2
          have p0 := hHb.cell (i := 0) rfl
          have p1 := hHb.cell (i := 1) rfl
          have p2 := hHb.cell (i := 2) rfl
          go_wp2_with fail
          refine bodyPost_ret (refBt_results _ w.heap.size n1 n2 (.slice A acc.length cap) _ _ (((hHr.set 0 (.int .i64 n1)).set 1 (.int .i64 n2)).set 2 (.slice A acc.length cap)) rfl rfl) rfl ⟨.slice A acc.length cap, ?_, ?_, ?_⟩
          · rw [HF.out]; rfl
          · rw [HF.out]
            have hown2 := ownsRow_setCell_below (ownsRow_setCell_below (ownsRow_setCell_below hown (a := ⟨w.heap.size, 0, none⟩) (by simp; omega) (.int .i64 n1)) (a := ⟨w.heap.size, 1, none⟩) (by simp; omega) (.int .i64 n2)) (a := ⟨w.heap.size, 2, none⟩) (by simp; omega) (.slice A acc.length cap)
            exact own_base hown2 (by omega)
          · exact ((hbr.setCell (p := ⟨w.heap.size, 0, none⟩) (Nat.le_refl _) _).setCell (p := ⟨w.heap.size, 1, none⟩) (Nat.le_refl _) _).setCell (p := ⟨w.heap.size, 2, none⟩) (Nat.le_refl _) _
      · have hd : (a != (t.length : Int)) = true := by simpa using ha3
        have HF0 : Stow (spansAll t y3 j = ([], 3)) := ⟨by rw [HALL.out, HRR.out]; simp [ha3]⟩
        have HF := Stow.mk (rd_spans HO.out H3.out HF0.out (by omega))
        have q0 := hHr.cell (i := 0) rfl
        have q1 := hHr.cell (i := 1) rfl
        have q2 := hHr.cell (i := 2) rfl
        have f0 := hHr.free 0
        have f1 := hHr.free 1
        have f2 := hHr.free 2
        go_wp2_with fail
        refine bodyPost_ret (refBt_results _ w.heap.size 0 0 (.slice none 0 0) _ _ (((hHr.set 0 (.int .i64 0)).set 1 (.int .i64 0)).set 2 (.slice none 0 0)) rfl rfl) rfl ⟨.slice none 0 0, ?_, ?_, ?_⟩
        · rw [HF.out]; rfl
        · rw [HF.out]; exact ⟨rfl, .inl ⟨rfl, rfl⟩⟩
        · exact ((hbr.setCell (p := ⟨w.heap.size, 0, none⟩) (Nat.le_refl _) _).setCell (p := ⟨w.heap.size, 1, none⟩) (Nat.le_refl _) _).setCell (p := ⟨w.heap.size, 2, none⟩) (Nat.le_refl _) _
end Go.Proofs.Ytkhepehgafijfaa
