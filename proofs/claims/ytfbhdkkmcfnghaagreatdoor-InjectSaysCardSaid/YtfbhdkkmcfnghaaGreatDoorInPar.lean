/- Walks of ids' texts and numbers and of parent's pieces. Conditions: numbers that fit; texts of digits. -/
import Derived.Test.YtfbhdkkmcfnghaaGreatDoorInOct
import Derived.Deep.MidRow
namespace Go.Proofs.YtfbhdkkmcfnghaaGreatDoor
open Go.RowKit
set_option linter.unusedVariables false

set_option maxHeartbeats 400000 in
set_option maxRecDepth 100000 in
theorem idsSpanText_any (x : Int) (n : Nat) (hx : x = n) (w : World) (hn : n < 18446744073709551616) :
    Calls Tryz.prog 71 #[.int .u64 x] w fun e w' => e = .returned (.string (bs (In.hex 16 n))) ∧ Below w.heap.size w w' := by
  subst hx
  go_enter Tryz.func71, Tryz.ntmps71
  go_wp2_with fail
  refine (octHex_any 16 _ _ n rfl rfl _ hn (.inl rfl)).mono ?_
  rintro e w1 ⟨rfl, hb⟩
  go_wp2_with fail
  go_ret
  exact ⟨rfl, hb⟩

set_option maxHeartbeats 1000000 in
set_option maxRecDepth 100000 in
theorem idsText_any (hi lo : Nat) (w : World) (h1 : hi < 18446744073709551616) (h2 : lo < 18446744073709551616) :
    Calls Tryz.prog 70 #[.agg #[.int .u64 hi, .int .u64 lo]] w fun e w' => e = .returned (.string (bs (In.hex 16 hi ++ In.hex 16 lo))) ∧ Below w.heap.size w w' := by
  have hHM := Held.made w [.int .u64 hi, .int .u64 lo] 25
  have hl1 := In.hex_len 16 hi
  have hl2 := In.hex_len 16 lo
  have K1 := fun W => idsSpanText_any _ hi rfl W h1
  have K2 := fun W => idsSpanText_any _ lo rfl W h2
  generalize In.hex 16 hi = X at *
  generalize In.hex 16 lo = Y at *
  have HK1 := Stow.mk K1
  have HK2 := Stow.mk K2
  clear K1 K2
  go_enter Tryz.func70, Tryz.ntmps70
  go_wp2_with fail
  generalize hWe : World.alloc _ _ = W
  have hH : Held W w.heap.size [.int .u64 hi, .int .u64 lo] := by rw [← hWe]; exact hHM
  have hB : Below w.heap.size w W := by rw [← hWe]; exact Below.alloc' (Below.self _) _
  clear hWe hHM
  have ltX := hH.lt
  have a0 : ∀ x : Later W.heap.size W, x.1.cell? ⟨w.heap.size, 0, none⟩ = _ := fun x => x.cell (hH.cell (i := 0) rfl) ltX
  have a1 : ∀ x : Later W.heap.size W, x.1.cell? ⟨w.heap.size, 1, none⟩ = _ := fun x => x.cell (hH.cell (i := 1) rfl) ltX
  clear hH
  refine wp_region_later W.heap.size (by kernel_rfl) (by kernel_rfl) ?_
  go_big_quiet_step (fail)
  go_big_quiet_step (fail)
  go_big_quiet_step (exact Calls.later (Nat.le_refl _) (HK1.out _))
  go_big_quiet_step (fail)
  go_big_quiet_step (fail)
  go_big_quiet_step (exact Calls.later (Nat.le_refl _) (HK2.out _))
  go_big_quiet_step (fail)
  go_big_quiet_step (fail)
  refine wpQuiet_nil ?_
  rintro ⟨wx, hbx⟩
  clear a0 a1
  go_wp2_with fail
  go_ret
  exact ⟨rfl, hB.trans (hbx.mono hB.size)⟩

theorem or_zero (a b : Nat) (ha : a < 18446744073709551616) (hb : b < 18446744073709551616) : (bits .or .u64 (a : Int) (b : Int) == 0) = decide (a = 0 ∧ b = 0) := by
  rw [bits_or_u64_nat _ _ ha hb]
  by_cases h : a = 0 ∧ b = 0
  · rw [h.1, h.2]; decide
  · have : a ||| b ≠ 0 := by rw [Ne, Nat.or_eq_zero_iff]; exact h
    rw [decide_eq_false h, beq_eq_false_iff_ne]
    omega

set_option maxHeartbeats 400000 in
set_option maxRecDepth 100000 in
theorem idsZero_any (hi lo : Nat) (w : World) (h1 : hi < 18446744073709551616) (h2 : lo < 18446744073709551616) :
    Calls Tryz.prog 68 #[.agg #[.int .u64 hi, .int .u64 lo]] w fun e w' => e = .returned (.bool (decide (hi = 0 ∧ lo = 0))) ∧ Below w.heap.size w w' := by
  have hz := or_zero hi lo h1 h2
  go_enter Tryz.func68, Tryz.ntmps68
  go_wp2_with fail
  go_ret
  exact ⟨by first | rfl | simp, Below.alloc' (Below.self _) _⟩

set_option maxHeartbeats 400000 in
set_option maxRecDepth 100000 in
theorem idsHalf_any (l : List UInt8) (w : World) (hl : l.length = 16) (hx : In.isHex l = true) :
    Calls Tryz.prog 136 #[.string (bs l)] w fun e w' => e = .returned (.tuple #[.int .u64 (In.num l : Nat), .bool true]) ∧ w' = w := by
  have HU : Stow (In.unhex l = (In.num l, 0)) := ⟨by unfold In.unhex; rw [if_pos ⟨by omega, by omega, hx⟩]⟩
  go_enter Tryz.func136, Tryz.ntmps136
  go_wp2_with fail
  refine (octUnhex_any l _ (by omega)).mono ?_
  rw [HU.out]
  rintro e w1 ⟨rfl, rfl⟩
  go_wp2_with fail
  go_ret2
  exact ⟨by first | rfl | simp, rfl⟩

set_option maxHeartbeats 400000 in
set_option maxRecDepth 100000 in
theorem idsSpanOf_any (l : List UInt8) (w : World) (hl : l.length = 16) (hx : In.isHex l = true) :
    Calls Tryz.prog 91 #[.string (bs l)] w fun e w' => e = .returned (.tuple #[.int .u64 (In.num l : Nat), .int .i64 (if In.num l = 0 then 11 else 0)]) ∧ w' = w := by
  obtain ⟨n, hn⟩ : ∃ n, In.num l = n := ⟨_, rfl⟩
  have HN := Stow.mk hn
  by_cases h0 : n = 0
  · subst h0
    go_enter Tryz.func91, Tryz.ntmps91
    go_wp2_with fail
    refine (idsHalf_any l _ hl hx).mono ?_
    rw [HN.out]
    rintro e w1 ⟨rfl, rfl⟩
    go_wp2_with fail
    go_ret2
    exact ⟨by first | rfl | (rw [HN.out]; rfl), rfl⟩
  · have hd : ((n : Int) == 0) = false := by rw [beq_eq_false_iff_ne]; omega
    have hif : Stow ((if In.num l = 0 then 11 else 0 : Int) = 0) := ⟨by rw [if_neg (by rw [hn]; exact h0)]⟩
    go_enter Tryz.func91, Tryz.ntmps91
    go_wp2_with fail
    refine (idsHalf_any l _ hl hx).mono ?_
    rw [HN.out]
    rintro e w1 ⟨rfl, rfl⟩
    go_wp2_with fail
    go_ret2
    exact ⟨by first | rfl | (rw [hif.out, HN.out]; rfl), rfl⟩

theorem idsOf_results (W : World) (g : Nat) (a b : Value) (n : Int) (tmps : Array Value) (hH : Held W g [a, b]) (h2 : tmps[2]?.getD undef = .pointer (some ⟨g, 0, none⟩)) (h3 : tmps[3]?.getD undef = .int .i64 n) :
    (results Tryz.f89 tmps).run Tryz.prog W = .ok (.tuple #[.agg #[a, b], .int .i64 n]) W := by
  have c0 := hH.cell (i := 0) rfl
  have c1 := hH.cell (i := 1) rfl
  simp [results, Tryz.results89, go_sem, h2, h3, c0, c1]

def In.ofErr (l : List UInt8) : Nat := if In.num (l.take 16) = 0 ∧ In.num (l.drop 16) = 0 then 11 else 0

set_option maxHeartbeats 1000000 in
set_option maxRecDepth 100000 in
theorem idsOf_any (l : List UInt8) (w : World) (hl : l.length = 32) (hx : In.isHex l = true) :
    Calls Tryz.prog 89 #[.string (bs l)] w fun e w' => e = .returned (.tuple #[.agg #[.int .u64 (In.num (l.take 16) : Nat), .int .u64 (In.num (l.drop 16) : Nat)], .int .i64 (In.ofErr l : Nat)]) ∧ Below w.heap.size w w' := by
  have e16 : (16 : Nat) ^ 16 = 18446744073709551616 := rfl
  have HX1 := Stow.mk (In.isHex_take hx 16)
  have HX2 := Stow.mk (In.isHex_drop hx 16)
  have hl1 : (l.take 16).length = 16 := by simp; omega
  have hl2 : (l.drop 16).length = 16 := by simp; omega
  have hn1 : In.num (l.take 16) < 18446744073709551616 := by have := In.num_lt _ HX1.out; rw [hl1, e16] at this; exact this
  have hn2 : In.num (l.drop 16) < 18446744073709551616 := by have := In.num_lt _ HX2.out; rw [hl2, e16] at this; exact this
  have HL1 := Stow.mk hl1
  have HL2 := Stow.mk hl2
  have K1 := fun W => idsHalf_any (l.take 16) W HL1.out HX1.out
  have K2 : ∀ W : World, Calls Tryz.prog 136 #[.string (bs ((l.drop 16).take 16))] W fun e w' => e = .returned (.tuple #[.int .u64 (In.num (l.drop 16) : Nat), .bool true]) ∧ w' = W := fun W => by
    rw [List.take_of_length_le (by rw [HL2.out]; exact Nat.le_refl _)]
    exact idsHalf_any (l.drop 16) W HL2.out HX2.out
  have hE : In.ofErr l = if In.num (l.take 16) = 0 ∧ In.num (l.drop 16) = 0 then 11 else 0 := rfl
  obtain ⟨er, her⟩ : ∃ er, In.ofErr l = er := ⟨_, rfl⟩
  rw [her] at hE ⊢
  clear her
  generalize In.num (l.take 16) = a at *
  generalize In.num (l.drop 16) = b at *
  have HE := Stow.mk hE
  have HK1 := Stow.mk K1
  have HK2 := Stow.mk K2
  clear K1 K2 hx hl1 hl2 e16 hE
  have hM := Held.made w [.int .u64 0, .int .u64 0] 25
  have HM : Stow (∀ W, Below (w.alloc (.cells #[.int .u64 0, .int .u64 0] 25)).heap.size (w.alloc (.cells #[.int .u64 0, .int .u64 0] 25)) W → Held W w.heap.size [.int .u64 0, .int .u64 0] ∧ Below w.heap.size w W) := ⟨fun W hb => ⟨hM.kept hb, Below.call (Below.alloc' (Below.self _) _) hb⟩⟩
  clear hM
  obtain ⟨z, hz⟩ : ∃ z, decide (a = 0 ∧ b = 0) = z := ⟨_, rfl⟩
  have HZ := Stow.mk hz
  clear hz
  go_enter Tryz.func89, Tryz.ntmps89
  go_wp2_with fail
  refine (HK1.out _).mono ?_
  rintro e w1 ⟨rfl, rfl⟩
  go_wp2_with fail
  refine (HK2.out _).mono ?_
  rintro e w1 ⟨rfl, rfl⟩
  go_wp2_with fail
  refine (idsZero_any a b _ hn1 hn2).mono ?_
  rw [HZ.out]
  rintro e w1 ⟨rfl, hb1⟩
  have hb1' : Below (w.alloc (.cells #[.int .u64 0, .int .u64 0] 25)).heap.size (w.alloc (.cells #[.int .u64 0, .int .u64 0] 25)) w1 := Below.call (Below.alloc' (Below.self _) _) hb1
  obtain ⟨hH, hB⟩ := HM.out w1 hb1'
  have hT := (Held.made (w.alloc (.cells #[.int .u64 0, .int .u64 0] 25)) [.int .u64 a, .int .u64 b] 25).kept hb1
  have e1 : (w.alloc (.cells #[.int .u64 0, .int .u64 0] 25)).heap.size = w.heap.size + 1 := by simp
  rw [e1] at hT
  have t0 := hT.cell (i := 0) rfl
  have t1 := hT.cell (i := 1) rfl
  have f0 := hH.free 0
  have f1 := hH.free 1
  have c0 := hH.cell (i := 0) rfl
  have c1 := hH.cell (i := 1) rfl
  have HH := Stow.mk hH
  have hlt := hH.lt
  clear hb1 hb1' hH hT e1
  cases z
  · have hz : ¬ (a = 0 ∧ b = 0) := of_decide_eq_false HZ.out
    obtain rfl : er = 0 := by rw [HE.out, if_neg hz]
    clear hz
    go_wp2_with fail
    refine bodyPost_ret (idsOf_results _ w.heap.size (.int .u64 a) (.int .u64 b) 0 _ ((HH.out.set 0 _).set 1 _) rfl rfl) rfl ?_
    exact ⟨rfl, (hB.setCell (p := ⟨w.heap.size, 0, none⟩) (Nat.le_refl _) _).setCell (p := ⟨w.heap.size, 1, none⟩) (Nat.le_refl _) _⟩
  · have hz : (a = 0 ∧ b = 0) := of_decide_eq_true HZ.out
    obtain rfl : er = 11 := by rw [HE.out, if_pos hz]
    obtain ⟨rfl, rfl⟩ := hz
    go_wp2_with fail
    refine bodyPost_ret (idsOf_results _ w.heap.size (.int .u64 0) (.int .u64 0) 11 _ ((HH.out.set 0 _).set 1 _) rfl rfl) rfl ?_
    exact ⟨rfl, (hB.setCell (p := ⟨w.heap.size, 0, none⟩) (Nat.le_refl _) _).setCell (p := ⟨w.heap.size, 1, none⟩) (Nat.le_refl _) _⟩

theorem in_there (w : World) (cells : Array Value) (t : TypeId) : (w.alloc (.cells cells t)).there w.heap.size 0 cells.size := by
  intro j hj
  have h : Held (w.alloc (.cells cells t)) w.heap.size cells.toList := Held.made w cells.toList t
  refine ⟨?_, h.free _⟩
  have := h.cell (i := j) (v := cells[j]) (by simp [hj])
  rw [Nat.zero_add, this]
  rfl
theorem below_cells {B : Nat} {w : World} {b : Nat} (hb : B ≤ b) : ∀ (vs : List Value) (o : Nat) (w' : World), Below B w w' → Below B w (w'.setCells b o vs)
  | [], _, _, h => h
  | v :: vs, o, w', h => below_cells hb vs (o + 1) _ (h.setCell (p := ⟨b, o, none⟩) hb v)

def In.pieces : List Value := [.int .i64 0, .int .i64 2, .int .i64 3, .int .i64 35, .int .i64 36, .int .i64 52, .int .i64 53, .int .i64 55]
theorem pieces_results (W : World) (g : Nat) (tmps : Array Value) (hH : W.rangeAt g 0 In.pieces) (h2 : tmps[0]?.getD undef = .pointer (some ⟨g, 0, none⟩)) :
    (results Tryz.f88 tmps).run Tryz.prog W = .ok (.agg In.pieces.toArray) W := by
  have h := run_loadVar_mid (P := Tryz.prog) W g 0 126 In.pieces _ hH Tryz.underlying126 rfl (by kernel_rfl)
  simp [results, Tryz.results88, asAddr, h2, h]

set_option maxHeartbeats 1000000 in
set_option maxRecDepth 100000 in
theorem parPieces_any (w : World) : Calls Tryz.prog 88 #[] w fun e w' => e = .returned (.agg In.pieces.toArray) ∧ Below w.heap.size w w' := by
  go_enter Tryz.func88, Tryz.ntmps88
  go_wp2_with (refine wpList_store_mid rfl 126 (.tmp 0) (.tmp 5) rfl w.heap.size 0 In.pieces.toArray rfl rfl (in_there _ _ _) (by kernel_rfl) (by kernel_rfl) ?_)
  refine bodyPost_ret (pieces_results _ w.heap.size _ (World.rangeAt_setCells_same _ _ _ _ (in_there _ _ _)) rfl) rfl ?_
  exact ⟨rfl, below_cells (Nat.le_refl _) _ _ _ (Below.alloc' (Below.self _) _)⟩

theorem idx_piece (k : Nat) (hk : k < 4) (w : World) : (Instr.index 126 (.agg In.pieces.toArray) (.int .i64 (k : Int))).run Tryz.prog w = .ok (.agg (In.pieces.toArray.extract (k * 2) (k * 2 + 2))) w := by
  have h1 : (0 : Int) ≤ k ∧ (k : Int) < 4 := by omega
  simp [Instr.index, run_underlying Tryz.underlying126, asIntOf, part, h1, go_sem]
  intro h; omega

set_option maxHeartbeats 400000 in
set_option maxRecDepth 100000 in
theorem pieceOf_any (l : List UInt8) (x y : Int) (a b : Nat) (hx : x = a) (hy : y = b) (w : World) (hab : a ≤ b) (hb : b ≤ l.length) (hl : l.length ≤ 9223372036854775807) :
    Calls Tryz.prog 90 #[.agg #[.int .i64 x, .int .i64 y], .string (bs l)] w fun e w' => e = .returned (.string (bs (In.cut l a b))) ∧ Below w.heap.size w w' := by
  subst hx; subst hy
  go_enter Tryz.func90, Tryz.ntmps90
  go_wp2_with fail
  go_ret
  exact ⟨by first | rfl | (unfold In.cut; simp), Below.alloc' (Below.self _) _⟩

theorem In.cut_split {s : List UInt8} {a b c : Nat} (h1 : a ≤ b) (h2 : b ≤ c) : In.cut s a c = In.cut s a b ++ In.cut s b c := by
  unfold In.cut
  rw [show c - a = (b - a) + (c - b) by omega, List.take_add, List.drop_drop, show a + (b - a) = b by omega]

set_option maxHeartbeats 1000000 in
set_option maxRecDepth 100000 in
theorem pieceDigits_any (l : List UInt8) (x y : Int) (a b : Nat) (hx : x = a) (hy : y = b) (w : World) (hab : a ≤ b) (hb : b ≤ l.length) (hev : (b - a) % 2 = 0) (hl : l.length ≤ 9223372036854775807) (hb55 : b ≤ 55) :
    Calls Tryz.prog 135 #[.agg #[.int .i64 x, .int .i64 y], .string (bs l)] w fun e w' => e = .returned (.bool (In.isHex (In.cut l a b))) ∧ Below w.heap.size w w' := by
  subst hx; subst hy
  have hM := Held.made w [.int .i64 a, .int .i64 b] 125
  generalize hW : w.alloc (.cells #[.int .i64 a, .int .i64 b] 125) = W at hM
  have HB : Stow (Below w.heap.size w W) := ⟨by rw [← hW]; exact Below.alloc' (Below.self _) _⟩
  have HM := Stow.mk hM
  have HW := Stow.mk hW
  clear hM hW
  go_enter Tryz.func135, Tryz.ntmps135
  go_wp2_with fail
  rw [HW.out]
  have c0 := HM.out.cell (i := 0) rfl
  have c1 := HM.out.cell (i := 1) rfl
  go_wp2_with fail
  go_loopw [5, 6, 7] (fun v _ _ wr => wr = W ∧ ∃ j : Nat, v = .int .i64 ((a + 2 * j : Nat) : Int) ∧ a + 2 * j ≤ b ∧ Stow (In.isHex (In.cut l a (a + 2 * j)) = true)) (fun v _ _ _ => b - (intOf v).toNat)
  case atStart => exact ⟨rfl, 0, rfl, by omega, ⟨by simp [In.cut, In.isHex]⟩⟩
  case round =>
    obtain ⟨rfl, j, rfl, hj, HJ⟩ := hrel
    obtain ⟨i, hi⟩ : ∃ i, a + 2 * j = i := ⟨_, rfl⟩
    have HI := Stow.mk hi
    rw [hi] at hj HJ
    rw [hi]
    by_cases hlt : i < b
    · have h2 : i + 2 ≤ b := by omega
      have hmin : min (i + 2) b = i + 2 := by omega
      have hmin2 : min ((i : Int) + 2) b = ((i + 2 : Nat) : Int) := by omega
      obtain ⟨p, hp⟩ : ∃ p, In.cut l i (i + 2) = p := ⟨_, rfl⟩
      have HP := Stow.mk hp
      have hpl : p.length = 2 := by rw [← hp, In.cut_len (by omega)]; omega
      obtain ⟨c, hc⟩ : ∃ c, In.isHex p = c := ⟨_, rfl⟩
      have HC := Stow.mk hc
      obtain ⟨n, er, hu⟩ : ∃ n er, In.unhex p = (n, er) := ⟨_, _, rfl⟩
      have hku := octUnhex_any p wr (by omega)
      rw [hu] at hku
      have HK := Stow.mk hku
      have HUN := Stow.mk hu
      have HLP := Stow.mk hpl
      clear hku hu hpl
      have hcut : (l.drop i).take 2 = p := by rw [← hp]; unfold In.cut; rw [show i + 2 - i = 2 by omega]
      clear hp hc hi
      go_wp2_with fail
      refine HK.out.mono ?_
      rintro e w2 ⟨rfl, rfl⟩
      cases c
      · obtain rfl : er = 3 := by
          have := HUN.out
          unfold In.unhex at this
          rw [if_neg (by rw [HC.out]; simp)] at this
          exact (Prod.mk.inj this).2.symm
        have HT : Stow (In.isHex (In.cut l a b) = false) := ⟨by
          rw [In.cut_split (b := i) (by have := HI.out; omega) hj, In.cut_split (a := i) (b := i + 2) (by omega) h2, In.isHex_append, In.isHex_append, HP.out, HC.out]
          simp⟩
        go_wp2_with fail
        go_ret
        exact ⟨by rw [HT.out]; rfl, HB.out⟩
      · obtain rfl : er = 0 := by
          have := HUN.out
          unfold In.unhex at this
          rw [if_pos ⟨by rw [HLP.out]; decide, by rw [HLP.out]; decide, HC.out⟩] at this
          exact (Prod.mk.inj this).2.symm
        have HT : Stow (In.isHex (In.cut l a (i + 2)) = true) := ⟨by
          rw [In.cut_split (b := i) (by have := HI.out; omega) (by omega), In.isHex_append, HP.out, HC.out, HJ.out]
          rfl⟩
        go_wp2_with fail
        have hi := HI.out
        refine ⟨⟨by trivial, j + 1, congrArg (Value.int .i64) (by omega), by omega, ⟨?_⟩⟩, by simp [intOf]; omega⟩
        rw [show a + 2 * (j + 1) = i + 2 by omega]
        exact HT.out
    · obtain rfl : i = b := by omega
      clear hi
      go_wp2_with fail
      go_ret
      exact ⟨by rw [HJ.out]; rfl, HB.out⟩
end Go.Proofs.YtfbhdkkmcfnghaaGreatDoor
