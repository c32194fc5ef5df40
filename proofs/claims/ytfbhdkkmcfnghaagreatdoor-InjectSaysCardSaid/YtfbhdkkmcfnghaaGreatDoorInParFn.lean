/- Walks of parent.formed, Read and Write. Condition: a text no longer than an address space; numbers that fit. -/
import Derived.Test.YtfbhdkkmcfnghaaGreatDoorInPar
namespace Go.Proofs.YtfbhdkkmcfnghaaGreatDoor
open Go.RowKit
set_option linter.unusedVariables false

namespace In
/-- Whether a piece is well formed. -/
def okAt (s : List UInt8) : Nat → Bool
  | 0 => isHex (cut s 0 2)
  | 1 => isHex (cut s 3 35) && at_ s 2 == 45
  | 2 => isHex (cut s 36 52) && at_ s 35 == 45
  | _ => isHex (cut s 53 55) && at_ s 52 == 45
def okUp (s : List UInt8) : Nat → Bool
  | 0 => true
  | n + 1 => okUp s n && okAt s n
theorem formed_short {s : List UInt8} (h : s.length < 55) : formed s = false := by
  unfold formed
  rw [show decide (55 ≤ s.length) = false by simp; omega]
  simp
def tail_ (s : List UInt8) : Bool := if s.take 2 = [102, 102] then false else if s.take 2 = [48, 48] then s.length == 55 else s.length == 55 || at_ s 55 == 45
theorem formed_long {s : List UInt8} (h : ¬ s.length < 55) : formed s = (okUp s 4 && tail_ s) := by
  unfold formed
  rw [show decide (55 ≤ s.length) = true by simp; omega]
  simp [okUp, okAt, tail_]
theorem okUp_false {s : List UInt8} {i : Nat} (h : okAt s i = false) (hi : i < 4) : okUp s 4 = false := by
  have : i = 0 ∨ i = 1 ∨ i = 2 ∨ i = 3 := by omega
  rcases this with rfl | rfl | rfl | rfl <;> simp [okUp, h]
theorem at_get {s : List UInt8} {i : Nat} (h : i < s.length) : at_ s i = s[i] := by unfold at_; simp [h]
end In


set_option maxHeartbeats 4000000 in
set_option maxRecDepth 100000 in
theorem parFormed_any (s : List UInt8) (w : World) (hl : s.length ≤ 9223372036854775807) :
    Calls Tryz.prog 87 #[.string (bs s)] w fun e w' => e = .returned (.bool (In.formed s)) ∧ Below w.heap.size w w' := by
  by_cases h55 : s.length < 55
  · have HF := Stow.mk (In.formed_short h55)
    go_enter Tryz.func87, Tryz.ntmps87
    go_wp2_with fail
    go_ret
    exact ⟨by rw [HF.out]; rfl, Below.self _⟩
  have HFL := Stow.mk (In.formed_long h55)
  go_enter Tryz.func87, Tryz.ntmps87
  go_wp2_with fail
  refine (parPieces_any _).mono ?_
  rintro e w1 ⟨rfl, hb1⟩
  have HB1 := Stow.mk hb1
  clear hb1
  generalize hpp : In.pieces.toArray = PP
  have HPP := Stow.mk hpp
  clear hpp
  go_wp2_with fail
  go_loopw [3, 4, 9] (fun _ _ v wr => ∃ i : Nat, v = .int .i64 i ∧ i ≤ 4 ∧ Stow (In.okUp s i = true) ∧ Below w.heap.size w wr) (fun _ _ v _ => 4 - (intOf v).toNat)
  case atStart => exact ⟨0, rfl, by omega, ⟨rfl⟩, HB1.out⟩
  case round =>
    obtain ⟨i, rfl, hi, HOK, hbr⟩ := hrel
    by_cases h4 : i = 4
    · subst h4
      obtain ⟨z, hz⟩ : ∃ z, In.tail_ s = z := ⟨_, rfl⟩
      have HZ := Stow.mk hz
      have HF : Stow (In.formed s = z) := ⟨by rw [HFL.out, HOK.out, hz]; rfl⟩
      clear hz
      have hl2 : (2 : Int) ≤ s.length := by omega
      obtain ⟨t, ht⟩ : ∃ t, s.take 2 = t := ⟨_, rfl⟩
      have HT := Stow.mk ht
      obtain ⟨x, hx⟩ : ∃ x, (t == [102, 102]) = x := ⟨_, rfl⟩
      obtain ⟨y, hy⟩ : ∃ y, (t == [48, 48]) = y := ⟨_, rfl⟩
      have HX := Stow.mk hx
      have HY := Stow.mk hy
      cases x
      · cases y
        · by_cases hs55 : s.length = 55
          · obtain rfl : z = true := by rw [← HZ.out]; unfold In.tail_; rw [HT.out, if_neg (by simpa using hx), if_neg (by simpa using hy), hs55]; rfl
            go_wp2_with fail
            go_ret
            exact ⟨by rw [HF.out]; rfl, hbr⟩
          · have hat := In.at_get (s := s) (i := 55) (by omega)
            obtain ⟨d, hd⟩ : ∃ d, s[55] = d := ⟨_, rfl⟩
            rw [hd] at hat
            obtain rfl : z = (d == 45) := by rw [← HZ.out]; unfold In.tail_; rw [HT.out, if_neg (by simpa using hx), if_neg (by simpa using hy), hat]; simp [hs55]
            have hin : (0 : Int) ≤ 55 ∧ (55 : Int) < s.length := ⟨by omega, by omega⟩
            have KEY : Stow ((((s.length : Int) == 55) || ((s[55].toNat : Int) == 45)) = (d == 45)) := ⟨by
              rw [hd]
              have : ((s.length : Int) == 55) = false := by rw [beq_eq_false_iff_ne]; omega
              rw [this, Bool.false_or, Bool.eq_iff_iff, beq_iff_eq, beq_iff_eq]
              constructor
              · intro h; exact UInt8.toNat_inj.1 (by show d.toNat = 45; omega)
              · intro h; subst h; rfl⟩
            clear hat
            go_wp2_with fail
            go_ret
            exact ⟨by rw [HF.out]; first | rfl | exact congrArg (fun b => Ending.returned (.bool b)) KEY.out, hbr⟩
        · obtain rfl : z = (s.length == 55) := by rw [← HZ.out]; unfold In.tail_; rw [HT.out, if_neg (by simpa using hx), if_pos (by simpa using hy)]
          have KEY : Stow (((s.length : Int) == 55) = (s.length == 55)) := ⟨by rw [Bool.eq_iff_iff, beq_iff_eq, beq_iff_eq]; omega⟩
          go_wp2_with fail
          go_ret
          exact ⟨by rw [HF.out]; first | rfl | exact congrArg (fun b => Ending.returned (.bool b)) KEY.out, hbr⟩
      · obtain rfl : z = false := by rw [← HZ.out]; unfold In.tail_; rw [HT.out, if_pos (by simpa using hx)]
        go_wp2_with fail
        go_ret
        exact ⟨by rw [HF.out]; rfl, hbr⟩
    have : i = 0 ∨ i = 1 ∨ i = 2 ∨ i = 3 := by omega
    rw [← HPP.out]
    rcases this with rfl | rfl | rfl | rfl
    · have hix : ∀ w : World, (Instr.index 126 (.agg In.pieces.toArray) (.int .i64 0)).run Tryz.prog w = .ok (.agg #[.int .i64 0, .int .i64 2]) w := fun w => idx_piece 0 (by decide) w
      obtain ⟨c, hc⟩ : ∃ c, In.isHex (In.cut s 0 2) = c := ⟨_, rfl⟩
      have HC := Stow.mk hc
      have hM := Held.made wr [.int .i64 0, .int .i64 2] 125
      have HM : Stow (∀ W, Below (wr.alloc (.cells #[.int .i64 0, .int .i64 2] 125)).heap.size (wr.alloc (.cells #[.int .i64 0, .int .i64 2] 125)) W → Held W wr.heap.size [.int .i64 0, .int .i64 2] ∧ Below wr.heap.size wr W) := ⟨fun W hb => ⟨hM.kept hb, Below.call (Below.alloc' (Below.self _) _) hb⟩⟩
      have HBR := Stow.mk hbr
      clear hc hM hbr
      go_wp2_with fail
      refine (pieceDigits_any s 0 2 0 2 rfl rfl _ (by omega) (by omega) (by omega) hl (by omega)).mono ?_
      rw [HC.out]
      rintro e w2 ⟨rfl, hb2⟩
      obtain ⟨hH, hB⟩ := HM.out w2 (Below.call (Below.self _) hb2)
      have HB2 : Stow (Below w.heap.size w w2) := ⟨HBR.out.trans (hB.mono HBR.out.size)⟩
      have q0 := hH.cell (i := 0) rfl
      have q1 := hH.cell (i := 1) rfl
      clear hH hB hb2
      cases c
      · have HF : Stow (In.formed s = false) := ⟨by rw [HFL.out, In.okUp_false (i := 0) (by simp [In.okAt, HC.out]) (by omega)]; rfl⟩
        go_wp2_with fail
        go_ret
        exact ⟨by rw [HF.out]; rfl, HB2.out⟩
      · go_wp2_with fail
        exact ⟨⟨1, rfl, by omega, ⟨by simp [In.okUp, In.okAt, HC.out]⟩, HB2.out⟩, by simp [intOf]⟩
    · have hix : ∀ w : World, (Instr.index 126 (.agg In.pieces.toArray) (.int .i64 1)).run Tryz.prog w = .ok (.agg #[.int .i64 3, .int .i64 35]) w := fun w => idx_piece 1 (by decide) w
      obtain ⟨c, hc⟩ : ∃ c, In.isHex (In.cut s 3 35) = c := ⟨_, rfl⟩
      have HC := Stow.mk hc
      have hM := Held.made wr [.int .i64 3, .int .i64 35] 125
      have HM : Stow (∀ W, Below (wr.alloc (.cells #[.int .i64 3, .int .i64 35] 125)).heap.size (wr.alloc (.cells #[.int .i64 3, .int .i64 35] 125)) W → Held W wr.heap.size [.int .i64 3, .int .i64 35] ∧ Below wr.heap.size wr W) := ⟨fun W hb => ⟨hM.kept hb, Below.call (Below.alloc' (Below.self _) _) hb⟩⟩
      have HBR := Stow.mk hbr
      clear hc hM hbr
      go_wp2_with fail
      refine (pieceDigits_any s 3 35 3 35 rfl rfl _ (by omega) (by omega) (by omega) hl (by omega)).mono ?_
      rw [HC.out]
      rintro e w2 ⟨rfl, hb2⟩
      obtain ⟨hH, hB⟩ := HM.out w2 (Below.call (Below.self _) hb2)
      have HB2 : Stow (Below w.heap.size w w2) := ⟨HBR.out.trans (hB.mono HBR.out.size)⟩
      have q0 := hH.cell (i := 0) rfl
      have q1 := hH.cell (i := 1) rfl
      clear hH hB hb2
      cases c
      · have HF : Stow (In.formed s = false) := ⟨by rw [HFL.out, In.okUp_false (i := 1) (by simp [In.okAt, HC.out]) (by omega)]; rfl⟩
        go_wp2_with fail
        go_ret
        exact ⟨by rw [HF.out]; rfl, HB2.out⟩
      have hat := In.at_get (s := s) (i := 2) (by omega)
      obtain ⟨d, hd⟩ : ∃ d, s[2] = d := ⟨_, rfl⟩
      rw [hd] at hat
      have HAT := Stow.mk hat
      have hin : (0 : Int) ≤ 2 ∧ (2 : Int) < s.length := ⟨by omega, by omega⟩
      clear hat
      by_cases h45 : d = 45
      · subst h45
        have hdf : (((s[2]).toNat : Int) != 45) = false := by rw [hd]; decide
        go_wp2_with fail
        exact ⟨⟨1 + 1, rfl, by omega, ⟨by rw [show In.okUp s (1 + 1) = (In.okUp s 1 && In.okAt s 1) from rfl, HOK.out]; simp [In.okAt, HC.out, HAT.out]⟩, HB2.out⟩, by simp [intOf]⟩
      · have HF : Stow (In.formed s = false) := ⟨by rw [HFL.out, In.okUp_false (i := 1) (by simp [In.okAt, HAT.out, h45]) (by omega)]; rfl⟩
        have hdn : d.toNat ≠ 45 := fun h => h45 (UInt8.toNat_inj.1 h)
        have hdf : (((s[2]).toNat : Int) != 45) = true := by rw [hd, bne_iff_ne]; omega
        go_wp2_with fail
        go_ret
        exact ⟨by rw [HF.out]; rfl, HB2.out⟩
    · have hix : ∀ w : World, (Instr.index 126 (.agg In.pieces.toArray) (.int .i64 2)).run Tryz.prog w = .ok (.agg #[.int .i64 36, .int .i64 52]) w := fun w => idx_piece 2 (by decide) w
      obtain ⟨c, hc⟩ : ∃ c, In.isHex (In.cut s 36 52) = c := ⟨_, rfl⟩
      have HC := Stow.mk hc
      have hM := Held.made wr [.int .i64 36, .int .i64 52] 125
      have HM : Stow (∀ W, Below (wr.alloc (.cells #[.int .i64 36, .int .i64 52] 125)).heap.size (wr.alloc (.cells #[.int .i64 36, .int .i64 52] 125)) W → Held W wr.heap.size [.int .i64 36, .int .i64 52] ∧ Below wr.heap.size wr W) := ⟨fun W hb => ⟨hM.kept hb, Below.call (Below.alloc' (Below.self _) _) hb⟩⟩
      have HBR := Stow.mk hbr
      clear hc hM hbr
      go_wp2_with fail
      refine (pieceDigits_any s 36 52 36 52 rfl rfl _ (by omega) (by omega) (by omega) hl (by omega)).mono ?_
      rw [HC.out]
      rintro e w2 ⟨rfl, hb2⟩
      obtain ⟨hH, hB⟩ := HM.out w2 (Below.call (Below.self _) hb2)
      have HB2 : Stow (Below w.heap.size w w2) := ⟨HBR.out.trans (hB.mono HBR.out.size)⟩
      have q0 := hH.cell (i := 0) rfl
      have q1 := hH.cell (i := 1) rfl
      clear hH hB hb2
      cases c
      · have HF : Stow (In.formed s = false) := ⟨by rw [HFL.out, In.okUp_false (i := 2) (by simp [In.okAt, HC.out]) (by omega)]; rfl⟩
        go_wp2_with fail
        go_ret
        exact ⟨by rw [HF.out]; rfl, HB2.out⟩
      have hat := In.at_get (s := s) (i := 35) (by omega)
      obtain ⟨d, hd⟩ : ∃ d, s[35] = d := ⟨_, rfl⟩
      rw [hd] at hat
      have HAT := Stow.mk hat
      have hin : (0 : Int) ≤ 35 ∧ (35 : Int) < s.length := ⟨by omega, by omega⟩
      clear hat
      by_cases h45 : d = 45
      · subst h45
        have hdf : (((s[35]).toNat : Int) != 45) = false := by rw [hd]; decide
        go_wp2_with fail
        exact ⟨⟨2 + 1, rfl, by omega, ⟨by rw [show In.okUp s (2 + 1) = (In.okUp s 2 && In.okAt s 2) from rfl, HOK.out]; simp [In.okAt, HC.out, HAT.out]⟩, HB2.out⟩, by simp [intOf]⟩
      · have HF : Stow (In.formed s = false) := ⟨by rw [HFL.out, In.okUp_false (i := 2) (by simp [In.okAt, HAT.out, h45]) (by omega)]; rfl⟩
        have hdn : d.toNat ≠ 45 := fun h => h45 (UInt8.toNat_inj.1 h)
        have hdf : (((s[35]).toNat : Int) != 45) = true := by rw [hd, bne_iff_ne]; omega
        go_wp2_with fail
        go_ret
        exact ⟨by rw [HF.out]; rfl, HB2.out⟩
    · have hix : ∀ w : World, (Instr.index 126 (.agg In.pieces.toArray) (.int .i64 3)).run Tryz.prog w = .ok (.agg #[.int .i64 53, .int .i64 55]) w := fun w => idx_piece 3 (by decide) w
      obtain ⟨c, hc⟩ : ∃ c, In.isHex (In.cut s 53 55) = c := ⟨_, rfl⟩
      have HC := Stow.mk hc
      have hM := Held.made wr [.int .i64 53, .int .i64 55] 125
      have HM : Stow (∀ W, Below (wr.alloc (.cells #[.int .i64 53, .int .i64 55] 125)).heap.size (wr.alloc (.cells #[.int .i64 53, .int .i64 55] 125)) W → Held W wr.heap.size [.int .i64 53, .int .i64 55] ∧ Below wr.heap.size wr W) := ⟨fun W hb => ⟨hM.kept hb, Below.call (Below.alloc' (Below.self _) _) hb⟩⟩
      have HBR := Stow.mk hbr
      clear hc hM hbr
      go_wp2_with fail
      refine (pieceDigits_any s 53 55 53 55 rfl rfl _ (by omega) (by omega) (by omega) hl (by omega)).mono ?_
      rw [HC.out]
      rintro e w2 ⟨rfl, hb2⟩
      obtain ⟨hH, hB⟩ := HM.out w2 (Below.call (Below.self _) hb2)
      have HB2 : Stow (Below w.heap.size w w2) := ⟨HBR.out.trans (hB.mono HBR.out.size)⟩
      have q0 := hH.cell (i := 0) rfl
      have q1 := hH.cell (i := 1) rfl
      clear hH hB hb2
      cases c
      · have HF : Stow (In.formed s = false) := ⟨by rw [HFL.out, In.okUp_false (i := 3) (by simp [In.okAt, HC.out]) (by omega)]; rfl⟩
        go_wp2_with fail
        go_ret
        exact ⟨by rw [HF.out]; rfl, HB2.out⟩
      have hat := In.at_get (s := s) (i := 52) (by omega)
      obtain ⟨d, hd⟩ : ∃ d, s[52] = d := ⟨_, rfl⟩
      rw [hd] at hat
      have HAT := Stow.mk hat
      have hin : (0 : Int) ≤ 52 ∧ (52 : Int) < s.length := ⟨by omega, by omega⟩
      clear hat
      by_cases h45 : d = 45
      · subst h45
        have hdf : (((s[52]).toNat : Int) != 45) = false := by rw [hd]; decide
        go_wp2_with fail
        exact ⟨⟨3 + 1, rfl, by omega, ⟨by rw [show In.okUp s (3 + 1) = (In.okUp s 3 && In.okAt s 3) from rfl, HOK.out]; simp [In.okAt, HC.out, HAT.out]⟩, HB2.out⟩, by simp [intOf]⟩
      · have HF : Stow (In.formed s = false) := ⟨by rw [HFL.out, In.okUp_false (i := 3) (by simp [In.okAt, HAT.out, h45]) (by omega)]; rfl⟩
        have hdn : d.toNat ≠ 45 := fun h => h45 (UInt8.toNat_inj.1 h)
        have hdf : (((s[52]).toNat : Int) != 45) = true := by rw [hd, bne_iff_ne]; omega
        go_wp2_with fail
        go_ret
        exact ⟨by rw [HF.out]; rfl, HB2.out⟩

set_option maxHeartbeats 1000000 in
set_option maxRecDepth 100000 in
theorem parWrite_any (p : Pr) (w : World) (hf : In.Pr.fits p) :
    Calls Tryz.prog 33 #[.agg #[.int .u64 p.hi, .int .u64 p.lo, .int .u64 p.sp, .int .i64 p.fl]] w fun e w' => e = .returned (.tuple #[.string (bs (In.prWrite p)), .int .i64 (In.prErr p : Nat)]) ∧ Below w.heap.size w w' := by
  obtain ⟨hi, lo, sp, fl⟩ := p
  obtain ⟨h1, h2, h3⟩ := hf
  simp only at h1 h2 h3 ⊢
  have hM := Held.made w [.int .u64 hi, .int .u64 lo, .int .u64 sp, .int .i64 fl] 27
  have HM : Stow (∀ W, Below (w.alloc (.cells #[.int .u64 hi, .int .u64 lo, .int .u64 sp, .int .i64 fl] 27)).heap.size (w.alloc (.cells #[.int .u64 hi, .int .u64 lo, .int .u64 sp, .int .i64 fl] 27)) W → Held W w.heap.size [.int .u64 hi, .int .u64 lo, .int .u64 sp, .int .i64 fl] ∧ Below w.heap.size w W) := ⟨fun W hb => ⟨hM.kept hb, Below.call (Below.alloc' (Below.self _) _) hb⟩⟩
  clear hM
  obtain ⟨er, her⟩ : ∃ er, In.prErr ⟨hi, lo, sp, fl⟩ = er := ⟨_, rfl⟩
  obtain ⟨tx, htx⟩ : ∃ tx, In.prWrite ⟨hi, lo, sp, fl⟩ = tx := ⟨_, rfl⟩
  rw [her, htx]
  have HE := Stow.mk her
  have HT := Stow.mk htx
  obtain ⟨z, hz⟩ : ∃ z, decide (hi = 0 ∧ lo = 0) = z := ⟨_, rfl⟩
  have HZ := Stow.mk hz
  clear her htx hz
  go_enter Tryz.func33, Tryz.ntmps33
  go_wp2_with fail
  refine (idsZero_any hi lo _ h1 h2).mono ?_
  rw [HZ.out]
  rintro e w1 ⟨rfl, hb1⟩
  obtain ⟨hH, hB⟩ := HM.out w1 hb1
  have HH := Stow.mk hH
  have HB := Stow.mk hB
  have q0 := hH.cell (i := 0) rfl
  have q1 := hH.cell (i := 1) rfl
  have q2 := hH.cell (i := 2) rfl
  have q3 := hH.cell (i := 3) rfl
  clear hH hB hb1
  have bad : ∀ n : Nat, n ≠ 0 → In.prErr ⟨hi, lo, sp, fl⟩ = n → er = n ∧ tx = [] := fun n hn h => by
    have := HE.out
    refine ⟨by rw [← HE.out, h], ?_⟩
    rw [← HT.out]; unfold In.prWrite; rw [h, if_neg hn]
  have BAD := Stow.mk bad
  clear bad
  cases z
  rotate_left
  · obtain ⟨rfl, rfl⟩ := BAD.out 11 (by omega) (by unfold In.prErr; rw [if_pos (.inl (of_decide_eq_true HZ.out))])
    go_wp2_with fail
    go_ret2
    exact ⟨rfl, HB.out⟩
  by_cases hs0 : sp = 0
  · obtain ⟨rfl, rfl⟩ := BAD.out 11 (by omega) (by unfold In.prErr; rw [if_pos (.inr hs0)])
    subst hs0
    go_wp2_with fail
    go_ret2
    exact ⟨rfl, HB.out⟩
  have hsp : ((sp : Int) == 0) = false := by rw [beq_eq_false_iff_ne]; omega
  have HN : Stow (¬ ((hi = 0 ∧ lo = 0) ∨ sp = 0)) := ⟨fun h => h.elim (of_decide_eq_false HZ.out) hs0⟩
  by_cases hf0 : fl < 0
  · obtain ⟨rfl, rfl⟩ := BAD.out 12 (by omega) (by unfold In.prErr; rw [if_neg HN.out, if_pos (.inl hf0)])
    go_wp2_with fail
    go_ret2
    exact ⟨rfl, HB.out⟩
  by_cases hf255 : 255 < fl
  · obtain ⟨rfl, rfl⟩ := BAD.out 12 (by omega) (by unfold In.prErr; rw [if_neg HN.out, if_pos (.inr hf255)])
    go_wp2_with fail
    go_ret2
    exact ⟨rfl, HB.out⟩
  have h0 : In.prErr ⟨hi, lo, sp, fl⟩ = 0 := by unfold In.prErr; rw [if_neg HN.out, if_neg (by simp only; omega)]
  obtain rfl : er = 0 := by rw [← HE.out, h0]
  have htx : tx = In.prText ⟨hi, lo, sp, fl⟩ := by rw [← HT.out]; unfold In.prWrite; rw [if_pos h0]
  obtain ⟨f, rfl⟩ := Int.eq_ofNat_of_zero_le (show 0 ≤ fl by omega)
  unfold In.prText at htx
  simp only [Int.toNat_natCast] at htx
  have hl1 := In.hex_len 16 hi
  have hl2 := In.hex_len 16 lo
  have hl3 := In.hex_len 16 sp
  have hl4 := In.hex_len 2 f
  have K1 := fun W => idsText_any hi lo W h1 h2
  have K2 := fun W => idsSpanText_any _ sp rfl W h3
  have K3 := fun W => octHex_any 2 _ _ f rfl rfl W (by omega) (.inr ⟨rfl, by omega⟩)
  generalize In.hex 16 hi = X1 at *
  generalize In.hex 16 lo = X2 at *
  generalize In.hex 16 sp = X3 at *
  generalize In.hex 2 f = X4 at *
  have HTX := Stow.mk htx
  have HK1 := Stow.mk K1
  have HK2 := Stow.mk K2
  have HK3 := Stow.mk K3
  have hf2 : (f : Int) % 18446744073709551616 = f := by omega
  clear K1 K2 K3 htx h0 BAD
  go_wp2_with fail
  refine (HK3.out _).mono ?_
  rintro e W ⟨rfl, hb2⟩
  have hHW := HH.out.kept hb2
  have HBW : Stow (Below w.heap.size w W) := ⟨HB.out.trans (hb2.mono HB.out.size)⟩
  have ltX := hHW.lt
  clear q0 q1 q2 q3 hb2
  go_wp2_with fail
  have a0 : ∀ x : Later W.heap.size W, x.1.cell? ⟨w.heap.size, 0, none⟩ = _ := fun x => x.cell (hHW.cell (i := 0) rfl) ltX
  have a1 : ∀ x : Later W.heap.size W, x.1.cell? ⟨w.heap.size, 1, none⟩ = _ := fun x => x.cell (hHW.cell (i := 1) rfl) ltX
  have a2 : ∀ x : Later W.heap.size W, x.1.cell? ⟨w.heap.size, 2, none⟩ = _ := fun x => x.cell (hHW.cell (i := 2) rfl) ltX
  clear hHW
  refine wp_region_later W.heap.size (by kernel_rfl) (by kernel_rfl) ?_
  go_big_quiet_step (fail)
  go_big_quiet_step (fail)
  go_big_quiet_step (exact Calls.later (Nat.le_refl _) (HK1.out _))
  go_big_quiet_step (fail)
  go_big_quiet_step (fail)
  go_big_quiet_step (fail)
  go_big_quiet_step (fail)
  go_big_quiet_step (exact Calls.later (Nat.le_refl _) (HK2.out _))
  repeat (go_big_quiet_step (fail))
  refine wpQuiet_nil ?_
  rintro ⟨wx, hbx⟩
  clear a0 a1 a2
  go_wp2_with fail
  go_ret2
  refine ⟨?_, HBW.out.trans (hbx.mono HBW.out.size)⟩
  rw [HTX.out]
  rfl

theorem In.isHex_formed {s : List UInt8} (h : In.formed s = true) : 55 ≤ s.length ∧ In.isHex (In.cut s 3 35) = true ∧ In.isHex (In.cut s 36 52) = true ∧ In.isHex (In.cut s 53 55) = true := by
  have hl : ¬ s.length < 55 := by
    intro hl
    rw [In.formed_short hl] at h
    cases h
  rw [In.formed_long hl] at h
  simp only [In.okUp, In.okAt, Bool.and_eq_true, Bool.true_and] at h
  exact ⟨by omega, h.1.1.1.2.1, h.1.1.2.1, h.1.2.1⟩
theorem parRead_results (W : World) (g : Nat) (a b c d : Value) (n : Int) (tmps : Array Value) (hH : Held W g [a, b, c, d]) (h2 : tmps[2]?.getD undef = .pointer (some ⟨g, 0, none⟩)) (h3 : tmps[3]?.getD undef = .int .i64 n) :
    (results Tryz.f44 tmps).run Tryz.prog W = .ok (.tuple #[.agg #[a, b, c, d], .int .i64 n]) W := by
  have c0 := hH.cell (i := 0) rfl
  have c1 := hH.cell (i := 1) rfl
  have c2 := hH.cell (i := 2) rfl
  have c3 := hH.cell (i := 3) rfl
  simp [results, Tryz.results44, go_sem, h2, h3, c0, c1, c2, c3]
theorem below_set4 {w W : World} {g : Nat} (h : Below w.heap.size w W) (hg : w.heap.size ≤ g) (a b c d : Value) : Below w.heap.size w ((((W.setCell ⟨g, 0, none⟩ a).setCell ⟨g, 1, none⟩ b).setCell ⟨g, 2, none⟩ c).setCell ⟨g, 3, none⟩ d) :=
  (((h.setCell (p := ⟨g, 0, none⟩) hg _).setCell (p := ⟨g, 1, none⟩) hg _).setCell (p := ⟨g, 2, none⟩) hg _).setCell (p := ⟨g, 3, none⟩) hg _
def Pr.val (p : Pr) : Value := .agg #[.int .u64 p.hi, .int .u64 p.lo, .int .u64 p.sp, .int .i64 p.fl]


set_option maxHeartbeats 2000000 in
set_option maxRecDepth 100000 in
theorem parRead_any (s : List UInt8) (w : World) (hl : s.length ≤ 9223372036854775807) :
    Calls Tryz.prog 44 #[.string (bs s)] w fun e w' => e = .returned (.tuple #[(In.prRead s).1.val, .int .i64 ((In.prRead s).2 : Nat)]) ∧ Below w.heap.size w w' := by
  have hM := Held.made w [.int .u64 0, .int .u64 0, .int .u64 0, .int .i64 0] 27
  have HM : Stow (∀ W, Below (w.alloc (.cells #[.int .u64 0, .int .u64 0, .int .u64 0, .int .i64 0] 27)).heap.size (w.alloc (.cells #[.int .u64 0, .int .u64 0, .int .u64 0, .int .i64 0] 27)) W → Held W w.heap.size [.int .u64 0, .int .u64 0, .int .u64 0, .int .i64 0] ∧ Below w.heap.size w W) := ⟨fun W hb => ⟨hM.kept hb, Below.call (Below.alloc' (Below.self _) _) hb⟩⟩
  clear hM
  obtain ⟨z, hz⟩ : ∃ z, In.formed s = z := ⟨_, rfl⟩
  have HZ := Stow.mk hz
  clear hz
  obtain ⟨q, er, hq⟩ : ∃ q er, In.prRead s = (q, er) := ⟨_, _, rfl⟩
  rw [hq]
  have HQ := Stow.mk hq
  clear hq
  simp only
  cases z
  · obtain ⟨rfl, rfl⟩ : q = In.zero ∧ er = 3 := by
      have := HQ.out
      unfold In.prRead at this
      rw [if_neg (by rw [HZ.out]; simp)] at this
      exact ⟨(Prod.mk.inj this).1.symm, (Prod.mk.inj this).2.symm⟩
    unfold Pr.val In.zero
    go_enter Tryz.func44, Tryz.ntmps44
    go_wp2_with fail
    refine (parFormed_any s _ hl).mono ?_
    rw [HZ.out]
    rintro e w1 ⟨rfl, hb1⟩
    obtain ⟨hH, hB⟩ := HM.out w1 hb1
    have HH := Stow.mk hH
    have HB := Stow.mk hB
    have r0 := Held.cell hH (i := 0) rfl
    have r1 := Held.cell hH (i := 1) rfl
    have r2 := Held.cell hH (i := 2) rfl
    have r3 := Held.cell hH (i := 3) rfl
    have f0 := Held.free hH 0
    have f1 := Held.free hH 1
    have f2 := Held.free hH 2
    have f3 := Held.free hH 3
    have hlt := Held.lt hH
    clear hb1 hH hB
    go_wp2_with fail
    refine bodyPost_ret (parRead_results _ w.heap.size (.int .u64 0) (.int .u64 0) (.int .u64 0) (.int .i64 0) 3 _ ((((HH.out.set 0 _).set 1 _).set 2 _).set 3 _) rfl rfl) rfl ?_
    exact ⟨rfl, below_set4 HB.out (Nat.le_refl _) _ _ _ _⟩
  · obtain ⟨hs55, hx1, hx2, hx3⟩ := In.isHex_formed HZ.out
    have hl32 : (In.cut s 3 35).length = 32 := In.cut_len (by omega)
    have hl16 : (In.cut s 36 52).length = 16 := In.cut_len (by omega)
    have hl2 : (In.cut s 53 55).length = 2 := In.cut_len (by omega)
    have e1 : (In.cut s 3 35).take 16 = In.cut s 3 19 := by unfold In.cut; rw [List.take_take]; rfl
    have e2 : (In.cut s 3 35).drop 16 = In.cut s 19 35 := by unfold In.cut; rw [List.drop_take, List.drop_drop]
    have KO := fun W => idsOf_any (In.cut s 3 35) W hl32 hx1
    have KS := fun W => idsSpanOf_any (In.cut s 36 52) W hl16 hx2
    have KU := fun W => octUnhex_any (In.cut s 53 55) W (by omega)
    have hu : In.unhex (In.cut s 53 55) = (In.num (In.cut s 53 55), 0) := by unfold In.unhex; rw [if_pos ⟨by omega, by omega, hx3⟩]
    unfold In.ofErr at KO
    rw [e1, e2] at KO
    rw [hu] at KU
    have h6 := In.num_lt _ hx3
    rw [hl2] at h6
    have hq := HQ.out
    unfold In.prRead In.prOf at hq
    rw [if_pos HZ.out] at hq
    simp only at hq
    have K0 := fun W => pieceOf_any s 3 35 3 35 rfl rfl W (by omega) (by omega) hl
    have K1 := fun W => pieceOf_any s 36 52 36 52 rfl rfl W (by omega) (by omega) hl
    have K2 := fun W => pieceOf_any s 53 55 53 55 rfl rfl W (by omega) (by omega) hl
    generalize In.num (In.cut s 3 19) = n1 at *
    generalize In.num (In.cut s 19 35) = n2 at *
    generalize In.num (In.cut s 36 52) = n3 at *
    generalize In.num (In.cut s 53 55) = n4 at *
    generalize In.cut s 3 35 = t1 at *
    generalize In.cut s 36 52 = t2 at *
    generalize In.cut s 53 55 = t3 at *
    obtain ⟨c1, hc1⟩ : ∃ c : Nat, (if n1 = 0 ∧ n2 = 0 then 11 else 0) = c := ⟨_, rfl⟩
    obtain ⟨c2, hc2⟩ : ∃ c : Int, (if n3 = 0 then 11 else 0) = c := ⟨_, rfl⟩
    rw [hc1] at KO
    rw [hc2] at KS
    have HKO := Stow.mk KO
    have HKS := Stow.mk KS
    have HKU := Stow.mk KU
    have HK0 := Stow.mk K0
    have HK1 := Stow.mk K1
    have HK2 := Stow.mk K2
    have HC1 := Stow.mk hc1
    have HC2 := Stow.mk hc2
    have HQQ := Stow.mk hq
    clear KO KS KU K0 K1 K2 hc1 hc2 hq hu e1 e2 hx1 hx2 hx3
    unfold Pr.val
    go_enter Tryz.func44, Tryz.ntmps44
    go_wp2_with fail
    refine (parFormed_any s _ hl).mono ?_
    rw [HZ.out]
    rintro e w1 ⟨rfl, hb1⟩
    obtain ⟨hH, hB⟩ := HM.out w1 hb1
    have HH := Stow.mk hH
    have HB := Stow.mk hB
    clear hb1 hH hB
    go_wp2_with fail
    refine (parPieces_any _).mono ?_
    rintro e w2 ⟨rfl, hb2⟩
    have HH2 := Stow.mk (HH.out.kept hb2)
    have HB2 : Stow (Below w.heap.size w w2) := ⟨HB.out.trans (hb2.mono HB.out.size)⟩
    clear hb2
    unfold In.pieces
    have hPM := Held.made w2 [.int .i64 0, .int .i64 2, .int .i64 3, .int .i64 35, .int .i64 36, .int .i64 52, .int .i64 53, .int .i64 55] 126
    have HPM : Stow (∀ W, Below (w2.alloc (.cells #[.int .i64 0, .int .i64 2, .int .i64 3, .int .i64 35, .int .i64 36, .int .i64 52, .int .i64 53, .int .i64 55] 126)).heap.size (w2.alloc (.cells #[.int .i64 0, .int .i64 2, .int .i64 3, .int .i64 35, .int .i64 36, .int .i64 52, .int .i64 53, .int .i64 55] 126)) W → Held W w2.heap.size [.int .i64 0, .int .i64 2, .int .i64 3, .int .i64 35, .int .i64 36, .int .i64 52, .int .i64 53, .int .i64 55] ∧ Below w2.heap.size w2 W) := ⟨fun W hb => ⟨hPM.kept hb, Below.call (Below.alloc' (Below.self _) _) hb⟩⟩
    clear hPM
    go_wp2_with fail
    refine (HK0.out _).mono ?_
    rintro e w3 ⟨rfl, hb3⟩
    obtain ⟨hP3, hB3⟩ := HPM.out w3 hb3
    have HH3 := Stow.mk (HH2.out.kept hB3)
    have HB3 : Stow (Below w.heap.size w w3) := ⟨HB2.out.trans (hB3.mono HB2.out.size)⟩
    clear hb3 hB3
    go_wp2_with fail
    refine (HKO.out _).mono ?_
    rintro e w4 ⟨rfl, hb4⟩
    have hP4 := hP3.kept hb4
    have HP4 := Stow.mk hP4
    have HH4 := Stow.mk (HH3.out.kept hb4)
    have HB4 : Stow (Below w.heap.size w w4) := ⟨HB3.out.trans (hb4.mono HB3.out.size)⟩
    have p4 := hP4.cell (i := 4) rfl
    have p5 := hP4.cell (i := 5) rfl
    have hlt4 := hP4.lt
    have hne4 : (w4.heap.size == w2.heap.size) = false := by simp; omega
    have hTM := Held.made w4 [.int .u64 n1, .int .u64 n2] 25
    have HTM : Stow (∀ W, Below (w4.alloc (.cells #[.int .u64 n1, .int .u64 n2] 25)).heap.size (w4.alloc (.cells #[.int .u64 n1, .int .u64 n2] 25)) W → Held W w4.heap.size [.int .u64 n1, .int .u64 n2] ∧ Below w4.heap.size w4 W) := ⟨fun W hb => ⟨hTM.kept hb, Below.call (Below.alloc' (Below.self _) _) hb⟩⟩
    clear hb4 hP3 hP4 hTM
    go_wp2_with fail
    refine (HK1.out _).mono ?_
    rintro e w5 ⟨rfl, hb5⟩
    obtain ⟨hT5, hB5⟩ := HTM.out w5 hb5
    have HT5 := Stow.mk hT5
    have HP5 := Stow.mk (HP4.out.kept hB5)
    have HH5 := Stow.mk (HH4.out.kept hB5)
    have HB5 : Stow (Below w.heap.size w w5) := ⟨HB4.out.trans (hB5.mono HB4.out.size)⟩
    clear hb5 hB5 hT5 p4 p5 hne4 hlt4
    go_wp2_with fail
    refine (HKS.out _).mono ?_
    rintro e w6 ⟨rfl, rfl⟩
    by_cases hz : n1 = 0 ∧ n2 = 0
    · obtain rfl : c1 = 11 := by rw [← HC1.out, if_pos hz]
      obtain ⟨rfl, rfl⟩ : q = In.zero ∧ er = 11 := by
        have := HQQ.out
        rw [if_pos (.inl hz)] at this
        exact ⟨(Prod.mk.inj this).1.symm, (Prod.mk.inj this).2.symm⟩
      clear hz
      have r0 := Held.cell HH5.out (i := 0) rfl
      have r1 := Held.cell HH5.out (i := 1) rfl
      have r2 := Held.cell HH5.out (i := 2) rfl
      have r3 := Held.cell HH5.out (i := 3) rfl
      have f0 := Held.free HH5.out 0
      have f1 := Held.free HH5.out 1
      have f2 := Held.free HH5.out 2
      have f3 := Held.free HH5.out 3
      have hlt := Held.lt HH5.out
      go_wp2_with fail
      refine bodyPost_ret (parRead_results _ w.heap.size (.int .u64 0) (.int .u64 0) (.int .u64 0) (.int .i64 0) 11 _ ((((HH5.out.set 0 _).set 1 _).set 2 _).set 3 _) rfl rfl) rfl ?_
      exact ⟨rfl, below_set4 HB5.out (Nat.le_refl _) _ _ _ _⟩
    obtain rfl : c1 = 0 := by rw [← HC1.out, if_neg hz]
    by_cases h30 : n3 = 0
    · obtain rfl : c2 = 11 := by rw [← HC2.out, if_pos h30]
      obtain ⟨rfl, rfl⟩ : q = In.zero ∧ er = 11 := by
        have := HQQ.out
        rw [if_pos (.inr h30)] at this
        exact ⟨(Prod.mk.inj this).1.symm, (Prod.mk.inj this).2.symm⟩
      clear hz h30
      have r0 := Held.cell HH5.out (i := 0) rfl
      have r1 := Held.cell HH5.out (i := 1) rfl
      have r2 := Held.cell HH5.out (i := 2) rfl
      have r3 := Held.cell HH5.out (i := 3) rfl
      have f0 := Held.free HH5.out 0
      have f1 := Held.free HH5.out 1
      have f2 := Held.free HH5.out 2
      have f3 := Held.free HH5.out 3
      have hlt := Held.lt HH5.out
      go_wp2_with fail
      refine bodyPost_ret (parRead_results _ w.heap.size (.int .u64 0) (.int .u64 0) (.int .u64 0) (.int .i64 0) 11 _ ((((HH5.out.set 0 _).set 1 _).set 2 _).set 3 _) rfl rfl) rfl ?_
      exact ⟨rfl, below_set4 HB5.out (Nat.le_refl _) _ _ _ _⟩
    obtain rfl : c2 = 0 := by rw [← HC2.out, if_neg h30]
    obtain ⟨rfl, rfl⟩ : q = ⟨n1, n2, n3, n4⟩ ∧ er = 0 := by
      have := HQQ.out
      rw [if_neg (by rintro (h | h); exact hz h; exact h30 h)] at this
      exact ⟨(Prod.mk.inj this).1.symm, (Prod.mk.inj this).2.symm⟩
    clear hz h30
    have p6 := HP5.out.cell (i := 6) rfl
    have p7 := HP5.out.cell (i := 7) rfl
    go_wp2_with fail
    refine (HK2.out _).mono ?_
    rintro e w7 ⟨rfl, hb7⟩
    have hT7 := HT5.out.kept hb7
    have hH7 := HH5.out.kept hb7
    have HH7 := Stow.mk hH7
    have HB7 : Stow (Below w.heap.size w w7) := ⟨HB5.out.trans (hb7.mono HB5.out.size)⟩
    clear hb7 p6 p7
    go_wp2_with fail
    refine (HKU.out _).mono ?_
    rintro e w8 ⟨rfl, rfl⟩
    have t0 := hT7.cell (i := 0) rfl
    have t1 := hT7.cell (i := 1) rfl
    have h256 : (16 : Nat) ^ 2 = 256 := rfl
    rw [h256] at h6
    have r0 := Held.cell hH7 (i := 0) rfl
    have r1 := Held.cell hH7 (i := 1) rfl
    have r2 := Held.cell hH7 (i := 2) rfl
    have r3 := Held.cell hH7 (i := 3) rfl
    have f0 := Held.free hH7 0
    have f1 := Held.free hH7 1
    have f2 := Held.free hH7 2
    have f3 := Held.free hH7 3
    have hlt := Held.lt hH7
    clear hT7 hH7
    simp only
    go_wp2_with fail
    refine bodyPost_ret (parRead_results _ w.heap.size (.int .u64 n1) (.int .u64 n2) (.int .u64 n3) (.int .i64 n4) 0 _ ((((HH7.out.set 0 _).set 1 _).set 2 _).set 3 _) rfl rfl) rfl ?_
    exact ⟨rfl, below_set4 HB7.out (Nat.le_refl _) _ _ _ _⟩
end Go.Proofs.YtfbhdkkmcfnghaaGreatDoor
