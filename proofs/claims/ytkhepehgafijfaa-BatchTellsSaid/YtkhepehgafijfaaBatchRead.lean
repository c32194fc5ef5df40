/- Walks of batch's open, spans, Read and ReadAck. Condition: the text is no longer than an int can say. -/
import Derived.Test.YtkhepehgafijfaaBatchCheck
import Derived.Test.YtkhepehgafijfaaSpanReadFn
import Derived.Test.YtkhepehgafijfaaVarintGet
import Derived.Test.YtkhepehgafijfaaSpanFwd
namespace Go.Proofs.Ytkhepehgafijfaa
open Go.RowKit
set_option linter.unusedVariables false

theorem unsl_len {l t : List UInt8} (h : unsl l = (t, 0)) : t.length ≤ l.length := by
  unfold unsl at h
  split at h
  · simp at h
  · split at h
    · simp at h
    · simp only [Prod.mk.injEq] at h; rw [← h.1]; simp

set_option maxHeartbeats 400000 in
set_option maxRecDepth 100000 in
theorem open_bad (l : List UInt8) (x : Int) (k b : Nat) (t : List UInt8) (hx : x = k) (w : World) (hl : l.length ≤ 9223372036854775807) (h : openK l k = (t, b)) (hb : b ≠ 0) :
    Calls Try.prog 32 #[.string (bs l), .int .i64 x] w fun e w' => e = .returned (.tuple #[.string (bs []), .nilFunc, .int .i64 b]) ∧ Below w.heap.size w w' := by
  subst hx
  rcases hu : unsl l with ⟨u, c⟩
  have HU := Stow.mk hu
  by_cases hc : c = 0
  · subst hc
    have hul := unsl_len hu
    have hk : kindOf u ≠ k ∧ b = 3 := by
      unfold openK at h
      rw [hu] at h
      simp only [ne_eq, not_true_eq_false, if_false] at h
      split at h <;> simp only [Prod.mk.injEq] at h
      · rename_i h1; exact ⟨h1, h.2.symm⟩
      · omega
    obtain ⟨hk, rfl⟩ := hk
    obtain ⟨q, hq⟩ : ∃ q, kindOf u = q := ⟨_, rfl⟩
    rw [hq] at hk
    have HQ := Stow.mk hq
    have hne : ((q : Int) != (k : Int)) = true := by simp; omega
    clear hu h hq
    go_enter Try.func32, Try.ntmps32
    go_wp2_with fail
    refine (crcOpen_any l _ hl).mono ?_
    rw [HU.out]
    rintro e w1 ⟨rfl, hb1⟩
    go_wp2_with fail
    refine (kind_any u _ (by omega)).mono ?_
    rw [HQ.out]
    rintro e w2 ⟨rfl, rfl⟩
    go_wp2_with fail
    go_ret3
    refine ⟨rfl, ?_⟩
    (repeat (first | exact Below.self _ | refine Below.alloc' ?_ _ | refine Below.drew ?_ | refine Below.drewN' ?_ _ | (refine Below.call ?_ (by assumption))))
  · have hbc : b = c := by
      unfold openK at h
      rw [hu] at h
      simp only [ne_eq, hc, not_false_eq_true, if_true, Prod.mk.injEq] at h
      exact h.2.symm
    subst hbc
    have hne : ((b : Int) != 0) = true := by simp; omega
    clear hu h
    go_enter Try.func32, Try.ntmps32
    go_wp2_with fail
    refine (crcOpen_any l _ hl).mono ?_
    rw [HU.out]
    rintro e w1 ⟨rfl, hb1⟩
    go_wp2_with fail
    go_ret3
    refine ⟨rfl, ?_⟩
    (repeat (first | exact Below.self _ | refine Below.alloc' ?_ _ | refine Below.drew ?_ | refine Below.drewN' ?_ _ | (refine Below.call ?_ (by assumption))))

/-- What open leaves: the text, and a function that holds it, and the place. -/
def OpenOf (w : World) (t : List UInt8) (e : Ending) (w' : World) : Prop :=
  ∃ gb ga, e = .returned (.tuple #[.string (bs t), .func (.func 55) #[] #[.pointer (some ⟨gb, 0, none⟩), .pointer (some ⟨ga, 0, none⟩)], .int .i64 0]) ∧
    Held w' gb [.string (bs t)] ∧ Held w' ga [.int .i64 3] ∧ w.heap.size ≤ ga ∧ gb ≠ ga ∧ Below w.heap.size w w'

set_option maxHeartbeats 400000 in
set_option maxRecDepth 100000 in
theorem open_good (l : List UInt8) (x : Int) (k : Nat) (t : List UInt8) (hx : x = k) (w : World) (hl : l.length ≤ 9223372036854775807) (h : openK l k = (t, 0)) :
    Calls Try.prog 32 #[.string (bs l), .int .i64 x] w (OpenOf w t) := by
  subst hx
  rcases hu : unsl l with ⟨u, c⟩
  have HU := Stow.mk hu
  have hk : c = 0 ∧ kindOf u = k ∧ u = t := by
    unfold openK at h
    rw [hu] at h
    split at h <;> simp only [Prod.mk.injEq] at h
    · omega
    · split at h <;> simp only [Prod.mk.injEq] at h
      · omega
      · rename_i h1 h2; exact ⟨by omega, by simpa using h2, h.1⟩
  obtain ⟨rfl, hk, rfl⟩ := hk
  have hul := unsl_len hu
  have HK := Stow.mk hk
  clear hu h hk
  go_enter Try.func32, Try.ntmps32
  go_wp2_with fail
  refine (crcOpen_any l _ hl).mono ?_
  rw [HU.out]
  rintro e w1 ⟨rfl, hb1⟩
  go_wp2_with fail
  refine (kind_any u _ (by omega)).mono ?_
  rw [HK.out]
  rintro e w2 ⟨rfl, rfl⟩
  go_wp2_with fail
  go_ret3
  refine ⟨w1.heap.size, w1.heap.size + 1, rfl, ?_, ?_, ?_, ?_, ?_⟩
  · exact (Held.made w1 [.string (bs u)] _).kept (Below.alloc' (Below.self _) _)
  · have := Held.made (w1.alloc (.cells #[.string (bs u)] 9)) [.int .i64 3] 3
    simpa using this
  · have := hb1.size; omega
  · omega
  · (repeat (first | exact Below.self _ | refine Below.alloc' ?_ _ | refine Below.drew ?_ | refine Below.drewN' ?_ _ | (refine Below.call ?_ (by assumption))))

/-- What next leaves. -/
def NextOf (ga : Nat) (w : World) (n : Nat) (y : Int) (b : Nat) (a : Int) (e : Ending) (w' : World) : Prop :=
  e = .returned (.tuple #[.int .i64 (n : Int), .int .i64 y, .int .i64 (b : Int)]) ∧ Held w' ga [.int .i64 (if b = 0 then y else a)] ∧ Only ga w w'

set_option maxHeartbeats 400000 in
set_option maxRecDepth 100000 in
theorem next_any (gb ga : Nat) (t : List UInt8) (a x : Int) (most n b : Nat) (y : Int) (hx : x = most) (w : World) (hB : Held w gb [.string (bs t)]) (hA : Held w ga [.int .i64 a]) (hne : gb ≠ ga)
    (hl : t.length ≤ 9223372036854775807) (hm : most ≤ 1099511627776) (h : numM t a most = (n, y, b)) :
    Calls Try.prog 55 #[.int .i64 x, .pointer (some ⟨gb, 0, none⟩), .pointer (some ⟨ga, 0, none⟩)] w (NextOf ga w n y b a) := by
  subst hx
  have cB := hB.cell (i := 0) rfl
  have cA := hA.cell (i := 0) rfl
  have fA := hA.free 0
  rcases hg : Vr.get t a with ⟨q, z, c⟩
  have HG := Stow.mk hg
  have hA0 := Stow.mk hA
  have em : IntKind.u64.wrap (most : Int) = most := wrap_u64_nat most (by omega)
  unfold numM at h
  rw [hg] at h
  simp only at h
  by_cases hc : c = 0
  · subst hc
    rw [if_neg (by simp)] at h
    by_cases hq : most < q
    · rw [if_pos hq] at h
      simp only [Prod.mk.injEq] at h
      obtain ⟨rfl, rfl, rfl⟩ := h
      clear hg hA hB
      go_enter Try.func55, Try.ntmps55
      go_wp2_with fail
      refine (get_any t a _ hl).mono ?_
      rw [HG.out]
      rintro e w' ⟨rfl, rfl⟩
      go_wp2_with fail
      go_ret3
      exact ⟨rfl, by rw [if_neg (by omega)]; exact hA0.out, Only.refl _ _⟩
    · rw [if_neg hq] at h
      simp only [Prod.mk.injEq] at h
      obtain ⟨rfl, rfl, rfl⟩ := h
      clear hg hA hB
      have eq : IntKind.i64.wrap (q : Int) = q := IntWalk.i64_in _ (by omega)
      go_enter Try.func55, Try.ntmps55
      go_wp2_with fail
      refine (get_any t a _ hl).mono ?_
      rw [HG.out]
      rintro e w' ⟨rfl, rfl⟩
      go_wp2_with fail
      go_quiet (fail)
      go_wp2_with fail
      go_ret3
      refine ⟨rfl, ?_, ?_⟩
      · exact (hA0.out.set 0 (.int .i64 z)).drewN nq
      · exact Only.trans (Only.set ga w' 0 _) (Only.drewN _ _ _)
  · rw [if_pos (by simpa using hc)] at h
    simp only [Prod.mk.injEq] at h
    obtain ⟨rfl, rfl, rfl⟩ := h
    have hne : ((c : Int) != 0) = true := by simp; omega
    clear hg hA hB
    go_enter Try.func55, Try.ntmps55
    go_wp2_with fail
    refine (get_any t a _ hl).mono ?_
    rw [HG.out]
    rintro e w' ⟨rfl, rfl⟩
    go_wp2_with fail
    go_ret3
    exact ⟨rfl, by rw [if_neg hc]; exact hA0.out, Only.refl _ _⟩

theorem info_span : (Try.prog.info? 46).map (fun i => (i.zero, i.size, i.bytes)) = some (some (.agg #[.int .u64 0, .int .u64 0, .int .u64 0, .int .u64 0, .string ⟨#[]⟩, .int .i64 0, .int .i64 0, .int .i64 0, .bool false, .int .i64 0, .int .i64 0]), 11, 96) := by kernel_rfl

/-- What a function leaves that answers spans of its own, and an error. -/
def SpansOf (w : World) (L : List Sp) (b : Nat) (e : Ending) (w' : World) : Prop :=
  ∃ v, e = .returned (.tuple #[v, .int .i64 (b : Int)]) ∧ w'.ownsRow w.heap.size 46 11 v L.length (L.flatMap Sp.cells) ∧ Below w.heap.size w w'

theorem spansR_snoc {t : List UInt8} {m : Nat} {acc : List Sp} {a : Int} {s : Sp} {y : Int} (h : readSpan t a = (s, y, 0)) : spansR t (m + 1) acc a = spansR t m (acc ++ [s]) y := by
  simp [spansR, h]
theorem spansR_bad {t : List UInt8} {m : Nat} {acc : List Sp} {a : Int} {s : Sp} {y : Int} {e : Nat} (h : readSpan t a = (s, y, e)) (he : e ≠ 0) : spansR t (m + 1) acc a = ([], 0, e) := by
  simp [spansR, h, he]
theorem spans_next {acc : List Sp} {s : Sp} : (acc ++ [s]).flatMap Sp.cells = acc.flatMap Sp.cells ++ s.cells := by simp

set_option maxHeartbeats 1000000 in
set_option maxRecDepth 100000 in
theorem spans_any (t : List UInt8) (a0 x : Int) (many : Nat) (hx : x = many) (w : World) (hl : t.length ≤ 9223372036854775807) (ha : a0 ≤ 9223372036854775807) (hm : many ≤ 16) :
    Calls Try.prog 33 #[.string (bs t), .int .i64 a0, .int .i64 x] w (SpansOf w (spansAll t a0 many).1 (spansAll t a0 many).2) := by
  subst hx
  obtain ⟨R, hR⟩ : ∃ R, spansR t many [] a0 = R := ⟨_, rfl⟩
  have HALL : Stow (spansAll t a0 many = if R.2.2 ≠ 0 then ([], R.2.2) else if R.2.1 ≠ t.length then ([], 3) else if many = 0 then ([], 9) else (R.1, 0)) := ⟨by unfold spansAll; rw [hR]⟩
  have HR := Stow.mk hR
  clear hR
  go_enter Try.func33, Try.ntmps33
  go_wp2_with fail
  go_loopw [1, 8, 9, 10, 11, 13] (fun p o _ _ _ v wr => ∃ (j : Nat) (acc : List Sp) (a : Int), v = .int .i64 j ∧ j ≤ many ∧ acc.length = j ∧ p = .int .i64 a ∧ a ≤ 9223372036854775807 ∧ Stow (spansR t (many - j) acc a = R) ∧ wr.ownsRow w.heap.size 46 11 o acc.length (acc.flatMap Sp.cells) ∧ Below w.heap.size w wr)
    (fun _ _ _ _ _ v _ => many - (intOf v).toNat)
  case atStart => exact ⟨0, [], a0, rfl, by omega, rfl, rfl, ha, ⟨by rw [← HR.out]; rfl⟩, World.ownsRow_nil _ _ _ _, Below.self _⟩
  case round =>
    obtain ⟨j, acc, a, rfl, hj, hacc, rfl, ha2, HJ, hown, hbr⟩ := hrel
    have HACC := Stow.mk hacc
    clear hacc
    by_cases hlt : j < many
    · rcases hs : readSpan t a with ⟨s, y, e⟩
      have HS := Stow.mk hs
      by_cases he : e = 0
      · subst he
        have hay : ∃ y' : Nat, y = (y' : Int) ∧ y' ≤ t.length := by
          by_cases hneg : a < 0
          · rw [readSpan_neg hneg] at hs; simp at hs
          · obtain ⟨k, rfl⟩ := Int.eq_ofNat_of_zero_le (by omega : 0 ≤ a)
            obtain ⟨m, h1, h2, _⟩ := span_fwdk hl hs
            exact ⟨k + m, h1, h2⟩
        obtain ⟨y', rfl, hy'⟩ := hay
        have HJ2 : Stow (spansR t (many - (j + 1)) (acc ++ [s]) (y' : Int) = R) := ⟨by rw [← HJ.out, show many - j = (many - (j + 1)) + 1 by omega, spansR_snoc hs]⟩
        clear hs HJ
        obtain ⟨hi, lo, id, up, name, st, sq, kd, sh, t0, t1⟩ := s
        go_wp2_with fail
        refine (readSpan_any t a _ hl ha2).mono ?_
        rw [HS.out]
        simp only [Sp.val]
        rintro e w3 ⟨rfl, hb3⟩
        have hown3 := (own_kept hown hb3).alloc (.cells #[.int .u64 (hi : Int), .int .u64 (lo : Int), .int .u64 (id : Int), .int .u64 (up : Int), .string (bs name), .int .i64 st, .int .i64 sq, .int .i64 kd, .bool sh, .int .i64 t0, .int .i64 t1] 46)
        have hB3 : w.heap.size ≤ w3.heap.size := Nat.le_trans hbr.size hb3.size
        have hal : acc.length ≤ 16 := by have := HACC.out; omega
        clear hown
        have k1 : ∀ u ∈ ([.int .u64 (hi : Int), .int .u64 (lo : Int), .int .u64 (id : Int), .int .u64 (up : Int), .string (bs name), .int .i64 st, .int .i64 sq, .int .i64 kd, .bool sh, .int .i64 t0, .int .i64 t1] : List Value), u.oneCell' = true := by simp [Value.oneCell']
        have k2 : (acc.length + 1) * 96 ≤ 140737488355328 := by omega
        have k3 : acc.length + 1 ≤ maxLen := by unfold maxLen; omega
        have k4 : w.heap.size ≤ (w3.alloc (.cells #[.int .u64 (hi : Int), .int .u64 (lo : Int), .int .u64 (id : Int), .int .u64 (up : Int), .string (bs name), .int .i64 st, .int .i64 sq, .int .i64 kd, .bool sh, .int .i64 t0, .int .i64 t1] 46)).heap.size := by simp; omega
        have k5 : w3.heap.size + 1 = (w3.alloc (.cells #[.int .u64 (hi : Int), .int .u64 (lo : Int), .int .u64 (id : Int), .int .u64 (up : Int), .string (bs name), .int .i64 st, .int .i64 sq, .int .i64 kd, .bool sh, .int .i64 t0, .int .i64 t1] 46)).heap.size := by simp
        have K5 := Stow.mk k5
        have K1 := Stow.mk k1
        have K4 := Stow.mk k4
        have HO3 := Stow.mk hown3
        clear k1 k5 k4 hown3
        go_wp2_with (at_builtin; refine wpList_append_elem _ _ _ rfl (.tmp 25) (.tmp 27) 22 rfl w.heap.size 46 _ 11 96 Try.underlying22 info_span _ _ _ HO3.out rfl _ rfl K5.out rfl (by decide) rfl K1.out k2 k3 K4.out ?_; intro v4 w4 hown4 hg4 hb4 hs4)
        refine ⟨⟨j + 1, acc ++ [⟨hi, lo, id, up, name, st, sq, kd, sh, t0, t1⟩], y', rfl, by omega, by simp [HACC.out], rfl, by omega, HJ2, ?_, ?_⟩, by simp [intOf]; omega⟩
        · rw [spans_next, List.length_append]; exact hown4
        · exact Below.trans (Below.alloc' (Below.call hbr hb3) _) hb4
      · have hen : ((e : Int) != 0) = true := by simp; omega
        have HRR : Stow (R = ([], 0, e)) := ⟨by rw [← HJ.out, show many - j = (many - (j + 1)) + 1 by omega, spansR_bad hs he]⟩
        clear hs HJ
        obtain ⟨hi, lo, id, up, name, st, sq, kd, sh, t0, t1⟩ := s
        go_wp2_with fail
        refine (readSpan_any t a _ hl ha2).mono ?_
        rw [HS.out]
        simp only [Sp.val]
        rintro e w3 ⟨rfl, hb3⟩
        go_wp2_with fail
        go_ret2
        have HF : Stow (spansAll t a0 many = ([], e)) := ⟨by rw [HALL.out, HRR.out, if_pos he]⟩
        exact ⟨.slice none 0 0, by rw [HF.out]; rfl, by rw [HF.out]; exact ⟨rfl, .inl ⟨rfl, rfl⟩⟩, Below.alloc' (Below.call hbr hb3) _⟩
    · obtain rfl : j = many := by omega
      have hRR : R = (acc, a, 0) := by rw [← HJ.out, Nat.sub_self]; rfl
      have HRR := Stow.mk hRR
      clear hRR
      by_cases ha3 : a = t.length
      · have hd : (a != (t.length : Int)) = false := by simpa using ha3
        by_cases hm0 : j = 0
        · have hd0 : ((j : Int) == 0) = true := by simp; omega
          go_wp2_with fail
          go_ret2
          have HF : Stow (spansAll t a0 j = ([], 9)) := ⟨by rw [HALL.out, HRR.out]; simp [ha3, hm0]⟩
          exact ⟨_, by rw [HF.out]; rfl, by rw [HF.out]; exact ⟨rfl, .inl ⟨rfl, rfl⟩⟩, hbr⟩
        · have hd0 : ((j : Int) == 0) = false := by simp; omega
          go_wp2_with fail
          go_ret2
          have HF : Stow (spansAll t a0 j = (acc, 0)) := ⟨by rw [HALL.out, HRR.out]; simp [ha3, hm0]⟩
          exact ⟨_, by rw [HF.out]; rfl, by rw [HF.out]; exact hown, hbr⟩
      · have hd : (a != (t.length : Int)) = true := by simpa using ha3
        go_wp2_with fail
        go_ret2
        have HF : Stow (spansAll t a0 j = ([], 3)) := ⟨by rw [HALL.out, HRR.out]; simp [ha3]⟩
        exact ⟨_, by rw [HF.out]; rfl, by rw [HF.out]; exact ⟨rfl, .inl ⟨rfl, rfl⟩⟩, hbr⟩

end Go.Proofs.Ytkhepehgafijfaa
