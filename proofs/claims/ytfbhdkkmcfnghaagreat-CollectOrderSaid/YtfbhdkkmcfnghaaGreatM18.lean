/- Walks of batch's open, spans, Read and ReadAck. Condition: the text is no longer than an int can say.; Walks of batch's Read and ReadAck. Condition: the text is no longer than an int can say. -/
import Derived.Test.YtfbhdkkmcfnghaaGreatM16
import Derived.Test.YtfbhdkkmcfnghaaGreatM12
import Derived.Test.YtfbhdkkmcfnghaaGreatM10
import Derived.Test.YtfbhdkkmcfnghaaGreatM17

section
namespace Go.Proofs.YtfbhdkkmcfnghaaGreat
open Go.RowKit
set_option linter.unusedVariables false

theorem unsl_len {l t : List UInt8} (h : unsl l = (t, 0)) : t.length ≤ l.length := by
  unfold unsl at h
  split at h
  · simp at h
  · split at h
    · simp at h
    · simp only [Prod.mk.injEq] at h; rw [← h.1]; simp

set_option maxHeartbeats 400000 in
set_option maxRecDepth 100000 in
theorem open_bad (l : List UInt8) (x : Int) (k b : Nat) (t : List UInt8) (hx : x = k) (w : World) (hl : l.length ≤ 9223372036854775807) (h : openK l k = (t, b)) (hb : b ≠ 0) :
    Calls Tryz.prog 49 #[.string (bs l), .int .i64 x] w fun e w' => e = .returned (.tuple #[.string (bs []), .nilFunc, .int .i64 b]) ∧ Below w.heap.size w w' := by
  subst hx
  rcases hu : unsl l with ⟨u, c⟩
  have HU := Stow.mk hu
  by_cases hc : c = 0
  · subst hc
    have hul := unsl_len hu
    have hk : kindOf u ≠ k ∧ b = 3 := by
      unfold openK at h
      rw [hu] at h
      simp only [ne_eq, not_true_eq_false, if_false] at h
      split at h <;> simp only [Prod.mk.injEq] at h
      · rename_i h1; exact ⟨h1, h.2.symm⟩
      · omega
    obtain ⟨hk, rfl⟩ := hk
    obtain ⟨q, hq⟩ : ∃ q, kindOf u = q := ⟨_, rfl⟩
    rw [hq] at hk
    have HQ := Stow.mk hq
    have hne : ((q : Int) != (k : Int)) = true := by simp; omega
    clear hu h hq
    go_enter Tryz.func49, Tryz.ntmps49
    go_wp2_with fail
    refine (crcOpen_any l _ hl).mono ?_
    rw [HU.out]
    rintro e w1 ⟨rfl, hb1⟩
    go_wp2_with fail
    refine (kind_any u _ (by omega)).mono ?_
    rw [HQ.out]
    rintro e w2 ⟨rfl, rfl⟩
    go_wp2_with fail
    go_ret3
    refine ⟨rfl, ?_⟩
    (repeat (first | exact Below.self _ | refine Below.alloc' ?_ _ | refine Below.drew ?_ | refine Below.drewN' ?_ _ | (refine Below.call ?_ (by assumption))))
  · have hbc : b = c := by
      unfold openK at h
      rw [hu] at h
      simp only [ne_eq, hc, not_false_eq_true, if_true, Prod.mk.injEq] at h
      exact h.2.symm
    subst hbc
    have hne : ((b : Int) != 0) = true := by simp; omega
    clear hu h
    go_enter Tryz.func49, Tryz.ntmps49
    go_wp2_with fail
    refine (crcOpen_any l _ hl).mono ?_
    rw [HU.out]
    rintro e w1 ⟨rfl, hb1⟩
    go_wp2_with fail
    go_ret3
    refine ⟨rfl, ?_⟩
    (repeat (first | exact Below.self _ | refine Below.alloc' ?_ _ | refine Below.drew ?_ | refine Below.drewN' ?_ _ | (refine Below.call ?_ (by assumption))))

/-- What open leaves: the text, and a function that holds it, and the place. -/
def OpenOf (w : World) (t : List UInt8) (e : Ending) (w' : World) : Prop :=
  ∃ gb ga, e = .returned (.tuple #[.string (bs t), .func (.func 84) #[] #[.pointer (some ⟨gb, 0, none⟩), .pointer (some ⟨ga, 0, none⟩)], .int .i64 0]) ∧
    Held w' gb [.string (bs t)] ∧ Held w' ga [.int .i64 3] ∧ w.heap.size ≤ ga ∧ gb ≠ ga ∧ Below w.heap.size w w'

set_option maxHeartbeats 400000 in
set_option maxRecDepth 100000 in
theorem open_good (l : List UInt8) (x : Int) (k : Nat) (t : List UInt8) (hx : x = k) (w : World) (hl : l.length ≤ 9223372036854775807) (h : openK l k = (t, 0)) :
    Calls Tryz.prog 49 #[.string (bs l), .int .i64 x] w (OpenOf w t) := by
  subst hx
  rcases hu : unsl l with ⟨u, c⟩
  have HU := Stow.mk hu
  have hk : c = 0 ∧ kindOf u = k ∧ u = t := by
    unfold openK at h
    rw [hu] at h
    split at h <;> simp only [Prod.mk.injEq] at h
    · omega
    · split at h <;> simp only [Prod.mk.injEq] at h
      · omega
      · rename_i h1 h2; exact ⟨by omega, by simpa using h2, h.1⟩
  obtain ⟨rfl, hk, rfl⟩ := hk
  have hul := unsl_len hu
  have HK := Stow.mk hk
  clear hu h hk
  go_enter Tryz.func49, Tryz.ntmps49
  go_wp2_with fail
  refine (crcOpen_any l _ hl).mono ?_
  rw [HU.out]
  rintro e w1 ⟨rfl, hb1⟩
  go_wp2_with fail
  refine (kind_any u _ (by omega)).mono ?_
  rw [HK.out]
  rintro e w2 ⟨rfl, rfl⟩
  go_wp2_with fail
  go_ret3
  refine ⟨w1.heap.size, w1.heap.size + 1, rfl, ?_, ?_, ?_, ?_, ?_⟩
  · exact (Held.made w1 [.string (bs u)] _).kept (Below.alloc' (Below.self _) _)
  · have := Held.made (w1.alloc (.cells #[.string (bs u)] 9)) [.int .i64 3] 3
    simpa using this
  · have := hb1.size; omega
  · omega
  · (repeat (first | exact Below.self _ | refine Below.alloc' ?_ _ | refine Below.drew ?_ | refine Below.drewN' ?_ _ | (refine Below.call ?_ (by assumption))))

/-- What next leaves. -/
def NextOf (ga : Nat) (w : World) (n : Nat) (y : Int) (b : Nat) (a : Int) (e : Ending) (w' : World) : Prop :=
  e = .returned (.tuple #[.int .i64 (n : Int), .int .i64 y, .int .i64 (b : Int)]) ∧ Held w' ga [.int .i64 (if b = 0 then y else a)] ∧ Only ga w w'

set_option maxHeartbeats 400000 in
set_option maxRecDepth 100000 in
theorem next_any (gb ga : Nat) (t : List UInt8) (a x : Int) (most n b : Nat) (y : Int) (hx : x = most) (w : World) (hB : Held w gb [.string (bs t)]) (hA : Held w ga [.int .i64 a]) (hne : gb ≠ ga)
    (hl : t.length ≤ 9223372036854775807) (hm : most ≤ 1099511627776) (h : numM t a most = (n, y, b)) :
    Calls Tryz.prog 84 #[.int .i64 x, .pointer (some ⟨gb, 0, none⟩), .pointer (some ⟨ga, 0, none⟩)] w (NextOf ga w n y b a) := by
  subst hx
  have cB := hB.cell (i := 0) rfl
  have cA := hA.cell (i := 0) rfl
  have fA := hA.free 0
  rcases hg : Vr.get t a with ⟨q, z, c⟩
  have HG := Stow.mk hg
  have hA0 := Stow.mk hA
  have em : IntKind.u64.wrap (most : Int) = most := wrap_u64_nat most (by omega)
  unfold numM at h
  rw [hg] at h
  simp only at h
  by_cases hc : c = 0
  · subst hc
    rw [if_neg (by simp)] at h
    by_cases hq : most < q
    · rw [if_pos hq] at h
      simp only [Prod.mk.injEq] at h
      obtain ⟨rfl, rfl, rfl⟩ := h
      clear hg hA hB
      go_enter Tryz.func84, Tryz.ntmps84
      go_wp2_with fail
      refine (get_any t a _ hl).mono ?_
      rw [HG.out]
      rintro e w' ⟨rfl, rfl⟩
      go_wp2_with fail
      go_ret3
      exact ⟨rfl, by rw [if_neg (by omega)]; exact hA0.out, Only.refl _ _⟩
    · rw [if_neg hq] at h
      simp only [Prod.mk.injEq] at h
      obtain ⟨rfl, rfl, rfl⟩ := h
      clear hg hA hB
      have eq : IntKind.i64.wrap (q : Int) = q := IntWalk.i64_in _ (by omega)
      go_enter Tryz.func84, Tryz.ntmps84
      go_wp2_with fail
      refine (get_any t a _ hl).mono ?_
      rw [HG.out]
      rintro e w' ⟨rfl, rfl⟩
      go_wp2_with fail
      go_quiet (fail)
      go_wp2_with fail
      go_ret3
      refine ⟨rfl, ?_, ?_⟩
      · exact (hA0.out.set 0 (.int .i64 z)).drewN nq
      · exact Only.trans (Only.set ga w' 0 _) (Only.drewN _ _ _)
  · rw [if_pos (by simpa using hc)] at h
    simp only [Prod.mk.injEq] at h
    obtain ⟨rfl, rfl, rfl⟩ := h
    have hne : ((c : Int) != 0) = true := by simp; omega
    clear hg hA hB
    go_enter Tryz.func84, Tryz.ntmps84
    go_wp2_with fail
    refine (get_any t a _ hl).mono ?_
    rw [HG.out]
    rintro e w' ⟨rfl, rfl⟩
    go_wp2_with fail
    go_ret3
    exact ⟨rfl, by rw [if_neg hc]; exact hA0.out, Only.refl _ _⟩

theorem info_span : (Tryz.prog.info? 64).map (fun i => (i.zero, i.size, i.bytes)) = some (some (.agg #[.int .u64 0, .int .u64 0, .int .u64 0, .int .u64 0, .string ⟨#[]⟩, .int .i64 0, .int .i64 0, .int .i64 0, .bool false, .int .i64 0, .int .i64 0]), 11, 96) := by kernel_rfl

/-- What a function leaves that answers spans of its own, and an error. -/
def SpansOf (w : World) (L : List Sp) (b : Nat) (e : Ending) (w' : World) : Prop :=
  ∃ v, e = .returned (.tuple #[v, .int .i64 (b : Int)]) ∧ w'.ownsRow w.heap.size 64 11 v L.length (L.flatMap Sp.cells) ∧ Below w.heap.size w w'

theorem spansR_snoc {t : List UInt8} {m : Nat} {acc : List Sp} {a : Int} {s : Sp} {y : Int} (h : readSpan t a = (s, y, 0)) : spansR t (m + 1) acc a = spansR t m (acc ++ [s]) y := by
  simp [spansR, h]
theorem spansR_bad {t : List UInt8} {m : Nat} {acc : List Sp} {a : Int} {s : Sp} {y : Int} {e : Nat} (h : readSpan t a = (s, y, e)) (he : e ≠ 0) : spansR t (m + 1) acc a = ([], 0, e) := by
  simp [spansR, h, he]
theorem spans_next {acc : List Sp} {s : Sp} : (acc ++ [s]).flatMap Sp.cells = acc.flatMap Sp.cells ++ s.cells := by simp

set_option maxHeartbeats 1000000 in
set_option maxRecDepth 100000 in
theorem spans_any (t : List UInt8) (a0 x : Int) (many : Nat) (hx : x = many) (w : World) (hl : t.length ≤ 9223372036854775807) (ha : a0 ≤ 9223372036854775807) (hm : many ≤ 16) :
    Calls Tryz.prog 50 #[.string (bs t), .int .i64 a0, .int .i64 x] w (SpansOf w (spansAll t a0 many).1 (spansAll t a0 many).2) := by
  subst hx
  obtain ⟨R, hR⟩ : ∃ R, spansR t many [] a0 = R := ⟨_, rfl⟩
  have HALL : Stow (spansAll t a0 many = if R.2.2 ≠ 0 then ([], R.2.2) else if R.2.1 ≠ t.length then ([], 3) else if many = 0 then ([], 9) else (R.1, 0)) := ⟨by unfold spansAll; rw [hR]⟩
  have HR := Stow.mk hR
  clear hR
  go_enter Tryz.func50, Tryz.ntmps50
  go_wp2_with fail
  go_loopw [1, 8, 9, 10, 11, 13] (fun p o _ _ _ v wr => ∃ (j : Nat) (acc : List Sp) (a : Int), v = .int .i64 j ∧ j ≤ many ∧ acc.length = j ∧ p = .int .i64 a ∧ a ≤ 9223372036854775807 ∧ Stow (spansR t (many - j) acc a = R) ∧ wr.ownsRow w.heap.size 64 11 o acc.length (acc.flatMap Sp.cells) ∧ Below w.heap.size w wr)
    (fun _ _ _ _ _ v _ => many - (intOf v).toNat)
  case atStart => exact ⟨0, [], a0, rfl, by omega, rfl, rfl, ha, ⟨by rw [← HR.out]; rfl⟩, World.ownsRow_nil _ _ _ _, Below.self _⟩
  case round =>
    obtain ⟨j, acc, a, rfl, hj, hacc, rfl, ha2, HJ, hown, hbr⟩ := hrel
    have HACC := Stow.mk hacc
    clear hacc
    by_cases hlt : j < many
    · rcases hs : readSpan t a with ⟨s, y, e⟩
      have HS := Stow.mk hs
      by_cases he : e = 0
      · subst he
        have hay : ∃ y' : Nat, y = (y' : Int) ∧ y' ≤ t.length := by
          by_cases hneg : a < 0
          · rw [readSpan_neg hneg] at hs; simp at hs
          · obtain ⟨k, rfl⟩ := Int.eq_ofNat_of_zero_le (by omega : 0 ≤ a)
            obtain ⟨m, h1, h2, _⟩ := span_fwdk hl hs
            exact ⟨k + m, h1, h2⟩
        obtain ⟨y', rfl, hy'⟩ := hay
        have HJ2 : Stow (spansR t (many - (j + 1)) (acc ++ [s]) (y' : Int) = R) := ⟨by rw [← HJ.out, show many - j = (many - (j + 1)) + 1 by omega, spansR_snoc hs]⟩
        clear hs HJ
        obtain ⟨hi, lo, id, up, name, st, sq, kd, sh, t0, t1⟩ := s
        go_wp2_with fail
        refine (readSpan_any t a _ hl ha2).mono ?_
        rw [HS.out]
        simp only [Sp.val]
        rintro e w3 ⟨rfl, hb3⟩
        have hown3 := (own_kept hown hb3).alloc (.cells #[.int .u64 (hi : Int), .int .u64 (lo : Int), .int .u64 (id : Int), .int .u64 (up : Int), .string (bs name), .int .i64 st, .int .i64 sq, .int .i64 kd, .bool sh, .int .i64 t0, .int .i64 t1] 64)
        have hB3 : w.heap.size ≤ w3.heap.size := Nat.le_trans hbr.size hb3.size
        have hal : acc.length ≤ 16 := by have := HACC.out; omega
        clear hown
        have k1 : ∀ u ∈ ([.int .u64 (hi : Int), .int .u64 (lo : Int), .int .u64 (id : Int), .int .u64 (up : Int), .string (bs name), .int .i64 st, .int .i64 sq, .int .i64 kd, .bool sh, .int .i64 t0, .int .i64 t1] : List Value), u.oneCell' = true := by simp [Value.oneCell']
        have k2 : (acc.length + 1) * 96 ≤ 140737488355328 := by omega
        have k3 : acc.length + 1 ≤ maxLen := by unfold maxLen; omega
        have k4 : w.heap.size ≤ (w3.alloc (.cells #[.int .u64 (hi : Int), .int .u64 (lo : Int), .int .u64 (id : Int), .int .u64 (up : Int), .string (bs name), .int .i64 st, .int .i64 sq, .int .i64 kd, .bool sh, .int .i64 t0, .int .i64 t1] 64)).heap.size := by simp; omega
        have k5 : w3.heap.size + 1 = (w3.alloc (.cells #[.int .u64 (hi : Int), .int .u64 (lo : Int), .int .u64 (id : Int), .int .u64 (up : Int), .string (bs name), .int .i64 st, .int .i64 sq, .int .i64 kd, .bool sh, .int .i64 t0, .int .i64 t1] 64)).heap.size := by simp
        have K5 := Stow.mk k5
        have K1 := Stow.mk k1
        have K4 := Stow.mk k4
        have HO3 := Stow.mk hown3
        clear k1 k5 k4 hown3
        go_wp2_with (at_builtin; refine wpList_append_elem _ _ _ rfl (.tmp 25) (.tmp 27) 38 rfl w.heap.size 64 _ 11 96 Tryz.underlying38 info_span _ _ _ HO3.out rfl _ rfl K5.out rfl (by decide) rfl K1.out k2 k3 K4.out ?_; intro v4 w4 hown4 hg4 hb4 hs4)
        refine ⟨⟨j + 1, acc ++ [⟨hi, lo, id, up, name, st, sq, kd, sh, t0, t1⟩], y', rfl, by omega, by simp [HACC.out], rfl, by omega, HJ2, ?_, ?_⟩, by simp [intOf]; omega⟩
        · rw [spans_next, List.length_append]; exact hown4
        · exact Below.trans (Below.alloc' (Below.call hbr hb3) _) hb4
      · have hen : ((e : Int) != 0) = true := by simp; omega
        have HRR : Stow (R = ([], 0, e)) := ⟨by rw [← HJ.out, show many - j = (many - (j + 1)) + 1 by omega, spansR_bad hs he]⟩
        clear hs HJ
        obtain ⟨hi, lo, id, up, name, st, sq, kd, sh, t0, t1⟩ := s
        go_wp2_with fail
        refine (readSpan_any t a _ hl ha2).mono ?_
        rw [HS.out]
        simp only [Sp.val]
        rintro e w3 ⟨rfl, hb3⟩
        go_wp2_with fail
        go_ret2
        have HF : Stow (spansAll t a0 many = ([], e)) := ⟨by rw [HALL.out, HRR.out, if_pos he]⟩
        exact ⟨.slice none 0 0, by rw [HF.out]; rfl, by rw [HF.out]; exact ⟨rfl, .inl ⟨rfl, rfl⟩⟩, Below.alloc' (Below.call hbr hb3) _⟩
    · obtain rfl : j = many := by omega
      have hRR : R = (acc, a, 0) := by rw [← HJ.out, Nat.sub_self]; rfl
      have HRR := Stow.mk hRR
      clear hRR
      by_cases ha3 : a = t.length
      · have hd : (a != (t.length : Int)) = false := by simpa using ha3
        by_cases hm0 : j = 0
        · have hd0 : ((j : Int) == 0) = true := by simp; omega
          go_wp2_with fail
          go_ret2
          have HF : Stow (spansAll t a0 j = ([], 9)) := ⟨by rw [HALL.out, HRR.out]; simp [ha3, hm0]⟩
          exact ⟨_, by rw [HF.out]; rfl, by rw [HF.out]; exact ⟨rfl, .inl ⟨rfl, rfl⟩⟩, hbr⟩
        · have hd0 : ((j : Int) == 0) = false := by simp; omega
          go_wp2_with fail
          go_ret2
          have HF : Stow (spansAll t a0 j = (acc, 0)) := ⟨by rw [HALL.out, HRR.out]; simp [ha3, hm0]⟩
          exact ⟨_, by rw [HF.out]; rfl, by rw [HF.out]; exact hown, hbr⟩
      · have hd : (a != (t.length : Int)) = true := by simpa using ha3
        go_wp2_with fail
        go_ret2
        have HF : Stow (spansAll t a0 j = ([], 3)) := ⟨by rw [HALL.out, HRR.out]; simp [ha3]⟩
        exact ⟨_, by rw [HF.out]; rfl, by rw [HF.out]; exact ⟨rfl, .inl ⟨rfl, rfl⟩⟩, hbr⟩

end Go.Proofs.YtfbhdkkmcfnghaaGreat
end

section
namespace Go.Proofs.YtfbhdkkmcfnghaaGreat
open Go.RowKit
set_option linter.unusedVariables false

theorem Held.only {w w' : World} {g ga : Nat} {cs : List Value} (h : Held w g cs) (ho : Only ga w w') (hne : g ≠ ga) : Held w' g cs := by
  have := h.lt
  obtain ⟨t, h⟩ := h
  exact ⟨t, (ho.block g this (by simpa using hne)).trans h⟩
theorem own_base {w : World} {B B' : Nat} {e : TypeId} {size : Nat} {v : Value} {n : Nat} {xs : List Value} (h : w.ownsRow B' e size v n xs) (hle : B ≤ B') : w.ownsRow B e size v n xs := by
  refine ⟨h.1, ?_⟩
  rcases h.2 with h | ⟨g, cap, cur, hv, hb, r⟩
  · exact .inl h
  · exact .inr ⟨g, cap, cur, hv, by omega, r⟩

theorem Below.only' {a b c : World} {g : Nat} (h : Below a.heap.size a b) (k : Only g b c) (hg : a.heap.size ≤ g) : Below a.heap.size a c := h.trans (k.below hg h.size)

section
variable {l t : List UInt8} {b n1 n2 n3 b1 b2 b3 b4 : Nat} {y1 y2 y3 : Int} {L : List Sp}
theorem front_1 {k : Nat} (h : openK l k = (t, b)) (hb : b ≠ 0) : front l k = ([], 0, 0, 0, b) := by simp [front, h, hb]
theorem front_2 {k : Nat} (h : openK l k = (t, 0)) (h1 : numM t 3 7 = (n1, y1, b1)) (hb : b1 ≠ 0) : front l k = ([], 0, 0, 0, b1) := by simp [front, h, h1, hb]
theorem front_3 {k : Nat} (h : openK l k = (t, 0)) (h1 : numM t 3 7 = (n1, y1, 0)) (h2 : numM t y1 1099511627776 = (n2, y2, b2)) (hb : b2 ≠ 0) : front l k = ([], 0, 0, 0, b2) := by simp [front, h, h1, h2, hb]
theorem front_4 {k : Nat} (h : openK l k = (t, 0)) (h1 : numM t 3 7 = (n1, y1, 0)) (h2 : numM t y1 1099511627776 = (n2, y2, 0)) : front l k = (t, n1, n2, y2, 0) := by simp [front, h, h1, h2]
theorem ack_bad {x : List UInt8} {p q : Nat} {r : Int} (h : front l 2 = (x, p, q, r, b)) (hb : b ≠ 0) : btReadAck l = (0, 0, b) := by simp [btReadAck, h, hb]
theorem ack_long (h : front l 2 = (t, n1, n2, y2, 0)) (hy : y2 ≠ t.length) : btReadAck l = (0, 0, 3) := by simp [btReadAck, h, hy]
theorem ack_good (h : front l 2 = (t, n1, n2, y2, 0)) (hy : y2 = t.length) : btReadAck l = (n1, n2, 0) := by simp [btReadAck, h, hy]
theorem rd_bad {x : List UInt8} {p q : Nat} {r : Int} (h : front l 1 = (x, p, q, r, b)) (hb : b ≠ 0) : btRead l = (0, 0, [], b) := by simp [btRead, h, hb]
theorem rd_many (h : front l 1 = (t, n1, n2, y2, 0)) (h3 : numM t y2 16 = (n3, y3, b3)) (hb : b3 ≠ 0) : btRead l = (0, 0, [], b3) := by simp [btRead, h, h3, hb]
theorem rd_spans (h : front l 1 = (t, n1, n2, y2, 0)) (h3 : numM t y2 16 = (n3, y3, 0)) (h4 : spansAll t y3 n3 = (L, b4)) (hb : b4 ≠ 0) : btRead l = (0, 0, [], b4) := by simp [btRead, h, h3, h4, hb]
theorem rd_good (h : front l 1 = (t, n1, n2, y2, 0)) (h3 : numM t y2 16 = (n3, y3, 0)) (h4 : spansAll t y3 n3 = (L, 0)) : btRead l = (n1, n2, L, 0) := by simp [btRead, h, h3, h4]
end
theorem openK_len {l t : List UInt8} {k : Nat} (h : openK l k = (t, 0)) : t.length ≤ l.length := by
  unfold openK at h
  rcases hu : unsl l with ⟨u, c⟩
  rw [hu] at h
  split at h
  · rename_i hc; simp only [Prod.mk.injEq] at h; exact absurd h.2 hc
  · split at h
    · simp at h
    · rename_i h1 h2
      simp only [Prod.mk.injEq] at h
      have : c = 0 := by simpa using h1
      subst this
      rw [← h.1]
      exact unsl_len hu


/-- What a function leaves that answers a batch, and an error. -/
def BatchOf (w : World) (x y : Int) (L : List Sp) (b : Nat) (e : Ending) (w' : World) : Prop :=
  ∃ v, e = .returned (.tuple #[.agg #[.int .i64 x, .int .i64 y, v], .int .i64 (b : Int)]) ∧ w'.ownsRow w.heap.size 64 11 v L.length (L.flatMap Sp.cells) ∧ Below w.heap.size w w'

theorem SpansOf.form {w w' : World} {L : List Sp} {b : Nat} {e : Ending} (h : SpansOf w L b e w') : ∃ A cap, e = .returned (.tuple #[.slice A L.length cap, .int .i64 (b : Int)]) ∧ w'.ownsRow w.heap.size 64 11 (.slice A L.length cap) L.length (L.flatMap Sp.cells) ∧ Below w.heap.size w w' := by
  obtain ⟨v, h1, h2, h3⟩ := h
  obtain ⟨A, cap, rfl⟩ := own_form h2
  exact ⟨A, cap, h1, h2, h3⟩

theorem bt_results (W : World) (g : Nat) (x y : Int) (v : Value) (b : Int) (tmps : Array Value) (hH : Held W g [.int .i64 x, .int .i64 y, v])
    (h2 : tmps[2]?.getD undef = .pointer (some ⟨g, 0, none⟩)) (h3 : tmps[3]?.getD undef = .int .i64 b) :
    (results Tryz.f27 tmps).run Tryz.prog W = .ok (.tuple #[.agg #[.int .i64 x, .int .i64 y, v], .int .i64 b]) W := by
  have c0 := hH.cell (i := 0) rfl
  have c1 := hH.cell (i := 1) rfl
  have c2 := hH.cell (i := 2) rfl
  simp [results, Tryz.results27, go_sem, h2, h3, c0, c1, c2]


set_option maxHeartbeats 1000000 in
set_option maxRecDepth 100000 in
theorem btRead_any (l : List UInt8) (w : World) (hl : l.length ≤ 9223372036854775807) :
    Calls Tryz.prog 27 #[.string (bs l)] w (BatchOf w (btRead l).1 (btRead l).2.1 (btRead l).2.2.1 (btRead l).2.2.2) := by
  have hR0 := Held.made w [.int .i64 0, .int .i64 0, .slice none 0 0] 56
  rcases ho : openK l 1 with ⟨t, b⟩
  by_cases hb : b = 0
  rotate_left
  · have HF := Stow.mk (rd_bad (front_1 ho hb) hb)
    have hbn : ((b : Int) != 0) = true := by simp; omega
    have HO := Stow.mk ho
    clear ho
    go_enter Tryz.func27, Tryz.ntmps27
    go_wp2_with fail
    refine (open_bad l _ 1 b t rfl _ hl HO.out hb).mono ?_
    rintro e w1 ⟨rfl, hb1⟩
    have hR1 := hR0.kept hb1
    have hbl1 : Below w.heap.size w w1 := Below.call (Below.alloc' (Below.self _) _) hb1
    have q0 := hR1.cell (i := 0) rfl
    have q1 := hR1.cell (i := 1) rfl
    have q2 := hR1.cell (i := 2) rfl
    have f0 := hR1.free 0
    have f1 := hR1.free 1
    have f2 := hR1.free 2
    go_wp2_with fail
    refine bodyPost_ret (bt_results _ w.heap.size 0 0 (.slice none 0 0) _ _ (((hR1.set 0 (.int .i64 0)).set 1 (.int .i64 0)).set 2 (.slice none 0 0)) rfl rfl) rfl ⟨.slice none 0 0, ?_, ?_, ?_⟩
    · rw [HF.out]; rfl
    · rw [HF.out]; exact ⟨rfl, .inl ⟨rfl, rfl⟩⟩
    · exact ((hbl1.setCell (p := ⟨w.heap.size, 0, none⟩) (Nat.le_refl _) _).setCell (p := ⟨w.heap.size, 1, none⟩) (Nat.le_refl _) _).setCell (p := ⟨w.heap.size, 2, none⟩) (Nat.le_refl _) _
  subst hb
  have htl : t.length ≤ 9223372036854775807 := Nat.le_trans (openK_len ho) hl
  have HO := Stow.mk ho
  rcases h1 : numM t 3 7 with ⟨n1, y1, b1⟩
  rcases h2 : numM t y1 1099511627776 with ⟨n2, y2, b2⟩
  rcases h3 : numM t y2 16 with ⟨n3, y3, b3⟩
  rcases h4 : spansAll t y3 n3 with ⟨L, b4⟩
  have H1 := Stow.mk h1
  have H2 := Stow.mk h2
  have H3 := Stow.mk h3
  have H4 := Stow.mk h4
  clear h1 h2 h3 h4 ho
  go_enter Tryz.func27, Tryz.ntmps27
  go_wp2_with fail
  refine (open_good l _ 1 t rfl _ hl HO.out).mono ?_
  rintro e w1 ⟨gb, ga, rfl, hB1, hA1, hga, hne, hb1⟩
  have hga0 : w.heap.size < ga := by simp at hga; omega
  have hR1 := hR0.kept hb1
  have hbl1 : Below w.heap.size w w1 := Below.call (Below.alloc' (Below.self _) _) hb1
  go_wp2_with fail
  refine (next_any gb ga t 3 _ 7 n1 b1 y1 rfl _ hB1 hA1 hne htl (by decide) H1.out).mono ?_
  rintro e w2 ⟨rfl, hA2, ho2⟩
  have hB2 := hB1.only ho2 hne
  have hR2 := hR1.only ho2 (by omega)
  have hbl2 : Below w.heap.size w w2 := Below.only' hbl1 ho2 (by omega)
  by_cases hb1 : b1 = 0
  rotate_left
  · have HF := Stow.mk (rd_bad (front_2 HO.out H1.out hb1) hb1)
    have hbn : ((b1 : Int) != 0) = true := by simp; omega
    have q0 := hR2.cell (i := 0) rfl
    have q1 := hR2.cell (i := 1) rfl
    have q2 := hR2.cell (i := 2) rfl
    have f0 := hR2.free 0
    have f1 := hR2.free 1
    have f2 := hR2.free 2
    go_wp2_with fail
    refine bodyPost_ret (bt_results _ w.heap.size 0 0 (.slice none 0 0) _ _ (((hR2.set 0 (.int .i64 0)).set 1 (.int .i64 0)).set 2 (.slice none 0 0)) rfl rfl) rfl ⟨.slice none 0 0, ?_, ?_, ?_⟩
    · rw [HF.out]; rfl
    · rw [HF.out]; exact ⟨rfl, .inl ⟨rfl, rfl⟩⟩
    · exact ((hbl2.setCell (p := ⟨w.heap.size, 0, none⟩) (Nat.le_refl _) _).setCell (p := ⟨w.heap.size, 1, none⟩) (Nat.le_refl _) _).setCell (p := ⟨w.heap.size, 2, none⟩) (Nat.le_refl _) _
  subst hb1
  rw [if_pos rfl] at hA2
  go_wp2_with fail
  refine (next_any gb ga t y1 _ 1099511627776 n2 b2 y2 rfl _ hB2 hA2 hne htl (by decide) H2.out).mono ?_
  rintro e w3 ⟨rfl, hA3, ho3⟩
  have hB3 := hB2.only ho3 hne
  have hR3 := hR2.only ho3 (by omega)
  have hbl3 : Below w.heap.size w w3 := Below.only' hbl2 ho3 (by omega)
  by_cases hb2 : b2 = 0
  rotate_left
  · have HF := Stow.mk (rd_bad (front_3 HO.out H1.out H2.out hb2) hb2)
    have hbn : ((b2 : Int) != 0) = true := by simp; omega
    have q0 := hR3.cell (i := 0) rfl
    have q1 := hR3.cell (i := 1) rfl
    have q2 := hR3.cell (i := 2) rfl
    have f0 := hR3.free 0
    have f1 := hR3.free 1
    have f2 := hR3.free 2
    go_wp2_with fail
    refine bodyPost_ret (bt_results _ w.heap.size 0 0 (.slice none 0 0) _ _ (((hR3.set 0 (.int .i64 0)).set 1 (.int .i64 0)).set 2 (.slice none 0 0)) rfl rfl) rfl ⟨.slice none 0 0, ?_, ?_, ?_⟩
    · rw [HF.out]; rfl
    · rw [HF.out]; exact ⟨rfl, .inl ⟨rfl, rfl⟩⟩
    · exact ((hbl3.setCell (p := ⟨w.heap.size, 0, none⟩) (Nat.le_refl _) _).setCell (p := ⟨w.heap.size, 1, none⟩) (Nat.le_refl _) _).setCell (p := ⟨w.heap.size, 2, none⟩) (Nat.le_refl _) _
  subst hb2
  rw [if_pos rfl] at hA3
  go_wp2_with fail
  refine (next_any gb ga t y2 _ 16 n3 b3 y3 rfl _ hB3 hA3 hne htl (by decide) H3.out).mono ?_
  rintro e w4 ⟨rfl, hA4, ho4⟩
  have hB4 := hB3.only ho4 hne
  have hR4 := hR3.only ho4 (by omega)
  have hbl4 : Below w.heap.size w w4 := Below.only' hbl3 ho4 (by omega)
  by_cases hb3 : b3 = 0
  rotate_left
  · have HF := Stow.mk (rd_many (front_4 HO.out H1.out H2.out) H3.out hb3)
    have hbn : ((b3 : Int) != 0) = true := by simp; omega
    have q0 := hR4.cell (i := 0) rfl
    have q1 := hR4.cell (i := 1) rfl
    have q2 := hR4.cell (i := 2) rfl
    have f0 := hR4.free 0
    have f1 := hR4.free 1
    have f2 := hR4.free 2
    go_wp2_with fail
    refine bodyPost_ret (bt_results _ w.heap.size 0 0 (.slice none 0 0) _ _ (((hR4.set 0 (.int .i64 0)).set 1 (.int .i64 0)).set 2 (.slice none 0 0)) rfl rfl) rfl ⟨.slice none 0 0, ?_, ?_, ?_⟩
    · rw [HF.out]; rfl
    · rw [HF.out]; exact ⟨rfl, .inl ⟨rfl, rfl⟩⟩
    · exact ((hbl4.setCell (p := ⟨w.heap.size, 0, none⟩) (Nat.le_refl _) _).setCell (p := ⟨w.heap.size, 1, none⟩) (Nat.le_refl _) _).setCell (p := ⟨w.heap.size, 2, none⟩) (Nat.le_refl _) _
  subst hb3
  have hy3 : y3 ≤ 9223372036854775807 ∧ n3 ≤ 16 := by
    obtain ⟨hg, hm⟩ := numM_ok H3.out
    obtain ⟨k, m, _, e, h, _⟩ := Vr.get_ok hg
    exact ⟨by omega, hm⟩
  obtain ⟨hy3, hn3⟩ := hy3
  have hsz4 := hR4.lt
  go_wp2_with fail
  refine (spans_any t y3 _ n3 rfl _ htl hy3 hn3).mono ?_
  rw [H4.out]
  rintro e w5 hsp
  obtain ⟨A, cap, rfl, hown, hb5⟩ := hsp.form
  clear hsp
  have hR5 := hR4.kept hb5
  have hbl5 : Below w.heap.size w w5 := Below.call hbl4 hb5
  by_cases hb4 : b4 = 0
  rotate_left
  · have HF := Stow.mk (rd_spans (front_4 HO.out H1.out H2.out) H3.out H4.out hb4)
    have hbn : ((b4 : Int) != 0) = true := by simp; omega
    have q0 := hR5.cell (i := 0) rfl
    have q1 := hR5.cell (i := 1) rfl
    have q2 := hR5.cell (i := 2) rfl
    have f0 := hR5.free 0
    have f1 := hR5.free 1
    have f2 := hR5.free 2
    go_wp2_with fail
    refine bodyPost_ret (bt_results _ w.heap.size 0 0 (.slice none 0 0) _ _ (((hR5.set 0 (.int .i64 0)).set 1 (.int .i64 0)).set 2 (.slice none 0 0)) rfl rfl) rfl ⟨.slice none 0 0, ?_, ?_, ?_⟩
    · rw [HF.out]; rfl
    · rw [HF.out]; exact ⟨rfl, .inl ⟨rfl, rfl⟩⟩
    · exact ((hbl5.setCell (p := ⟨w.heap.size, 0, none⟩) (Nat.le_refl _) _).setCell (p := ⟨w.heap.size, 1, none⟩) (Nat.le_refl _) _).setCell (p := ⟨w.heap.size, 2, none⟩) (Nat.le_refl _) _
  subst hb4
  have HF := Stow.mk (rd_good (front_4 HO.out H1.out H2.out) H3.out H4.out)
  have q0 := hR5.cell (i := 0) rfl
  have q1 := hR5.cell (i := 1) rfl
  have q2 := hR5.cell (i := 2) rfl
  have f0 := hR5.free 0
  have f1 := hR5.free 1
  have f2 := hR5.free 2
  go_wp2_with fail
  refine bodyPost_ret (bt_results _ w.heap.size n1 n2 (.slice A L.length cap) _ _ (((hR5.set 0 (.int .i64 n1)).set 1 (.int .i64 n2)).set 2 (.slice A L.length cap)) rfl rfl) rfl ⟨.slice A L.length cap, ?_, ?_, ?_⟩
  · rw [HF.out]; rfl
  · rw [HF.out]
    have hown2 := ownsRow_setCell_below (ownsRow_setCell_below (ownsRow_setCell_below hown (a := ⟨w.heap.size, 0, none⟩) hsz4 (.int .i64 n1)) (a := ⟨w.heap.size, 1, none⟩) hsz4 (.int .i64 n2)) (a := ⟨w.heap.size, 2, none⟩) hsz4 (.slice A L.length cap)
    exact own_base hown2 (by omega)
  · exact ((hbl5.setCell (p := ⟨w.heap.size, 0, none⟩) (Nat.le_refl _) _).setCell (p := ⟨w.heap.size, 1, none⟩) (Nat.le_refl _) _).setCell (p := ⟨w.heap.size, 2, none⟩) (Nat.le_refl _) _
end Go.Proofs.YtfbhdkkmcfnghaaGreat
end
