/- Walks of batch's Read and ReadAck. Condition: the text is no longer than an int can say. -/
import Derived.Test.YtkhepehgafijfaaBatchRead
namespace Go.Proofs.Ytkhepehgafijfaa
open Go.RowKit
set_option linter.unusedVariables false

theorem Held.only {w w' : World} {g ga : Nat} {cs : List Value} (h : Held w g cs) (ho : Only ga w w') (hne : g ≠ ga) : Held w' g cs := by
  have := h.lt
  obtain ⟨t, h⟩ := h
  exact ⟨t, (ho.block g this (by simpa using hne)).trans h⟩
theorem own_base {w : World} {B B' : Nat} {e : TypeId} {size : Nat} {v : Value} {n : Nat} {xs : List Value} (h : w.ownsRow B' e size v n xs) (hle : B ≤ B') : w.ownsRow B e size v n xs := by
  refine ⟨h.1, ?_⟩
  rcases h.2 with h | ⟨g, cap, cur, hv, hb, r⟩
  · exact .inl h
  · exact .inr ⟨g, cap, cur, hv, by omega, r⟩

theorem Below.only' {a b c : World} {g : Nat} (h : Below a.heap.size a b) (k : Only g b c) (hg : a.heap.size ≤ g) : Below a.heap.size a c := h.trans (k.below hg h.size)

section
variable {l t : List UInt8} {b n1 n2 n3 b1 b2 b3 b4 : Nat} {y1 y2 y3 : Int} {L : List Sp}
theorem front_1 {k : Nat} (h : openK l k = (t, b)) (hb : b ≠ 0) : front l k = ([], 0, 0, 0, b) := by simp [front, h, hb]
theorem front_2 {k : Nat} (h : openK l k = (t, 0)) (h1 : numM t 3 7 = (n1, y1, b1)) (hb : b1 ≠ 0) : front l k = ([], 0, 0, 0, b1) := by simp [front, h, h1, hb]
theorem front_3 {k : Nat} (h : openK l k = (t, 0)) (h1 : numM t 3 7 = (n1, y1, 0)) (h2 : numM t y1 1099511627776 = (n2, y2, b2)) (hb : b2 ≠ 0) : front l k = ([], 0, 0, 0, b2) := by simp [front, h, h1, h2, hb]
theorem front_4 {k : Nat} (h : openK l k = (t, 0)) (h1 : numM t 3 7 = (n1, y1, 0)) (h2 : numM t y1 1099511627776 = (n2, y2, 0)) : front l k = (t, n1, n2, y2, 0) := by simp [front, h, h1, h2]
theorem ack_bad {x : List UInt8} {p q : Nat} {r : Int} (h : front l 2 = (x, p, q, r, b)) (hb : b ≠ 0) : btReadAck l = (0, 0, b) := by simp [btReadAck, h, hb]
theorem ack_long (h : front l 2 = (t, n1, n2, y2, 0)) (hy : y2 ≠ t.length) : btReadAck l = (0, 0, 3) := by simp [btReadAck, h, hy]
theorem ack_good (h : front l 2 = (t, n1, n2, y2, 0)) (hy : y2 = t.length) : btReadAck l = (n1, n2, 0) := by simp [btReadAck, h, hy]
theorem rd_bad {x : List UInt8} {p q : Nat} {r : Int} (h : front l 1 = (x, p, q, r, b)) (hb : b ≠ 0) : btRead l = (0, 0, [], b) := by simp [btRead, h, hb]
theorem rd_many (h : front l 1 = (t, n1, n2, y2, 0)) (h3 : numM t y2 16 = (n3, y3, b3)) (hb : b3 ≠ 0) : btRead l = (0, 0, [], b3) := by simp [btRead, h, h3, hb]
theorem rd_spans (h : front l 1 = (t, n1, n2, y2, 0)) (h3 : numM t y2 16 = (n3, y3, 0)) (h4 : spansAll t y3 n3 = (L, b4)) (hb : b4 ≠ 0) : btRead l = (0, 0, [], b4) := by simp [btRead, h, h3, h4, hb]
theorem rd_good (h : front l 1 = (t, n1, n2, y2, 0)) (h3 : numM t y2 16 = (n3, y3, 0)) (h4 : spansAll t y3 n3 = (L, 0)) : btRead l = (n1, n2, L, 0) := by simp [btRead, h, h3, h4]
end
theorem openK_len {l t : List UInt8} {k : Nat} (h : openK l k = (t, 0)) : t.length ≤ l.length := by
  unfold openK at h
  rcases hu : unsl l with ⟨u, c⟩
  rw [hu] at h
  split at h
  · rename_i hc; simp only [Prod.mk.injEq] at h; exact absurd h.2 hc
  · split at h
    · simp at h
    · rename_i h1 h2
      simp only [Prod.mk.injEq] at h
      have : c = 0 := by simpa using h1
      subst this
      rw [← h.1]
      exact unsl_len hu


set_option maxHeartbeats 1000000 in
set_option maxRecDepth 100000 in
theorem readAck_any (l : List UInt8) (w : World) (hl : l.length ≤ 9223372036854775807) :
    Calls Try.prog 17 #[.string (bs l)] w fun e w' => e = .returned (.tuple #[.int .i64 ((btReadAck l).1 : Nat), .int .i64 ((btReadAck l).2.1 : Nat), .int .i64 ((btReadAck l).2.2 : Nat)]) ∧ Below w.heap.size w w' := by
  rcases ho : openK l 2 with ⟨t, b⟩
  by_cases hb : b = 0
  rotate_left
  · have HF := Stow.mk (ack_bad (front_1 ho hb) hb)
    have hbn : ((b : Int) != 0) = true := by simp; omega
    have HO := Stow.mk ho
    clear ho
    go_enter Try.func17, Try.ntmps17
    go_wp2_with fail
    refine (open_bad l _ 2 b t rfl _ hl HO.out hb).mono ?_
    rintro e w1 ⟨rfl, hb1⟩
    go_wp2_with fail
    go_ret3
    exact ⟨by rw [HF.out]; rfl, hb1⟩
  subst hb
  have htl : t.length ≤ 9223372036854775807 := Nat.le_trans (openK_len ho) hl
  have HO := Stow.mk ho
  rcases h1 : numM t 3 7 with ⟨n1, y1, b1⟩
  rcases h2 : numM t y1 1099511627776 with ⟨n2, y2, b2⟩
  have H1 := Stow.mk h1
  have H2 := Stow.mk h2
  clear h1 h2 ho
  go_enter Try.func17, Try.ntmps17
  go_wp2_with fail
  refine (open_good l _ 2 t rfl _ hl HO.out).mono ?_
  rintro e w1 ⟨gb, ga, rfl, hB1, hA1, hga, hne, hb1⟩
  have hsz1 := hb1.size
  go_wp2_with fail
  refine (next_any gb ga t 3 _ 7 n1 b1 y1 rfl _ hB1 hA1 hne htl (by decide) H1.out).mono ?_
  rintro e w2 ⟨rfl, hA2, ho2⟩
  have hB2 := hB1.only ho2 hne
  have hbl2 : Below w.heap.size w w2 := Below.only' hb1 ho2 hga
  by_cases hb1 : b1 = 0
  rotate_left
  · have HF := Stow.mk (ack_bad (front_2 HO.out H1.out hb1) hb1)
    have hbn : ((b1 : Int) != 0) = true := by simp; omega
    go_wp2_with fail
    go_ret3
    exact ⟨by rw [HF.out]; rfl, hbl2⟩
  subst hb1
  rw [if_pos rfl] at hA2
  go_wp2_with fail
  refine (next_any gb ga t y1 _ 1099511627776 n2 b2 y2 rfl _ hB2 hA2 hne htl (by decide) H2.out).mono ?_
  rintro e w3 ⟨rfl, hA3, ho3⟩
  have hB3 := hB2.only ho3 hne
  have hbl3 : Below w.heap.size w w3 := Below.only' hbl2 ho3 hga
  by_cases hb2 : b2 = 0
  rotate_left
  · have HF := Stow.mk (ack_bad (front_3 HO.out H1.out H2.out hb2) hb2)
    have hbn : ((b2 : Int) != 0) = true := by simp; omega
    go_wp2_with fail
    go_ret3
    exact ⟨by rw [HF.out]; rfl, hbl3⟩
  subst hb2
  by_cases hy : y2 = t.length
  · have HF := Stow.mk (ack_good (front_4 HO.out H1.out H2.out) hy)
    have hyn : (y2 != (t.length : Int)) = false := by simpa using hy
    have HY := Stow.mk hy
    clear hy
    go_wp2_with fail
    go_ret3
    exact ⟨by rw [HF.out]; rfl, hbl3⟩
  · have HF := Stow.mk (ack_long (front_4 HO.out H1.out H2.out) hy)
    have hyn : (y2 != (t.length : Int)) = true := by simpa using hy
    go_wp2_with fail
    go_ret3
    exact ⟨by rw [HF.out]; rfl, hbl3⟩

/-- What a function leaves that answers a batch, and an error. -/
def BatchOf (w : World) (x y : Int) (L : List Sp) (b : Nat) (e : Ending) (w' : World) : Prop :=
  ∃ v, e = .returned (.tuple #[.agg #[.int .i64 x, .int .i64 y, v], .int .i64 (b : Int)]) ∧ w'.ownsRow w.heap.size 46 11 v L.length (L.flatMap Sp.cells) ∧ Below w.heap.size w w'

theorem SpansOf.form {w w' : World} {L : List Sp} {b : Nat} {e : Ending} (h : SpansOf w L b e w') : ∃ A cap, e = .returned (.tuple #[.slice A L.length cap, .int .i64 (b : Int)]) ∧ w'.ownsRow w.heap.size 46 11 (.slice A L.length cap) L.length (L.flatMap Sp.cells) ∧ Below w.heap.size w w' := by
  obtain ⟨v, h1, h2, h3⟩ := h
  obtain ⟨A, cap, rfl⟩ := own_form h2
  exact ⟨A, cap, h1, h2, h3⟩

theorem bt_results (W : World) (g : Nat) (x y : Int) (v : Value) (b : Int) (tmps : Array Value) (hH : Held W g [.int .i64 x, .int .i64 y, v])
    (h2 : tmps[2]?.getD undef = .pointer (some ⟨g, 0, none⟩)) (h3 : tmps[3]?.getD undef = .int .i64 b) :
    (results Try.f15 tmps).run Try.prog W = .ok (.tuple #[.agg #[.int .i64 x, .int .i64 y, v], .int .i64 b]) W := by
  have c0 := hH.cell (i := 0) rfl
  have c1 := hH.cell (i := 1) rfl
  have c2 := hH.cell (i := 2) rfl
  simp [results, Try.results15, go_sem, h2, h3, c0, c1, c2]


set_option maxHeartbeats 1000000 in
set_option maxRecDepth 100000 in
theorem btRead_any (l : List UInt8) (w : World) (hl : l.length ≤ 9223372036854775807) :
    Calls Try.prog 15 #[.string (bs l)] w (BatchOf w (btRead l).1 (btRead l).2.1 (btRead l).2.2.1 (btRead l).2.2.2) := by
  have hR0 := Held.made w [.int .i64 0, .int .i64 0, .slice none 0 0] 24
  rcases ho : openK l 1 with ⟨t, b⟩
  by_cases hb : b = 0
  rotate_left
  · have HF := Stow.mk (rd_bad (front_1 ho hb) hb)
    have hbn : ((b : Int) != 0) = true := by simp; omega
    have HO := Stow.mk ho
    clear ho
    go_enter Try.func15, Try.ntmps15
    go_wp2_with fail
    refine (open_bad l _ 1 b t rfl _ hl HO.out hb).mono ?_
    rintro e w1 ⟨rfl, hb1⟩
    have hR1 := hR0.kept hb1
    have hbl1 : Below w.heap.size w w1 := Below.call (Below.alloc' (Below.self _) _) hb1
    have q0 := hR1.cell (i := 0) rfl
    have q1 := hR1.cell (i := 1) rfl
    have q2 := hR1.cell (i := 2) rfl
    have f0 := hR1.free 0
    have f1 := hR1.free 1
    have f2 := hR1.free 2
    go_wp2_with fail
    refine bodyPost_ret (bt_results _ w.heap.size 0 0 (.slice none 0 0) _ _ (((hR1.set 0 (.int .i64 0)).set 1 (.int .i64 0)).set 2 (.slice none 0 0)) rfl rfl) rfl ⟨.slice none 0 0, ?_, ?_, ?_⟩
    · rw [HF.out]; rfl
    · rw [HF.out]; exact ⟨rfl, .inl ⟨rfl, rfl⟩⟩
    · exact ((hbl1.setCell (p := ⟨w.heap.size, 0, none⟩) (Nat.le_refl _) _).setCell (p := ⟨w.heap.size, 1, none⟩) (Nat.le_refl _) _).setCell (p := ⟨w.heap.size, 2, none⟩) (Nat.le_refl _) _
  subst hb
  have htl : t.length ≤ 9223372036854775807 := Nat.le_trans (openK_len ho) hl
  have HO := Stow.mk ho
  rcases h1 : numM t 3 7 with ⟨n1, y1, b1⟩
  rcases h2 : numM t y1 1099511627776 with ⟨n2, y2, b2⟩
  rcases h3 : numM t y2 16 with ⟨n3, y3, b3⟩
  rcases h4 : spansAll t y3 n3 with ⟨L, b4⟩
  have H1 := Stow.mk h1
  have H2 := Stow.mk h2
  have H3 := Stow.mk h3
  have H4 := Stow.mk h4
  clear h1 h2 h3 h4 ho
  go_enter Try.func15, Try.ntmps15
  go_wp2_with fail
  refine (open_good l _ 1 t rfl _ hl HO.out).mono ?_
  rintro e w1 ⟨gb, ga, rfl, hB1, hA1, hga, hne, hb1⟩
  have hga0 : w.heap.size < ga := by simp at hga; omega
  have hR1 := hR0.kept hb1
  have hbl1 : Below w.heap.size w w1 := Below.call (Below.alloc' (Below.self _) _) hb1
  go_wp2_with fail
  refine (next_any gb ga t 3 _ 7 n1 b1 y1 rfl _ hB1 hA1 hne htl (by decide) H1.out).mono ?_
  rintro e w2 ⟨rfl, hA2, ho2⟩
  have hB2 := hB1.only ho2 hne
  have hR2 := hR1.only ho2 (by omega)
  have hbl2 : Below w.heap.size w w2 := Below.only' hbl1 ho2 (by omega)
  by_cases hb1 : b1 = 0
  rotate_left
  · have HF := Stow.mk (rd_bad (front_2 HO.out H1.out hb1) hb1)
    have hbn : ((b1 : Int) != 0) = true := by simp; omega
    have q0 := hR2.cell (i := 0) rfl
    have q1 := hR2.cell (i := 1) rfl
    have q2 := hR2.cell (i := 2) rfl
    have f0 := hR2.free 0
    have f1 := hR2.free 1
    have f2 := hR2.free 2
    go_wp2_with fail
    refine bodyPost_ret (bt_results _ w.heap.size 0 0 (.slice none 0 0) _ _ (((hR2.set 0 (.int .i64 0)).set 1 (.int .i64 0)).set 2 (.slice none 0 0)) rfl rfl) rfl ⟨.slice none 0 0, ?_, ?_, ?_⟩
    · rw [HF.out]; rfl
    · rw [HF.out]; exact ⟨rfl, .inl ⟨rfl, rfl⟩⟩
    · exact ((hbl2.setCell (p := ⟨w.heap.size, 0, none⟩) (Nat.le_refl _) _).setCell (p := ⟨w.heap.size, 1, none⟩) (Nat.le_refl _) _).setCell (p := ⟨w.heap.size, 2, none⟩) (Nat.le_refl _) _
  subst hb1
  rw [if_pos rfl] at hA2
  go_wp2_with fail
  refine (next_any gb ga t y1 _ 1099511627776 n2 b2 y2 rfl _ hB2 hA2 hne htl (by decide) H2.out).mono ?_
  rintro e w3 ⟨rfl, hA3, ho3⟩
  have hB3 := hB2.only ho3 hne
  have hR3 := hR2.only ho3 (by omega)
  have hbl3 : Below w.heap.size w w3 := Below.only' hbl2 ho3 (by omega)
  by_cases hb2 : b2 = 0
  rotate_left
  · have HF := Stow.mk (rd_bad (front_3 HO.out H1.out H2.out hb2) hb2)
    have hbn : ((b2 : Int) != 0) = true := by simp; omega
    have q0 := hR3.cell (i := 0) rfl
    have q1 := hR3.cell (i := 1) rfl
    have q2 := hR3.cell (i := 2) rfl
    have f0 := hR3.free 0
    have f1 := hR3.free 1
    have f2 := hR3.free 2
    go_wp2_with fail
    refine bodyPost_ret (bt_results _ w.heap.size 0 0 (.slice none 0 0) _ _ (((hR3.set 0 (.int .i64 0)).set 1 (.int .i64 0)).set 2 (.slice none 0 0)) rfl rfl) rfl ⟨.slice none 0 0, ?_, ?_, ?_⟩
    · rw [HF.out]; rfl
    · rw [HF.out]; exact ⟨rfl, .inl ⟨rfl, rfl⟩⟩
    · exact ((hbl3.setCell (p := ⟨w.heap.size, 0, none⟩) (Nat.le_refl _) _).setCell (p := ⟨w.heap.size, 1, none⟩) (Nat.le_refl _) _).setCell (p := ⟨w.heap.size, 2, none⟩) (Nat.le_refl _) _
  subst hb2
  rw [if_pos rfl] at hA3
  go_wp2_with fail
  refine (next_any gb ga t y2 _ 16 n3 b3 y3 rfl _ hB3 hA3 hne htl (by decide) H3.out).mono ?_
  rintro e w4 ⟨rfl, hA4, ho4⟩
  have hB4 := hB3.only ho4 hne
  have hR4 := hR3.only ho4 (by omega)
  have hbl4 : Below w.heap.size w w4 := Below.only' hbl3 ho4 (by omega)
  by_cases hb3 : b3 = 0
  rotate_left
  · have HF := Stow.mk (rd_many (front_4 HO.out H1.out H2.out) H3.out hb3)
    have hbn : ((b3 : Int) != 0) = true := by simp; omega
    have q0 := hR4.cell (i := 0) rfl
    have q1 := hR4.cell (i := 1) rfl
    have q2 := hR4.cell (i := 2) rfl
    have f0 := hR4.free 0
    have f1 := hR4.free 1
    have f2 := hR4.free 2
    go_wp2_with fail
    refine bodyPost_ret (bt_results _ w.heap.size 0 0 (.slice none 0 0) _ _ (((hR4.set 0 (.int .i64 0)).set 1 (.int .i64 0)).set 2 (.slice none 0 0)) rfl rfl) rfl ⟨.slice none 0 0, ?_, ?_, ?_⟩
    · rw [HF.out]; rfl
    · rw [HF.out]; exact ⟨rfl, .inl ⟨rfl, rfl⟩⟩
    · exact ((hbl4.setCell (p := ⟨w.heap.size, 0, none⟩) (Nat.le_refl _) _).setCell (p := ⟨w.heap.size, 1, none⟩) (Nat.le_refl _) _).setCell (p := ⟨w.heap.size, 2, none⟩) (Nat.le_refl _) _
  subst hb3
  have hy3 : y3 ≤ 9223372036854775807 ∧ n3 ≤ 16 := by
    obtain ⟨hg, hm⟩ := numM_ok H3.out
    obtain ⟨k, m, _, e, h, _⟩ := Vr.get_ok hg
    exact ⟨by omega, hm⟩
  obtain ⟨hy3, hn3⟩ := hy3
  have hsz4 := hR4.lt
  go_wp2_with fail
  refine (spans_any t y3 _ n3 rfl _ htl hy3 hn3).mono ?_
  rw [H4.out]
  rintro e w5 hsp
  obtain ⟨A, cap, rfl, hown, hb5⟩ := hsp.form
  clear hsp
  have hR5 := hR4.kept hb5
  have hbl5 : Below w.heap.size w w5 := Below.call hbl4 hb5
  by_cases hb4 : b4 = 0
  rotate_left
  · have HF := Stow.mk (rd_spans (front_4 HO.out H1.out H2.out) H3.out H4.out hb4)
    have hbn : ((b4 : Int) != 0) = true := by simp; omega
    have q0 := hR5.cell (i := 0) rfl
    have q1 := hR5.cell (i := 1) rfl
    have q2 := hR5.cell (i := 2) rfl
    have f0 := hR5.free 0
    have f1 := hR5.free 1
    have f2 := hR5.free 2
    go_wp2_with fail
    refine bodyPost_ret (bt_results _ w.heap.size 0 0 (.slice none 0 0) _ _ (((hR5.set 0 (.int .i64 0)).set 1 (.int .i64 0)).set 2 (.slice none 0 0)) rfl rfl) rfl ⟨.slice none 0 0, ?_, ?_, ?_⟩
    · rw [HF.out]; rfl
    · rw [HF.out]; exact ⟨rfl, .inl ⟨rfl, rfl⟩⟩
    · exact ((hbl5.setCell (p := ⟨w.heap.size, 0, none⟩) (Nat.le_refl _) _).setCell (p := ⟨w.heap.size, 1, none⟩) (Nat.le_refl _) _).setCell (p := ⟨w.heap.size, 2, none⟩) (Nat.le_refl _) _
  subst hb4
  have HF := Stow.mk (rd_good (front_4 HO.out H1.out H2.out) H3.out H4.out)
  have q0 := hR5.cell (i := 0) rfl
  have q1 := hR5.cell (i := 1) rfl
  have q2 := hR5.cell (i := 2) rfl
  have f0 := hR5.free 0
  have f1 := hR5.free 1
  have f2 := hR5.free 2
  go_wp2_with fail
  refine bodyPost_ret (bt_results _ w.heap.size n1 n2 (.slice A L.length cap) _ _ (((hR5.set 0 (.int .i64 n1)).set 1 (.int .i64 n2)).set 2 (.slice A L.length cap)) rfl rfl) rfl ⟨.slice A L.length cap, ?_, ?_, ?_⟩
  · rw [HF.out]; rfl
  · rw [HF.out]
    have hown2 := ownsRow_setCell_below (ownsRow_setCell_below (ownsRow_setCell_below hown (a := ⟨w.heap.size, 0, none⟩) hsz4 (.int .i64 n1)) (a := ⟨w.heap.size, 1, none⟩) hsz4 (.int .i64 n2)) (a := ⟨w.heap.size, 2, none⟩) hsz4 (.slice A L.length cap)
    exact own_base hown2 (by omega)
  · exact ((hbl5.setCell (p := ⟨w.heap.size, 0, none⟩) (Nat.le_refl _) _).setCell (p := ⟨w.heap.size, 1, none⟩) (Nat.le_refl _) _).setCell (p := ⟨w.heap.size, 2, none⟩) (Nat.le_refl _) _
end Go.Proofs.Ytkhepehgafijfaa
