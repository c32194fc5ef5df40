/- Walks of the reference's Number, front, Read and ReadAck. Condition: the text is no longer than 2^40.; Walks of the reference's Read and ReadAck. Condition: the text is no longer than 2^40.; Walks of the statements on batches: what is alike, what is small, the fixed calls. Condition: fields fit their types. -/
import Derived.Test.YtfbhdkkmcfnghaaGreatM18
import Derived.Test.YtfbhdkkmcfnghaaGreatM13
import Derived.Test.YtfbhdkkmcfnghaaGreatM14
import Derived.RegionTactic
import Derived.ChangeAlike
import Derived.Test.YtfbhdkkmcfnghaaGreatM17

section
namespace Go.Proofs.YtfbhdkkmcfnghaaGreat
open Go.RowKit
set_option linter.unusedVariables false

set_option maxHeartbeats 400000 in
set_option maxRecDepth 100000 in
theorem refNumM_any (l : List UInt8) (a x : Int) (most : Nat) (hx : x = most) (w : World) (hl : l.length ≤ 9223372036854775807) (ha2 : a ≤ 9223372036854775807) (hm : most ≤ 1099511627776) :
    Calls Tryz.prog 58 #[.string (bs l), .int .i64 a, .int .u64 x] w fun e w' => e = .returned (.tuple #[.int .i64 ((numM l a most).1 : Int), .int .i64 (numM l a most).2.1, .int .i64 ((numM l a most).2.2 : Int)]) ∧ w' = w := by
  subst hx
  obtain ⟨n, nx, e0, hg⟩ : ∃ n nx e0, Vr.get l a = (n, nx, e0) := ⟨_, _, _, rfl⟩
  have HG := Lib.hid hg
  by_cases he : e0 = 0
  · subst he
    by_cases hm : most < n
    · have HN : Stow (numM l a most = (0, 0, 12)) := ⟨by simp [numM, hg, hm]⟩
      clear hg
      go_enter Tryz.func58, Tryz.ntmps58
      go_wp2_with fail
      refine (refGet_any l a _ hl ha2).mono ?_
      rw [HG.out]
      rintro e w' ⟨rfl, rfl⟩
      go_wp2_with fail
      go_ret3
      exact ⟨by rw [HN.out]; rfl, rfl⟩
    · have HN : Stow (numM l a most = (n, nx, 0)) := ⟨by simp [numM, hg, hm]⟩
      clear hg
      have en : IntKind.i64.wrap (n : Int) = n := IntWalk.i64_in _ (by omega)
      go_enter Tryz.func58, Tryz.ntmps58
      go_wp2_with fail
      refine (refGet_any l a _ hl ha2).mono ?_
      rw [HG.out]
      rintro e w' ⟨rfl, rfl⟩
      go_wp2_with fail
      go_ret3
      exact ⟨by rw [HN.out]; rfl, rfl⟩
  · have HN : Stow (numM l a most = (0, 0, e0)) := ⟨by simp [numM, hg, he]⟩
    have hen : (((e0 : Nat) : Int) != 0) = true := by simp; omega
    clear hg
    go_enter Tryz.func58, Tryz.ntmps58
    go_wp2_with fail
    refine (refGet_any l a _ hl ha2).mono ?_
    rw [HG.out]
    rintro e w' ⟨rfl, rfl⟩
    go_wp2_with fail
    go_ret3
    exact ⟨by rw [HN.out]; rfl, rfl⟩

theorem openK_cases {l t : List UInt8} {k b : Nat} (h : openK l k = (t, b)) : ∃ u c, unsl l = (u, c) ∧ ((c ≠ 0 ∧ b = c) ∨ (c = 0 ∧ kindOf u ≠ k ∧ b = 3) ∨ (c = 0 ∧ kindOf u = k ∧ b = 0 ∧ u = t)) := by
  rcases hu : unsl l with ⟨u, c⟩
  refine ⟨u, c, rfl, ?_⟩
  unfold openK at h
  rw [hu] at h
  split at h <;> simp only [Prod.mk.injEq] at h
  · rename_i hc; exact .inl ⟨hc, h.2.symm⟩
  · rename_i hc
    have hc0 : c = 0 := by simpa using hc
    split at h <;> simp only [Prod.mk.injEq] at h
    · rename_i hk; exact .inr (.inl ⟨hc0, hk, h.2.symm⟩)
    · rename_i hk; exact .inr (.inr ⟨hc0, by simpa using hk, by omega, h.1⟩)

theorem numM_place {l : List UInt8} {a : Int} {most n : Nat} {y : Int} (hl : l.length ≤ 9223372036854775807) (h : numM l a most = (n, y, 0)) : y ≤ 9223372036854775807 ∧ n ≤ most := by
  obtain ⟨hg, hm⟩ := numM_ok h
  obtain ⟨k, m, _, e, h, _⟩ := Vr.get_ok hg
  exact ⟨by omega, hm⟩

/-- What front leaves. -/
def FrontOf (w : World) (t : List UInt8) (n1 n2 : Nat) (y : Int) (e : Ending) (w' : World) : Prop :=
  ∃ g, e = .returned (.tuple #[.string (bs t), .slice (some ⟨g, 0, none⟩) 2 2, .int .i64 y, .int .i64 0]) ∧ Held w' g [.int .i64 (n1 : Int), .int .i64 (n2 : Int)] ∧ w.heap.size ≤ g ∧ Below w.heap.size w w'

set_option maxHeartbeats 1000000 in
set_option maxRecDepth 100000 in
theorem front_bad (l : List UInt8) (x : Int) (k b n1 n2 : Nat) (t : List UInt8) (y : Int) (hx : x = k) (w : World) (hl : l.length ≤ 1099511627776) (h : front l k = (t, n1, n2, y, b)) (hb : b ≠ 0) :
    Calls Tryz.prog 57 #[.string (bs l), .int .i64 x] w fun e w' => e = .returned (.tuple #[.string (bs []), .slice none 0 0, .int .i64 0, .int .i64 b]) ∧ Below w.heap.size w w' := by
  subst hx
  have hbn : ((b : Int) != 0) = true := by simp; omega
  rcases ho : openK l k with ⟨u, c⟩
  obtain ⟨u', c', hu, hcase⟩ := openK_cases ho
  have HU := Stow.mk hu
  by_cases hc : c = 0
  rotate_left
  · have hcb : b = c := by rw [front_1 ho hc] at h; simp only [Prod.mk.injEq] at h; omega
    subst hcb
    rcases hcase with ⟨h1, rfl⟩ | ⟨rfl, hk, rfl⟩ | ⟨_, _, h1, _⟩
    · clear hu h ho
      go_enter Tryz.func57, Tryz.ntmps57
      go_wp2_with fail
      refine (refCrcOpen_any l _ hl).mono ?_
      rw [HU.out]
      rintro e w1 ⟨rfl, hb1⟩
      go_wp2_with fail
      refine bodyPost_ret (results_tmp4 rfl _ _ _) rfl ?_
      refine ⟨rfl, ?_⟩
      exact hb1
    · have hul := unsl_len hu
      obtain ⟨q, hq⟩ : ∃ q, kindOf u' = q := ⟨_, rfl⟩
      rw [hq] at hk
      have HQ := Stow.mk hq
      have hne : ((q : Int) != (k : Int)) = true := by simp; omega
      clear hu h ho hq
      go_enter Tryz.func57, Tryz.ntmps57
      go_wp2_with fail
      refine (refCrcOpen_any l _ hl).mono ?_
      rw [HU.out]
      rintro e w1 ⟨rfl, hb1⟩
      go_wp2_with fail
      refine (refKind_any u' _ (by omega)).mono ?_
      rw [HQ.out]
      rintro e w2 ⟨rfl, rfl⟩
      go_wp2_with fail
      refine bodyPost_ret (results_tmp4 rfl _ _ _) rfl ?_
      refine ⟨rfl, ?_⟩
      exact hb1
    · exact absurd h1 hc
  subst hc
  rcases hcase with ⟨h1, h2⟩ | ⟨_, _, h2⟩ | ⟨rfl, hk, _, rfl⟩
  · omega
  · omega
  have hul := unsl_len hu
  have HK := Stow.mk hk
  rcases g1 : numM u' 3 7 with ⟨m1, y1, b1⟩
  rcases g2 : numM u' y1 1099511627776 with ⟨m2, y2, b2⟩
  have G1 := Stow.mk g1
  have G2 := Stow.mk g2
  by_cases hb1 : b1 = 0
  rotate_left
  · have hcb : b = b1 := by rw [front_2 ho g1 hb1] at h; simp only [Prod.mk.injEq] at h; omega
    subst hcb
    clear hu h ho hk g1 g2
    go_enter Tryz.func57, Tryz.ntmps57
    go_wp2_with fail
    refine (refCrcOpen_any l _ hl).mono ?_
    rw [HU.out]
    rintro e w1 ⟨rfl, hb1⟩
    go_wp2_with fail
    refine (refKind_any u' _ (by omega)).mono ?_
    rw [HK.out]
    rintro e w2 ⟨rfl, rfl⟩
    go_wp2_with fail
    refine (refNumM_any u' 3 _ 7 rfl _ (by omega) (by omega) (by omega)).mono ?_
    rw [G1.out]
    rintro e w3 ⟨rfl, rfl⟩
    go_wp2_with fail
    refine bodyPost_ret (results_tmp4 rfl _ _ _) rfl ?_
    refine ⟨rfl, ?_⟩
    exact hb1
  subst hb1
  have hcb : b2 = b := by
    by_cases hb2 : b2 = 0
    · subst hb2; rw [front_4 ho g1 g2] at h; simp only [Prod.mk.injEq] at h; omega
    · rw [front_3 ho g1 g2 hb2] at h; simp only [Prod.mk.injEq] at h; omega
  subst hcb
  have hy1 := (numM_place (by omega) g1).1
  clear hu h ho hk g1 g2
  go_enter Tryz.func57, Tryz.ntmps57
  go_wp2_with fail
  refine (refCrcOpen_any l _ hl).mono ?_
  rw [HU.out]
  rintro e w1 ⟨rfl, hb1⟩
  go_wp2_with fail
  refine (refKind_any u' _ (by omega)).mono ?_
  rw [HK.out]
  rintro e w2 ⟨rfl, rfl⟩
  go_wp2_with fail
  refine (refNumM_any u' 3 _ 7 rfl _ (by omega) (by omega) (by omega)).mono ?_
  rw [G1.out]
  rintro e w3 ⟨rfl, rfl⟩
  go_wp2_with fail
  refine (refNumM_any u' y1 _ 1099511627776 rfl _ (by omega) (by omega) (by omega)).mono ?_
  rw [G2.out]
  rintro e w4 ⟨rfl, rfl⟩
  go_wp2_with fail
  refine bodyPost_ret (results_tmp4 rfl _ _ _) rfl ?_
  refine ⟨rfl, ?_⟩
  exact hb1

set_option maxHeartbeats 1000000 in
set_option maxRecDepth 100000 in
theorem front_good (l : List UInt8) (x : Int) (k n1 n2 : Nat) (t : List UInt8) (y : Int) (hx : x = k) (w : World) (hl : l.length ≤ 1099511627776) (h : front l k = (t, n1, n2, y, 0)) :
    Calls Tryz.prog 57 #[.string (bs l), .int .i64 x] w (FrontOf w t n1 n2 y) := by
  subst hx
  rcases ho : openK l k with ⟨u, c⟩
  obtain ⟨u', c', hu, hcase⟩ := openK_cases ho
  have HU := Stow.mk hu
  obtain rfl : c = 0 := by
    by_cases hc : c = 0
    · exact hc
    · rw [front_1 ho hc] at h; simp only [Prod.mk.injEq] at h; omega
  rcases hcase with ⟨h1, h2⟩ | ⟨_, _, h2⟩ | ⟨rfl, hk, _, rfl⟩
  · omega
  · omega
  have hul := unsl_len hu
  have HK := Stow.mk hk
  rcases g1 : numM u' 3 7 with ⟨m1, y1, b1⟩
  rcases g2 : numM u' y1 1099511627776 with ⟨m2, y2, b2⟩
  have G1 := Stow.mk g1
  have G2 := Stow.mk g2
  obtain rfl : b1 = 0 := by
    by_cases hc : b1 = 0
    · exact hc
    · rw [front_2 ho g1 hc] at h; simp only [Prod.mk.injEq] at h; omega
  obtain rfl : b2 = 0 := by
    by_cases hc : b2 = 0
    · exact hc
    · rw [front_3 ho g1 g2 hc] at h; simp only [Prod.mk.injEq] at h; omega
  rw [front_4 ho g1 g2] at h
  simp only [Prod.mk.injEq] at h
  obtain ⟨rfl, rfl, rfl, rfl, _⟩ := h
  have hy1 := (numM_place (by omega) g1).1
  clear hu ho hk g1 g2
  go_enter Tryz.func57, Tryz.ntmps57
  go_wp2_with fail
  refine (refCrcOpen_any l _ hl).mono ?_
  rw [HU.out]
  rintro e w1 ⟨rfl, hb1⟩
  go_wp2_with fail
  refine (refKind_any u' _ (by omega)).mono ?_
  rw [HK.out]
  rintro e w2 ⟨rfl, rfl⟩
  go_wp2_with fail
  refine (refNumM_any u' 3 _ 7 rfl _ (by omega) (by omega) (by omega)).mono ?_
  rw [G1.out]
  rintro e w3 ⟨rfl, rfl⟩
  go_wp2_with fail
  refine (refNumM_any u' y1 _ 1099511627776 rfl _ (by omega) (by omega) (by omega)).mono ?_
  rw [G2.out]
  rintro e w4 ⟨rfl, rfl⟩
  go_wp2_with fail
  refine bodyPost_ret (results_tmp4 rfl _ _ _) rfl ?_
  refine ⟨w4.heap.size, rfl, Held.made w4 [.int .i64 m1, .int .i64 m2] _, hb1.size, ?_⟩
  (repeat (first | exact Below.self _ | refine Below.alloc' ?_ _ | refine Below.drew ?_ | refine Below.drewN' ?_ _ | (refine Below.call ?_ (by assumption))))
end Go.Proofs.YtfbhdkkmcfnghaaGreat
end

section
namespace Go.Proofs.YtfbhdkkmcfnghaaGreat
open Go.RowKit
set_option linter.unusedVariables false

theorem held_below {w w' : World} {g B : Nat} {cs : List Value} (h : Held w g cs) (hb : Below B w w') (hg : g < B) : Held w' g cs := by
  obtain ⟨t, h⟩ := h
  exact ⟨t, (hb.block g hg).trans h⟩
theorem Held.far {w : World} {g : Nat} {cs : List Value} (h : Held w g cs) {p : Addr} (hp : g ≠ p.block) (u : Value) : Held (w.setCell p u) g cs := by
  obtain ⟨t, h⟩ := h
  exact ⟨t, (Below.heap_setCell w p u g hp).trans h⟩
theorem refBt_results (W : World) (g : Nat) (x y : Int) (v : Value) (b : Int) (tmps : Array Value) (hH : Held W g [.int .i64 x, .int .i64 y, v])
    (h2 : tmps[2]?.getD undef = .pointer (some ⟨g, 0, none⟩)) (h3 : tmps[3]?.getD undef = .int .i64 b) :
    (results Tryz.f31 tmps).run Tryz.prog W = .ok (.tuple #[.agg #[.int .i64 x, .int .i64 y, v], .int .i64 b]) W := by
  have c0 := hH.cell (i := 0) rfl
  have c1 := hH.cell (i := 1) rfl
  have c2 := hH.cell (i := 2) rfl
  simp [results, Tryz.results31, go_sem, h2, h3, c0, c1, c2]


set_option maxHeartbeats 2000000 in
set_option maxRecDepth 100000 in
theorem refBtRead_any (l : List UInt8) (w : World) (hl : l.length ≤ 1099511627776) :
    Calls Tryz.prog 31 #[.string (bs l)] w (BatchOf w (btRead l).1 (btRead l).2.1 (btRead l).2.2.1 (btRead l).2.2.2) := by
  have hR0 := Held.made w [.int .i64 0, .int .i64 0, .slice none 0 0] 56
  rcases hf : front l 1 with ⟨t, n1, n2, y, b⟩
  have HO := Stow.mk hf
  by_cases hb : b = 0
  rotate_left
  · have HF := Stow.mk (rd_bad hf hb)
    have hbn : ((b : Int) != 0) = true := by simp; omega
    clear hf
    go_enter Tryz.func31, Tryz.ntmps31
    go_wp2_with fail
    refine (front_bad l _ 1 b n1 n2 t y rfl _ hl HO.out hb).mono ?_
    rintro e w1 ⟨rfl, hb1⟩
    have hR1 := hR0.kept hb1
    have hbl1 : Below w.heap.size w w1 := Below.call (Below.alloc' (Below.self _) _) hb1
    have q0 := hR1.cell (i := 0) rfl
    have q1 := hR1.cell (i := 1) rfl
    have q2 := hR1.cell (i := 2) rfl
    have f0 := hR1.free 0
    have f1 := hR1.free 1
    have f2 := hR1.free 2
    go_wp2_with fail
    refine bodyPost_ret (refBt_results _ w.heap.size 0 0 (.slice none 0 0) _ _ (((hR1.set 0 (.int .i64 0)).set 1 (.int .i64 0)).set 2 (.slice none 0 0)) rfl rfl) rfl ⟨.slice none 0 0, ?_, ?_, ?_⟩
    · rw [HF.out]; rfl
    · rw [HF.out]; exact ⟨rfl, .inl ⟨rfl, rfl⟩⟩
    · exact ((hbl1.setCell (p := ⟨w.heap.size, 0, none⟩) (Nat.le_refl _) _).setCell (p := ⟨w.heap.size, 1, none⟩) (Nat.le_refl _) _).setCell (p := ⟨w.heap.size, 2, none⟩) (Nat.le_refl _) _
  subst hb
  have htl : t.length ≤ 1099511627776 ∧ y ≤ 9223372036854775807 := by
    rcases ho : openK l 1 with ⟨u, c⟩
    have hc : c = 0 := by
      by_cases hc : c = 0
      · exact hc
      · rw [front_1 ho hc] at hf; simp only [Prod.mk.injEq] at hf; omega
    subst hc
    rcases g1 : numM u 3 7 with ⟨m1, y1, b1⟩
    rcases g2 : numM u y1 1099511627776 with ⟨m2, y2, b2⟩
    obtain rfl : b1 = 0 := by
      by_cases hc : b1 = 0
      · exact hc
      · rw [front_2 ho g1 hc] at hf; simp only [Prod.mk.injEq] at hf; omega
    obtain rfl : b2 = 0 := by
      by_cases hc : b2 = 0
      · exact hc
      · rw [front_3 ho g1 g2 hc] at hf; simp only [Prod.mk.injEq] at hf; omega
    rw [front_4 ho g1 g2] at hf
    simp only [Prod.mk.injEq] at hf
    obtain ⟨rfl, rfl, rfl, rfl, _⟩ := hf
    have hul := openK_len ho
    exact ⟨by omega, (numM_place (by omega) g2).1⟩
  obtain ⟨htl, hyl⟩ := htl
  rcases h3 : numM t y 16 with ⟨n3, y3, b3⟩
  have H3 := Stow.mk h3
  by_cases hb3 : b3 = 0
  rotate_left
  · have HF := Stow.mk (rd_many hf h3 hb3)
    have hbn : ((b3 : Int) != 0) = true := by simp; omega
    clear hf h3
    go_enter Tryz.func31, Tryz.ntmps31
    go_wp2_with fail
    refine (front_good l _ 1 n1 n2 t y rfl _ hl HO.out).mono ?_
    rintro e w1 ⟨g, rfl, hH, hg, hb1⟩
    have hR1 := hR0.kept hb1
    have hbl1 : Below w.heap.size w w1 := Below.call (Below.alloc' (Below.self _) _) hb1
    go_wp2_with fail
    refine (refNumM_any t y _ 16 rfl _ (by omega) (by omega) (by omega)).mono ?_
    rw [H3.out]
    rintro e w2 ⟨rfl, rfl⟩
    have q0 := hR1.cell (i := 0) rfl
    have q1 := hR1.cell (i := 1) rfl
    have q2 := hR1.cell (i := 2) rfl
    have f0 := hR1.free 0
    have f1 := hR1.free 1
    have f2 := hR1.free 2
    go_wp2_with fail
    refine bodyPost_ret (refBt_results _ w.heap.size 0 0 (.slice none 0 0) _ _ (((hR1.set 0 (.int .i64 0)).set 1 (.int .i64 0)).set 2 (.slice none 0 0)) rfl rfl) rfl ⟨.slice none 0 0, ?_, ?_, ?_⟩
    · rw [HF.out]; rfl
    · rw [HF.out]; exact ⟨rfl, .inl ⟨rfl, rfl⟩⟩
    · exact ((hbl1.setCell (p := ⟨w.heap.size, 0, none⟩) (Nat.le_refl _) _).setCell (p := ⟨w.heap.size, 1, none⟩) (Nat.le_refl _) _).setCell (p := ⟨w.heap.size, 2, none⟩) (Nat.le_refl _) _
  subst hb3
  obtain ⟨hy3, hn3⟩ := numM_place (by omega) h3
  obtain ⟨R, hR⟩ : ∃ R, spansR t n3 [] y3 = R := ⟨_, rfl⟩
  have HALL : Stow (spansAll t y3 n3 = if R.2.2 ≠ 0 then ([], R.2.2) else if R.2.1 ≠ t.length then ([], 3) else if n3 = 0 then ([], 9) else (R.1, 0)) := ⟨by unfold spansAll; rw [hR]⟩
  have HR := Stow.mk hR
  clear hR hf h3
  go_enter Tryz.func31, Tryz.ntmps31
  go_wp2_with fail
  refine (front_good l _ 1 n1 n2 t y rfl _ hl HO.out).mono ?_
  rintro e w1 ⟨g, rfl, hH, hg, hb1⟩
  have hR1 := hR0.kept hb1
  have hbl1 : Below w.heap.size w w1 := Below.call (Below.alloc' (Below.self _) _) hb1
  go_wp2_with fail
  refine (refNumM_any t y _ 16 rfl _ (by omega) (by omega) (by omega)).mono ?_
  rw [H3.out]
  rintro e w2 ⟨rfl, rfl⟩
  have q0 := hH.cell (i := 0) rfl
  have q1 := hH.cell (i := 1) rfl
  go_wp2_with fail
  have hgl := hH.lt
  have hgn : g ≠ w2.heap.size := by omega
  go_region
  go_wp2_with fail
  clear q0 q1
  have hlt1 := hR1.lt
  go_loopw [6, 10, 11, 12, 13] (fun p v _ _ _ wr => ∃ (j : Nat) (acc : List Sp) (a : Int) (A : Option Addr) (cap : Nat), v = .int .i64 j ∧ j ≤ n3 ∧ acc.length = j ∧ p = .int .i64 a ∧ a ≤ 9223372036854775807 ∧ Stow (spansR t (n3 - j) acc a = R) ∧
      Held wr w2.heap.size [.int .i64 (n1 : Int), .int .i64 (n2 : Int), .slice A acc.length cap] ∧ wr.ownsRow (w2.heap.size + 1) 64 11 (.slice A acc.length cap) acc.length (acc.flatMap Sp.cells) ∧ Held wr w.heap.size [.int .i64 0, .int .i64 0, .slice none 0 0] ∧ Below w.heap.size w wr)
    (fun _ v _ _ _ _ => n3 - (intOf v).toNat)
  case atStart =>
    refine ⟨0, [], y3, none, 0, rfl, by omega, rfl, rfl, hy3, ⟨by rw [← HR.out]; rfl⟩, ?_, World.ownsRow_nil _ _ _ _, ?_, ?_⟩
    · exact (Held.made w2 [.int .i64 (n1 : Int), .int .i64 (n2 : Int), .slice none 0 0] _).drew
    · exact (hR1.kept (Below.alloc' (Below.self _) _)).drew
    · exact (Below.alloc' hbl1 _).drew
  case round =>
    obtain ⟨j, acc, a, A, cap, rfl, hj, hacc, rfl, ha2, HJ, hHb, hown, hHr, hbr⟩ := hrel
    have hal : acc.length ≤ 16 := by omega
    have HACC := Stow.mk hacc
    clear hacc
    have hltb := hHb.lt
    by_cases hlt : j < n3
    · rcases hs : readSpan t a with ⟨s, z, e⟩
      have HS : Stow (readRef t a = (s, z, e)) := ⟨by rw [← read_same t a (by omega), hs]⟩
      by_cases he : e = 0
      · subst he
        have hay : ∃ y' : Nat, z = (y' : Int) ∧ y' ≤ t.length := by
          by_cases hneg : a < 0
          · rw [readSpan_neg hneg] at hs; simp at hs
          · obtain ⟨k, rfl⟩ := Int.eq_ofNat_of_zero_le (by omega : 0 ≤ a)
            obtain ⟨m, h1, h2, _⟩ := span_fwdk (by omega) hs
            exact ⟨k + m, h1, h2⟩
        obtain ⟨y', rfl, hy'⟩ := hay
        have HJ2 : Stow (spansR t (n3 - (j + 1)) (acc ++ [s]) (y' : Int) = R) := ⟨by rw [← HJ.out, show n3 - j = (n3 - (j + 1)) + 1 by omega, spansR_snoc hs]⟩
        clear hs HJ
        obtain ⟨hi, lo, id, up, name, st, sq, kd, sh, t0, t1⟩ := s
        go_wp2_with fail
        refine (refRead_any t a _ (by omega) ha2).mono ?_
        rw [HS.out]
        simp only [Sp.val]
        rintro e w3 ⟨rfl, hb3⟩
        have hown3 := (own_kept hown hb3).alloc (.cells #[.int .u64 (hi : Int), .int .u64 (lo : Int), .int .u64 (id : Int), .int .u64 (up : Int), .string (bs name), .int .i64 st, .int .i64 sq, .int .i64 kd, .bool sh, .int .i64 t0, .int .i64 t1] 64)
        have hB3 : w2.heap.size + 1 ≤ w3.heap.size := by have := hb3.size; omega
        have hHb3 := hHb.kept hb3
        have hHr3 := hHr.kept hb3
        have c2 := hHb3.cell (i := 2) rfl
        have f2 := hHb3.free 2
        have hbw : Below w.heap.size w (w3.alloc (.cells #[.int .u64 (hi : Int), .int .u64 (lo : Int), .int .u64 (id : Int), .int .u64 (up : Int), .string (bs name), .int .i64 st, .int .i64 sq, .int .i64 kd, .bool sh, .int .i64 t0, .int .i64 t1] 64)) := Below.alloc' (Below.call hbr hb3) _
        clear hown
        have k1 : ∀ u ∈ ([.int .u64 (hi : Int), .int .u64 (lo : Int), .int .u64 (id : Int), .int .u64 (up : Int), .string (bs name), .int .i64 st, .int .i64 sq, .int .i64 kd, .bool sh, .int .i64 t0, .int .i64 t1] : List Value), u.oneCell' = true := by simp [Value.oneCell']
        have k2 : (acc.length + 1) * 96 ≤ 140737488355328 := by omega
        have k3 : acc.length + 1 ≤ maxLen := by unfold maxLen; omega
        have k4 : w2.heap.size + 1 ≤ (w3.alloc (.cells #[.int .u64 (hi : Int), .int .u64 (lo : Int), .int .u64 (id : Int), .int .u64 (up : Int), .string (bs name), .int .i64 st, .int .i64 sq, .int .i64 kd, .bool sh, .int .i64 t0, .int .i64 t1] 64)).heap.size := by simp; omega
        have k5 : w3.heap.size + 1 = (w3.alloc (.cells #[.int .u64 (hi : Int), .int .u64 (lo : Int), .int .u64 (id : Int), .int .u64 (up : Int), .string (bs name), .int .i64 st, .int .i64 sq, .int .i64 kd, .bool sh, .int .i64 t0, .int .i64 t1] 64)).heap.size := by simp
        have K5 := Stow.mk k5
        have K1 := Stow.mk k1
        have K4 := Stow.mk k4
        have HO3 := Stow.mk hown3
        clear k1 k5 k4 hown3
        have hlt2 : w2.heap.size < w3.heap.size := by omega
        go_wp2_with (at_builtin; refine wpList_append_elem_form _ _ _ rfl (.tmp 60) (.tmp 62) 38 rfl (w2.heap.size + 1) 64 _ 11 96 Tryz.underlying38 info_span _ _ _ HO3.out rfl _ rfl K5.out rfl (by decide) rfl K1.out k2 k3 K4.out ?_; intro A4 cap4 w4 hown4 hg4 hb4 hs4; have hHb4 : Held w4 w2.heap.size [.int .i64 (n1 : Int), .int .i64 (n2 : Int), .slice A acc.length cap] := held_below (hHb3.kept (Below.alloc' (Below.self _) _)) hb4 (by omega); have c4 := hHb4.cell (i := 2) rfl; have f4 := hHb4.free 2; clear c2 f2)
        have hHr4 : Held w4 w.heap.size [.int .i64 0, .int .i64 0, .slice none 0 0] := held_below (hHr3.kept (Below.alloc' (Below.self _) _)) hb4 (by omega)
        have hlen : ∀ x : Sp, (acc ++ [x]).length = acc.length + 1 := fun x => by simp
        refine ⟨⟨j + 1, acc ++ [⟨hi, lo, id, up, name, st, sq, kd, sh, t0, t1⟩], y', A4, cap4, rfl, by omega, by rw [hlen, HACC.out], rfl, by omega, HJ2, ?_, ?_, ?_, ?_⟩, by simp [intOf]; omega⟩
        · rw [hlen]; exact hHb4.set 2 (.slice A4 (acc.length + 1) cap4)
        · rw [hlen, spans_next]; exact ownsRow_setCell_below hown4 (a := ⟨w2.heap.size, 2, none⟩) (by simp) _
        · exact hHr4.far (p := ⟨w2.heap.size, 2, none⟩) (by simp; omega) _
        · exact (Below.trans hbw (hb4.mono (by omega))).setCell (p := ⟨w2.heap.size, 2, none⟩) (by simp; omega) _
      · have hen : ((e : Int) != 0) = true := by simp; omega
        have HRR : Stow (R = ([], 0, e)) := ⟨by rw [← HJ.out, show n3 - j = (n3 - (j + 1)) + 1 by omega, spansR_bad hs he]⟩
        have HF0 : Stow (spansAll t y3 n3 = ([], e)) := ⟨by rw [HALL.out, HRR.out, if_pos he]⟩
        have HF := Stow.mk (rd_spans HO.out H3.out HF0.out he)
        clear hs HJ
        obtain ⟨hi, lo, id, up, name, st, sq, kd, sh, t0, t1⟩ := s
        go_wp2_with fail
        refine (refRead_any t a _ (by omega) ha2).mono ?_
        rw [HS.out]
        simp only [Sp.val]
        rintro e w3 ⟨rfl, hb3⟩
        have hHr3 := hHr.kept hb3
        have hbl3 : Below w.heap.size w w3 := Below.call hbr hb3
        have hltX : w.heap.size < w3.heap.size := hHr3.lt
        have z0 := hHr3.cell (i := 0) rfl
        have z1 := hHr3.cell (i := 1) rfl
        have z2 := hHr3.cell (i := 2) rfl
        have y0 := hHr3.free 0
        have y1 := hHr3.free 1
        have y2 := hHr3.free 2
        go_wp2_with fail
        refine bodyPost_ret (refBt_results _ w.heap.size 0 0 (.slice none 0 0) _ _ ((((hHr3.set 0 (.int .i64 0)).set 1 (.int .i64 0)).set 2 (.slice none 0 0)).kept (Below.alloc' (Below.self _) _)) rfl rfl) rfl ⟨.slice none 0 0, ?_, ?_, ?_⟩
        · rw [HF.out]; rfl
        · rw [HF.out]; exact ⟨rfl, .inl ⟨rfl, rfl⟩⟩
        · exact Below.alloc' (((hbl3.setCell (p := ⟨w.heap.size, 0, none⟩) (Nat.le_refl _) _).setCell (p := ⟨w.heap.size, 1, none⟩) (Nat.le_refl _) _).setCell (p := ⟨w.heap.size, 2, none⟩) (Nat.le_refl _) _) _
    · obtain rfl : j = n3 := by omega
      have hRR : R = (acc, a, 0) := by rw [← HJ.out, Nat.sub_self]; rfl
      have HRR := Stow.mk hRR
      clear hRR
      by_cases ha3 : a = t.length
      · have hd : (a != (t.length : Int)) = false := by simpa using ha3
        by_cases hm0 : j = 0
        · have hd0 : ((j : Int) == 0) = true := by simp; omega
          have HF0 : Stow (spansAll t y3 j = ([], 9)) := ⟨by rw [HALL.out, HRR.out]; simp [ha3, hm0]⟩
          have HF := Stow.mk (rd_spans HO.out H3.out HF0.out (by omega))
          have q0 := hHr.cell (i := 0) rfl
          have q1 := hHr.cell (i := 1) rfl
          have q2 := hHr.cell (i := 2) rfl
          have f0 := hHr.free 0
          have f1 := hHr.free 1
          have f2 := hHr.free 2
          go_wp2_with fail
          refine bodyPost_ret (refBt_results _ w.heap.size 0 0 (.slice none 0 0) _ _ (((hHr.set 0 (.int .i64 0)).set 1 (.int .i64 0)).set 2 (.slice none 0 0)) rfl rfl) rfl ⟨.slice none 0 0, ?_, ?_, ?_⟩
          · rw [HF.out]; rfl
          · rw [HF.out]; exact ⟨rfl, .inl ⟨rfl, rfl⟩⟩
          · exact ((hbr.setCell (p := ⟨w.heap.size, 0, none⟩) (Nat.le_refl _) _).setCell (p := ⟨w.heap.size, 1, none⟩) (Nat.le_refl _) _).setCell (p := ⟨w.heap.size, 2, none⟩) (Nat.le_refl _) _
        · have hd0 : ((j : Int) == 0) = false := by simp; omega
          have HF0 : Stow (spansAll t y3 j = (acc, 0)) := ⟨by rw [HALL.out, HRR.out]; simp [ha3, hm0]⟩
          have HF := Stow.mk (rd_good HO.out H3.out HF0.out)
          have q0 := hHr.cell (i := 0) rfl
          have q1 := hHr.cell (i := 1) rfl
          have q2 := hHr.cell (i := 2) rfl
          have f0 := hHr.free 0
          have f1 := hHr.free 1
          have f2 := hHr.free 2
          have p0 := hHb.cell (i := 0) rfl
          have p1 := hHb.cell (i := 1) rfl
          have p2 := hHb.cell (i := 2) rfl
          go_wp2_with fail
          refine bodyPost_ret (refBt_results _ w.heap.size n1 n2 (.slice A acc.length cap) _ _ (((hHr.set 0 (.int .i64 n1)).set 1 (.int .i64 n2)).set 2 (.slice A acc.length cap)) rfl rfl) rfl ⟨.slice A acc.length cap, ?_, ?_, ?_⟩
          · rw [HF.out]; rfl
          · rw [HF.out]
            have hown2 := ownsRow_setCell_below (ownsRow_setCell_below (ownsRow_setCell_below hown (a := ⟨w.heap.size, 0, none⟩) (by simp; omega) (.int .i64 n1)) (a := ⟨w.heap.size, 1, none⟩) (by simp; omega) (.int .i64 n2)) (a := ⟨w.heap.size, 2, none⟩) (by simp; omega) (.slice A acc.length cap)
            exact own_base hown2 (by omega)
          · exact ((hbr.setCell (p := ⟨w.heap.size, 0, none⟩) (Nat.le_refl _) _).setCell (p := ⟨w.heap.size, 1, none⟩) (Nat.le_refl _) _).setCell (p := ⟨w.heap.size, 2, none⟩) (Nat.le_refl _) _
      · have hd : (a != (t.length : Int)) = true := by simpa using ha3
        have HF0 : Stow (spansAll t y3 j = ([], 3)) := ⟨by rw [HALL.out, HRR.out]; simp [ha3]⟩
        have HF := Stow.mk (rd_spans HO.out H3.out HF0.out (by omega))
        have q0 := hHr.cell (i := 0) rfl
        have q1 := hHr.cell (i := 1) rfl
        have q2 := hHr.cell (i := 2) rfl
        have f0 := hHr.free 0
        have f1 := hHr.free 1
        have f2 := hHr.free 2
        go_wp2_with fail
        refine bodyPost_ret (refBt_results _ w.heap.size 0 0 (.slice none 0 0) _ _ (((hHr.set 0 (.int .i64 0)).set 1 (.int .i64 0)).set 2 (.slice none 0 0)) rfl rfl) rfl ⟨.slice none 0 0, ?_, ?_, ?_⟩
        · rw [HF.out]; rfl
        · rw [HF.out]; exact ⟨rfl, .inl ⟨rfl, rfl⟩⟩
        · exact ((hbr.setCell (p := ⟨w.heap.size, 0, none⟩) (Nat.le_refl _) _).setCell (p := ⟨w.heap.size, 1, none⟩) (Nat.le_refl _) _).setCell (p := ⟨w.heap.size, 2, none⟩) (Nat.le_refl _) _
end Go.Proofs.YtfbhdkkmcfnghaaGreat
end

section
namespace Go.Proofs.YtfbhdkkmcfnghaaGreat
open Go.RowKit
set_option linter.unusedVariables false

set_option maxHeartbeats 1000000 in
set_option maxRecDepth 100000 in
theorem sameSpans_any (L : List Sp) (A A' : Option Addr) (cap cap' : Nat) (w : World) (hS : SlR w 11 (.slice A L.length cap) (L.map Sp.cells)) (hS' : SlR w 11 (.slice A' L.length cap') (L.map Sp.cells)) :
    Calls Tryz.prog 38 #[.slice A L.length cap, .slice A' L.length cap'] w fun e w' => e = .returned (.bool true) ∧ Below w.heap.size w w' := by
  have HS := Stow.mk hS
  have HS' := Stow.mk hS'
  have hlen := hS.len
  simp only [List.length_map] at hlen
  clear hS hS'
  by_cases h0 : L.length = 0
  · obtain rfl := List.eq_nil_of_length_eq_zero h0
    simp only [List.length_nil]
    clear HS HS' hlen h0
    go_enter Tryz.func38, Tryz.ntmps38
    go_wp2_with fail
    go_loopw [5] (fun v wr => v = .int .i64 0 ∧ Below w.heap.size w wr) (fun _ _ => 0)
    case atStart => exact ⟨rfl, Below.self _⟩
    case round =>
      obtain ⟨rfl, hbr⟩ := hrel
      go_wp2_with fail
      go_ret
      exact ⟨rfl, hbr⟩
  obtain ⟨b, off, rfl, hblt, _⟩ := HS.out.open (by simp; omega)
  obtain ⟨b', off', rfl, hblt', _⟩ := HS'.out.open (by simp; omega)
  clear h0
  go_enter Tryz.func38, Tryz.ntmps38
  go_wp2_with fail
  go_loopw [5] (fun v wr => ∃ j : Nat, v = .int .i64 j ∧ j ≤ L.length ∧ Below w.heap.size w wr) (fun v _ => L.length - (intOf v).toNat)
  case atStart => exact ⟨0, rfl, by omega, Below.self _⟩
  case round =>
    obtain ⟨j, rfl, hj, hbr⟩ := hrel
    by_cases hlt : j < L.length
    · have hsp := span_at (HS.out.keep hbr) hlt
      have hsp' := span_at (HS'.out.keep hbr) hlt
      obtain ⟨s, hs⟩ : ∃ s, L[j] = s := ⟨_, rfl⟩
      rw [hs] at hsp hsp'
      clear hs
      obtain ⟨hi, lo, id, up, name, st, sq, kd, sh, t0, t1⟩ := s
      obtain ⟨hltb, q0, q1, q2, q3, q4, q5, q6, q7, q8, q9, q10⟩ := hsp
      obtain ⟨hltb', p0, p1, p2, p3, p4, p5, p6, p7, p8, p9, p10⟩ := hsp'
      simp only at q0 q1 q2 q3 q4 q5 q6 q7 q8 q9 q10 p0 p1 p2 p3 p4 p5 p6 p7 p8 p9 p10
      have hji : (j : Int) < L.length := by omega
      go_wp2_with fail
      go_quiet (fail)
      go_wp2_with fail
      exact ⟨⟨j + 1, rfl, by omega, Below.drewN' hbr _⟩, by simp [intOf]; omega⟩
    · obtain rfl : j = L.length := by omega
      go_wp2_with fail
      go_ret
      exact ⟨rfl, hbr⟩

/-- What the statements call small. -/
def fewB (L : List Sp) : Bool := decide (L.length ≤ 40) && L.all fun s => decide (s.name.length ≤ 200)

end Go.Proofs.YtfbhdkkmcfnghaaGreat
end
