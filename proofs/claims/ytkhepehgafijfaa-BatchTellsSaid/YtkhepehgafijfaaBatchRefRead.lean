/- Walks of the reference's Number, front, Read and ReadAck. Condition: the text is no longer than 2^40. -/
import Derived.Test.YtkhepehgafijfaaBatchReadFn
import Derived.Test.YtkhepehgafijfaaSpanRefRead
import Derived.Test.YtkhepehgafijfaaSpanSame
import Derived.RegionTactic
import Derived.ChangeAlike
namespace Go.Proofs.Ytkhepehgafijfaa
open Go.RowKit
set_option linter.unusedVariables false

set_option maxHeartbeats 400000 in
set_option maxRecDepth 100000 in
theorem refNumM_any (l : List UInt8) (a x : Int) (most : Nat) (hx : x = most) (w : World) (hl : l.length ≤ 9223372036854775807) (ha2 : a ≤ 9223372036854775807) (hm : most ≤ 1099511627776) :
    Calls Try.prog 35 #[.string (bs l), .int .i64 a, .int .u64 x] w fun e w' => e = .returned (.tuple #[.int .i64 ((numM l a most).1 : Int), .int .i64 (numM l a most).2.1, .int .i64 ((numM l a most).2.2 : Int)]) ∧ w' = w := by
  subst hx
  obtain ⟨n, nx, e0, hg⟩ : ∃ n nx e0, Vr.get l a = (n, nx, e0) := ⟨_, _, _, rfl⟩
  have HG := Lib.hid hg
  by_cases he : e0 = 0
  · subst he
    by_cases hm : most < n
    · have HN : Stow (numM l a most = (0, 0, 12)) := ⟨by simp [numM, hg, hm]⟩
      clear hg
      go_enter Try.func35, Try.ntmps35
      go_wp2_with fail
      refine (refGet_any l a _ hl ha2).mono ?_
      rw [HG.out]
      rintro e w' ⟨rfl, rfl⟩
      go_wp2_with fail
      go_ret3
      exact ⟨by rw [HN.out]; rfl, rfl⟩
    · have HN : Stow (numM l a most = (n, nx, 0)) := ⟨by simp [numM, hg, hm]⟩
      clear hg
      have en : IntKind.i64.wrap (n : Int) = n := IntWalk.i64_in _ (by omega)
      go_enter Try.func35, Try.ntmps35
      go_wp2_with fail
      refine (refGet_any l a _ hl ha2).mono ?_
      rw [HG.out]
      rintro e w' ⟨rfl, rfl⟩
      go_wp2_with fail
      go_ret3
      exact ⟨by rw [HN.out]; rfl, rfl⟩
  · have HN : Stow (numM l a most = (0, 0, e0)) := ⟨by simp [numM, hg, he]⟩
    have hen : (((e0 : Nat) : Int) != 0) = true := by simp; omega
    clear hg
    go_enter Try.func35, Try.ntmps35
    go_wp2_with fail
    refine (refGet_any l a _ hl ha2).mono ?_
    rw [HG.out]
    rintro e w' ⟨rfl, rfl⟩
    go_wp2_with fail
    go_ret3
    exact ⟨by rw [HN.out]; rfl, rfl⟩

theorem openK_cases {l t : List UInt8} {k b : Nat} (h : openK l k = (t, b)) : ∃ u c, unsl l = (u, c) ∧ ((c ≠ 0 ∧ b = c) ∨ (c = 0 ∧ kindOf u ≠ k ∧ b = 3) ∨ (c = 0 ∧ kindOf u = k ∧ b = 0 ∧ u = t)) := by
  rcases hu : unsl l with ⟨u, c⟩
  refine ⟨u, c, rfl, ?_⟩
  unfold openK at h
  rw [hu] at h
  split at h <;> simp only [Prod.mk.injEq] at h
  · rename_i hc; exact .inl ⟨hc, h.2.symm⟩
  · rename_i hc
    have hc0 : c = 0 := by simpa using hc
    split at h <;> simp only [Prod.mk.injEq] at h
    · rename_i hk; exact .inr (.inl ⟨hc0, hk, h.2.symm⟩)
    · rename_i hk; exact .inr (.inr ⟨hc0, by simpa using hk, by omega, h.1⟩)

theorem numM_place {l : List UInt8} {a : Int} {most n : Nat} {y : Int} (hl : l.length ≤ 9223372036854775807) (h : numM l a most = (n, y, 0)) : y ≤ 9223372036854775807 ∧ n ≤ most := by
  obtain ⟨hg, hm⟩ := numM_ok h
  obtain ⟨k, m, _, e, h, _⟩ := Vr.get_ok hg
  exact ⟨by omega, hm⟩

/-- What front leaves. -/
def FrontOf (w : World) (t : List UInt8) (n1 n2 : Nat) (y : Int) (e : Ending) (w' : World) : Prop :=
  ∃ g, e = .returned (.tuple #[.string (bs t), .slice (some ⟨g, 0, none⟩) 2 2, .int .i64 y, .int .i64 0]) ∧ Held w' g [.int .i64 (n1 : Int), .int .i64 (n2 : Int)] ∧ w.heap.size ≤ g ∧ Below w.heap.size w w'

set_option maxHeartbeats 1000000 in
set_option maxRecDepth 100000 in
theorem front_bad (l : List UInt8) (x : Int) (k b n1 n2 : Nat) (t : List UInt8) (y : Int) (hx : x = k) (w : World) (hl : l.length ≤ 1099511627776) (h : front l k = (t, n1, n2, y, b)) (hb : b ≠ 0) :
    Calls Try.prog 34 #[.string (bs l), .int .i64 x] w fun e w' => e = .returned (.tuple #[.string (bs []), .slice none 0 0, .int .i64 0, .int .i64 b]) ∧ Below w.heap.size w w' := by
  subst hx
  have hbn : ((b : Int) != 0) = true := by simp; omega
  rcases ho : openK l k with ⟨u, c⟩
  obtain ⟨u', c', hu, hcase⟩ := openK_cases ho
  have HU := Stow.mk hu
  by_cases hc : c = 0
  rotate_left
  · have hcb : b = c := by rw [front_1 ho hc] at h; simp only [Prod.mk.injEq] at h; omega
    subst hcb
    rcases hcase with ⟨h1, rfl⟩ | ⟨rfl, hk, rfl⟩ | ⟨_, _, h1, _⟩
    · clear hu h ho
      go_enter Try.func34, Try.ntmps34
      go_wp2_with fail
      refine (refCrcOpen_any l _ hl).mono ?_
      rw [HU.out]
      rintro e w1 ⟨rfl, hb1⟩
      go_wp2_with fail
      refine bodyPost_ret (results_tmp4 rfl _ _ _) rfl ?_
      refine ⟨rfl, ?_⟩
      exact hb1
    · have hul := unsl_len hu
      obtain ⟨q, hq⟩ : ∃ q, kindOf u' = q := ⟨_, rfl⟩
      rw [hq] at hk
      have HQ := Stow.mk hq
      have hne : ((q : Int) != (k : Int)) = true := by simp; omega
      clear hu h ho hq
      go_enter Try.func34, Try.ntmps34
      go_wp2_with fail
      refine (refCrcOpen_any l _ hl).mono ?_
      rw [HU.out]
      rintro e w1 ⟨rfl, hb1⟩
      go_wp2_with fail
      refine (refKind_any u' _ (by omega)).mono ?_
      rw [HQ.out]
      rintro e w2 ⟨rfl, rfl⟩
      go_wp2_with fail
      refine bodyPost_ret (results_tmp4 rfl _ _ _) rfl ?_
      refine ⟨rfl, ?_⟩
      exact hb1
    · exact absurd h1 hc
  subst hc
  rcases hcase with ⟨h1, h2⟩ | ⟨_, _, h2⟩ | ⟨rfl, hk, _, rfl⟩
  · omega
  · omega
  have hul := unsl_len hu
  have HK := Stow.mk hk
  rcases g1 : numM u' 3 7 with ⟨m1, y1, b1⟩
  rcases g2 : numM u' y1 1099511627776 with ⟨m2, y2, b2⟩
  have G1 := Stow.mk g1
  have G2 := Stow.mk g2
  by_cases hb1 : b1 = 0
  rotate_left
  · have hcb : b = b1 := by rw [front_2 ho g1 hb1] at h; simp only [Prod.mk.injEq] at h; omega
    subst hcb
    clear hu h ho hk g1 g2
    go_enter Try.func34, Try.ntmps34
    go_wp2_with fail
    refine (refCrcOpen_any l _ hl).mono ?_
    rw [HU.out]
    rintro e w1 ⟨rfl, hb1⟩
    go_wp2_with fail
    refine (refKind_any u' _ (by omega)).mono ?_
    rw [HK.out]
    rintro e w2 ⟨rfl, rfl⟩
    go_wp2_with fail
    refine (refNumM_any u' 3 _ 7 rfl _ (by omega) (by omega) (by omega)).mono ?_
    rw [G1.out]
    rintro e w3 ⟨rfl, rfl⟩
    go_wp2_with fail
    refine bodyPost_ret (results_tmp4 rfl _ _ _) rfl ?_
    refine ⟨rfl, ?_⟩
    exact hb1
  subst hb1
  have hcb : b2 = b := by
    by_cases hb2 : b2 = 0
    · subst hb2; rw [front_4 ho g1 g2] at h; simp only [Prod.mk.injEq] at h; omega
    · rw [front_3 ho g1 g2 hb2] at h; simp only [Prod.mk.injEq] at h; omega
  subst hcb
  have hy1 := (numM_place (by omega) g1).1
  clear hu h ho hk g1 g2
  go_enter Try.func34, Try.ntmps34
  go_wp2_with fail
  refine (refCrcOpen_any l _ hl).mono ?_
  rw [HU.out]
  rintro e w1 ⟨rfl, hb1⟩
  go_wp2_with fail
  refine (refKind_any u' _ (by omega)).mono ?_
  rw [HK.out]
  rintro e w2 ⟨rfl, rfl⟩
  go_wp2_with fail
  refine (refNumM_any u' 3 _ 7 rfl _ (by omega) (by omega) (by omega)).mono ?_
  rw [G1.out]
  rintro e w3 ⟨rfl, rfl⟩
  go_wp2_with fail
  refine (refNumM_any u' y1 _ 1099511627776 rfl _ (by omega) (by omega) (by omega)).mono ?_
  rw [G2.out]
  rintro e w4 ⟨rfl, rfl⟩
  go_wp2_with fail
  refine bodyPost_ret (results_tmp4 rfl _ _ _) rfl ?_
  refine ⟨rfl, ?_⟩
  exact hb1

set_option maxHeartbeats 1000000 in
set_option maxRecDepth 100000 in
theorem front_good (l : List UInt8) (x : Int) (k n1 n2 : Nat) (t : List UInt8) (y : Int) (hx : x = k) (w : World) (hl : l.length ≤ 1099511627776) (h : front l k = (t, n1, n2, y, 0)) :
    Calls Try.prog 34 #[.string (bs l), .int .i64 x] w (FrontOf w t n1 n2 y) := by
  subst hx
  rcases ho : openK l k with ⟨u, c⟩
  obtain ⟨u', c', hu, hcase⟩ := openK_cases ho
  have HU := Stow.mk hu
  obtain rfl : c = 0 := by
    by_cases hc : c = 0
    · exact hc
    · rw [front_1 ho hc] at h; simp only [Prod.mk.injEq] at h; omega
  rcases hcase with ⟨h1, h2⟩ | ⟨_, _, h2⟩ | ⟨rfl, hk, _, rfl⟩
  · omega
  · omega
  have hul := unsl_len hu
  have HK := Stow.mk hk
  rcases g1 : numM u' 3 7 with ⟨m1, y1, b1⟩
  rcases g2 : numM u' y1 1099511627776 with ⟨m2, y2, b2⟩
  have G1 := Stow.mk g1
  have G2 := Stow.mk g2
  obtain rfl : b1 = 0 := by
    by_cases hc : b1 = 0
    · exact hc
    · rw [front_2 ho g1 hc] at h; simp only [Prod.mk.injEq] at h; omega
  obtain rfl : b2 = 0 := by
    by_cases hc : b2 = 0
    · exact hc
    · rw [front_3 ho g1 g2 hc] at h; simp only [Prod.mk.injEq] at h; omega
  rw [front_4 ho g1 g2] at h
  simp only [Prod.mk.injEq] at h
  obtain ⟨rfl, rfl, rfl, rfl, _⟩ := h
  have hy1 := (numM_place (by omega) g1).1
  clear hu ho hk g1 g2
  go_enter Try.func34, Try.ntmps34
  go_wp2_with fail
  refine (refCrcOpen_any l _ hl).mono ?_
  rw [HU.out]
  rintro e w1 ⟨rfl, hb1⟩
  go_wp2_with fail
  refine (refKind_any u' _ (by omega)).mono ?_
  rw [HK.out]
  rintro e w2 ⟨rfl, rfl⟩
  go_wp2_with fail
  refine (refNumM_any u' 3 _ 7 rfl _ (by omega) (by omega) (by omega)).mono ?_
  rw [G1.out]
  rintro e w3 ⟨rfl, rfl⟩
  go_wp2_with fail
  refine (refNumM_any u' y1 _ 1099511627776 rfl _ (by omega) (by omega) (by omega)).mono ?_
  rw [G2.out]
  rintro e w4 ⟨rfl, rfl⟩
  go_wp2_with fail
  refine bodyPost_ret (results_tmp4 rfl _ _ _) rfl ?_
  refine ⟨w4.heap.size, rfl, Held.made w4 [.int .i64 m1, .int .i64 m2] _, hb1.size, ?_⟩
  (repeat (first | exact Below.self _ | refine Below.alloc' ?_ _ | refine Below.drew ?_ | refine Below.drewN' ?_ _ | (refine Below.call ?_ (by assumption))))
end Go.Proofs.Ytkhepehgafijfaa
