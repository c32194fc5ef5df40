/- Lines of operations come back, in plain Lean. No condition. -/
import Derived.Test.YtfbhdkkmcfnghaaGreatDoorPgSpec
import Derived.Test.YtfbhdkkmcfnghaaGreatDoorItoa
namespace Go.Proofs.YtfbhdkkmcfnghaaGreatDoor
set_option linter.unusedVariables false
namespace Pg

theorem cut_app {a r : List UInt8} (h : ∀ b ∈ a, b ≠ 32) : cut (a ++ 32 :: r) = (a, r) := by
  induction a with
  | nil => simp [cut]
  | cons x t ih =>
    have hx := h x (by simp)
    have := ih fun b hb => h b (by simp [hb])
    simp [cut, hx, this]
theorem cut_none {a : List UInt8} (h : ∀ b ∈ a, b ≠ 32) : cut a = (a, []) := by
  induction a with
  | nil => simp [cut]
  | cons x t ih =>
    have hx := h x (by simp)
    have := ih fun b hb => h b (by simp [hb])
    simp [cut, hx, this]
theorem cut_back : ∀ l : List UInt8, (l = (cut l).1 ∧ (cut l).2 = []) ∨ l = (cut l).1 ++ 32 :: (cut l).2
  | [] => .inl ⟨rfl, rfl⟩
  | b :: t => by
    by_cases hb : b = 32
    · right; simp [cut, hb]
    · simp only [cut, hb, if_false]
      rcases cut_back t with ⟨h1, h2⟩ | h
      · exact .inl ⟨congrArg (b :: ·) h1, h2⟩
      · exact .inr (congrArg (b :: ·) h)
theorem cut_free (l : List UInt8) : ∀ b ∈ (cut l).1, b ≠ 32 := by
  induction l with
  | nil => simp [cut]
  | cons x t ih =>
    by_cases hb : x = 32
    · simp [cut, hb]
    · simp only [cut, hb, if_false]
      intro b h
      rcases List.mem_cons.1 h with rfl | h
      · exact hb
      · exact ih b h
theorem name_free {a : List UInt8} (h : nameOk a = true) : ∀ b ∈ a, b ≠ 32 := by
  rintro b hb rfl
  unfold nameOk at h
  simp only [Bool.and_eq_true, List.all_eq_true] at h
  have := h.2 32 hb
  simp [nameByte] at this
theorem itoa3 {n : Int} (h0 : 100 ≤ n) (h1 : n ≤ 599) : Lib.itoa n = [UInt8.ofNat (48 + n.natAbs / 100), UInt8.ofNat (48 + n.natAbs / 10 % 10), UInt8.ofNat (48 + n.natAbs % 10)] := by
  obtain ⟨k, rfl⟩ := Int.eq_ofNat_of_zero_le (show 0 ≤ n by omega)
  have e1 : ((k : Int).tdiv 10) = ((k / 10 : Nat) : Int) := by rw [Int.tdiv_eq_ediv_of_nonneg (by omega)]; omega
  have e2 : (((k / 10 : Nat) : Int).tdiv 10) = ((k / 100 : Nat) : Int) := by rw [Int.tdiv_eq_ediv_of_nonneg (by omega)]; omega
  have e3 : ((k : Int) / 10).natAbs = k / 10 := by omega
  rw [itoa_more (by omega), e1, itoa_more (by omega), e2, itoa_pos1 (by omega)]
  simp [e3]
theorem ofNat_dig {d : Nat} (h : d < 10) : (UInt8.ofNat (48 + d)).toNat = 48 + d := by simp; omega
theorem num_itoa {n : Int} (h0 : 100 ≤ n) (h1 : n ≤ 599) : num (Lib.itoa n) = n := by
  rw [itoa3 h0 h1]
  have a := ofNat_dig (show n.natAbs / 100 < 10 by omega)
  have b := ofNat_dig (show n.natAbs / 10 % 10 < 10 by omega)
  have c := ofNat_dig (show n.natAbs % 10 < 10 by omega)
  have he : Ms.eachB 48 57 [UInt8.ofNat (48 + n.natAbs / 100), UInt8.ofNat (48 + n.natAbs / 10 % 10), UInt8.ofNat (48 + n.natAbs % 10)] = true := by
    unfold Ms.eachB
    simp only [List.all_cons, List.all_nil, a, b, c]
    simp
    omega
  unfold num
  simp only
  rw [he, if_pos rfl, a, b, c]
  omega
/-- What the reference reckons of a rest. -/
def refNum (l : List UInt8) : Int := (l.take 3).foldl (fun n b => 10 * n + b.toNat - 48) 0
theorem refNum_itoa {n : Int} (h0 : 100 ≤ n) (h1 : n ≤ 599) : refNum (Lib.itoa n) = n := by
  rw [itoa3 h0 h1]
  have a := ofNat_dig (show n.natAbs / 100 < 10 by omega)
  have b := ofNat_dig (show n.natAbs / 10 % 10 < 10 by omega)
  have c := ofNat_dig (show n.natAbs % 10 < 10 by omega)
  simp only [refNum, List.take_succ_cons, List.take_zero, List.foldl_cons, List.foldl_nil, a, b, c]
  omega

theorem word_free {k : Int} : ∀ b ∈ word k, b ≠ 32 := by
  unfold word
  repeat' split
  all_goals decide
theorem check_k {o : Ob} (h : check o = 0) : 1 ≤ o.k ∧ o.k ≤ 7 := by
  unfold check at h
  split at h
  · cases h
  · omega
theorem check_parts {o : Ob} (h : check o = 0) : (noA o.k = true → o.a = []) ∧ (noB o.k = true → o.b = []) ∧ (o.k ≠ 7 → o.n = 0) ∧ (o.k ≠ 1 → noA o.k = false → nameOk o.a = true) ∧ (o.k = 7 → 100 ≤ o.n ∧ o.n ≤ 599) := by
  unfold check at h
  split at h
  · cases h
  split at h
  · cases h
  rename_i g2
  split at h
  · cases h
  rename_i g3
  split at h
  · cases h
  split at h
  · cases h
  split at h
  · cases h
  rename_i g6
  simp only [Bool.or_eq_true, Bool.and_eq_true, Bool.not_eq_true', bne_iff_ne, ne_eq, beq_iff_eq, decide_eq_true_eq, not_or, not_and, Bool.not_eq_false, List.isEmpty_eq_false_iff, Decidable.not_not] at g2 g3 g6
  refine ⟨g2.1.1, g2.1.2, g2.2, fun a b => g3 ⟨a, b⟩, fun e => ?_⟩
  have := g6.2 e
  omega
theorem kind_cases {k : Int} (h0 : 1 ≤ k) (h1 : k ≤ 7) : k = 1 ∨ k = 2 ∨ k = 3 ∨ k = 4 ∨ k = 5 ∨ k = 6 ∨ k = 7 := by omega
theorem kindOf_word {k : Int} (h0 : 1 ≤ k) (h1 : k ≤ 7) : kindOf (word k) = some k := by
  rcases kind_cases h0 h1 with rfl | rfl | rfl | rfl | rfl | rfl | rfl <;> rfl
theorem kindOf_some {w : List UInt8} {k : Int} (h : kindOf w = some k) : word k = w ∧ 1 ≤ k ∧ k ≤ 7 := by
  unfold kindOf at h
  have h1 := List.find?_some h
  have h2 := List.mem_of_find?_eq_some h
  refine ⟨by simpa using h1, ?_⟩
  simp at h2
  omega
theorem read_text {o : Ob} (h : check o = 0) : read (text o) = some o := by
  obtain ⟨h0, h1⟩ := check_k h
  obtain ⟨k, a, b, n⟩ := o
  simp only at h0 h1
  have hc := h
  obtain ⟨c1, c2, c3, c4, c5⟩ := check_parts h
  simp only at c1 c2 c3 c4 c5
  have key : cut (text ⟨k, a, b, n⟩) = (word k, (cut (text ⟨k, a, b, n⟩)).2) ∧ parse k (cut (text ⟨k, a, b, n⟩)).2 = ⟨k, a, b, n⟩ := by
    rcases kind_cases h0 h1 with rfl | rfl | rfl | rfl | rfl | rfl | rfl
    · obtain rfl := c2 rfl
      obtain rfl := c3 (by decide)
      have e : text ⟨1, a, [], 0⟩ = word 1 ++ 32 :: a := rfl
      rw [e, cut_app word_free]
      exact ⟨rfl, rfl⟩
    · obtain rfl := c2 rfl
      obtain rfl := c3 (by decide)
      have e : text ⟨2, a, [], 0⟩ = word 2 ++ 32 :: a := rfl
      rw [e, cut_app word_free]
      exact ⟨rfl, rfl⟩
    · obtain rfl := c3 (by decide)
      have e : text ⟨3, a, b, 0⟩ = word 3 ++ 32 :: (a ++ 32 :: b) := rfl
      rw [e, cut_app word_free]
      refine ⟨rfl, ?_⟩
      have := cut_app (r := b) (name_free (c4 (by decide) rfl))
      simp [parse, this]
    · obtain rfl := c2 rfl
      obtain rfl := c3 (by decide)
      have e : text ⟨4, a, [], 0⟩ = word 4 ++ 32 :: a := rfl
      rw [e, cut_app word_free]
      exact ⟨rfl, rfl⟩
    · obtain rfl := c1 rfl
      obtain rfl := c2 rfl
      obtain rfl := c3 (by decide)
      have e : text ⟨5, [], [], 0⟩ = word 5 := rfl
      rw [e, cut_none word_free]
      exact ⟨rfl, rfl⟩
    · obtain rfl := c3 (by decide)
      have e : text ⟨6, a, b, 0⟩ = word 6 ++ 32 :: (a ++ 32 :: b) := rfl
      rw [e, cut_app word_free]
      refine ⟨rfl, ?_⟩
      have := cut_app (r := b) (name_free (c4 (by decide) rfl))
      simp [parse, this]
    · obtain rfl := c1 rfl
      obtain rfl := c2 rfl
      have e : text ⟨7, [], [], n⟩ = word 7 ++ 32 :: Lib.itoa n := rfl
      rw [e, cut_app word_free]
      refine ⟨rfl, ?_⟩
      have hn := c5 rfl
      simp [parse, num_itoa hn.1 hn.2]
  unfold read
  rw [key.1]
  simp only
  rw [kindOf_word h0 h1]
  simp only
  rw [key.2, if_pos ⟨hc, rfl⟩]
theorem read_some {line : List UInt8} {o : Ob} (h : read line = some o) : check o = 0 ∧ text o = line := by
  unfold read at h
  split at h
  · cases h
  · split at h
    · rename_i h1
      cases h
      exact h1
    · cases h
theorem text_inj {a b : Ob} (ha : check a = 0) (hb : check b = 0) (h : text a = text b) : a = b := by
  have h1 := read_text ha
  rw [h, read_text hb] at h1
  exact (Option.some.inj h1).symm
/-- A status line fits some number just if it fits the right one. -/
theorem status_fit {line rest : List UInt8} {N : Int} (hl : cut line = (word 7, rest)) (hc : check ⟨7, [], [], N⟩ = 0) (ht : text ⟨7, [], [], N⟩ = line) : rest = Lib.itoa N ∧ 100 ≤ N ∧ N ≤ 599 := by
  have e : text ⟨7, [], [], N⟩ = word 7 ++ 32 :: Lib.itoa N := rfl
  rw [← ht, e, cut_app word_free] at hl
  have h1 := (Prod.mk.inj hl).2
  refine ⟨h1.symm, ?_⟩
  exact (check_parts hc).2.2.2.2 rfl
end Pg
end Go.Proofs.YtfbhdkkmcfnghaaGreatDoor
