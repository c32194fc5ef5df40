/- Laws of members in plain Lean: what is cut, trimmed, joined and read. No condition. -/
import Derived.Test.YtfbhdkkmcfnghaaGreatDoorTsSpec
import Derived.Lib.SplitLaws
import Derived.Lib.SlTrimSet
import Derived.Lib.Join
namespace Go.Proofs.YtfbhdkkmcfnghaaGreatDoor
namespace Ts

theorem index_cons (b c : UInt8) (l : List UInt8) : Lib.index (b :: l) [c] = if b = c then 0 else if Lib.index l [c] = -1 then -1 else Lib.index l [c] + 1 := by
  rw [Lib.index]
  by_cases h : b = c
  · subst h; simp [List.isPrefixOf]
  · have hp : ([c] : List UInt8).isPrefixOf (b :: l) = false := by simp [List.isPrefixOf, Ne.symm h]
    simp [hp, h]
theorem index_nil (c : UInt8) : Lib.index [] [c] = -1 := by simp [Lib.index]

/-- The library's pieces. -/
theorem split_pieces (c : UInt8) : ∀ l : List UInt8, Lib.splitK [c] 0 (Lib.count l [c]) l = pieces c l
  | [] => by rw [Lib.count_miss (index_nil c)]; rfl
  | b :: l => by
    have ih := split_pieces c l
    by_cases h : b = c
    · subst h
      rw [Lib.count_cons_eq, Nat.add_comm, Lib.splitK, index_cons, if_pos rfl, if_neg (by decide)]
      simp only [pieces, if_true]
      rw [← ih]
      simp
    · rw [Lib.count_cons_ne b c l h]
      unfold pieces
      rw [if_neg h, ← ih]
      by_cases hm : Lib.index l [c] = -1
      · rw [Lib.count_miss hm]; rfl
      · obtain ⟨j, hj⟩ : ∃ j : Nat, Lib.index l [c] = j := ⟨(Lib.index l [c]).toNat, by have := Lib.index_ge l [c]; omega⟩
        rw [Lib.count_hit (by simp) hj, Nat.add_comm]
        simp only [Lib.splitK]
        rw [index_cons, if_neg h, if_neg hm, hj, if_neg (by simp <;> omega), if_neg (by simp <;> omega)]
        simp only [Nat.add_zero, List.length_cons, List.length_nil, Nat.zero_add, Int.toNat_natCast]
        rw [show (((j : Int) + 1).toNat) = j + 1 by omega]
        simp

theorem trimR_cons (b : UInt8) (t : List UInt8) : trimR (b :: t) = if trimR t = [] ∧ blank b = true then [] else b :: trimR t := by
  unfold trimR
  rw [List.reverse_cons, List.dropWhile_append]
  by_cases h : (t.reverse.dropWhile blank) = []
  · rw [h]
    cases hb : blank b <;> simp [hb, List.dropWhile]
  · have : (t.reverse.dropWhile blank).isEmpty = false := by simpa using h
    rw [this]
    simp [h]
/-- Left first or right first. -/
theorem trim_swap (l : List UInt8) : trimR (l.dropWhile blank) = trim l := by
  unfold trim
  induction l with
  | nil => rfl
  | cons b t ih =>
    cases hb : blank b
    · rw [List.dropWhile_cons_of_neg (by simp [hb]), trimR_cons]
      simp [hb]
    · rw [List.dropWhile_cons_of_pos hb, ih, trimR_cons]
      by_cases h : trimR t = []
      · simp [h, hb]
      · simp [h, hb]
theorem trim_lib (l : List UInt8) : Lib.trimS l [32, 9] = trim l := by
  have : (fun b : UInt8 => [(32 : UInt8), 9].contains b) = blank := by
    funext b
    have h := UInt8.toNat_inj (a := b) (b := 32)
    have h' := UInt8.toNat_inj (a := b) (b := 9)
    rw [Bool.eq_iff_iff]
    simp [blank, ← h, ← h']
  unfold Lib.trimS Lib.trimLeftS Lib.trimRightS trim trimR
  rw [this]

/-- The library's cut. -/
theorem cut_lib : ∀ l : List UInt8, Lib.cut l [61] = if 61 ∈ l then (l.takeWhile (· != 61), (l.dropWhile (· != 61)).drop 1, true) else (l, [], false)
  | [] => by simp [Lib.cut, index_nil]
  | b :: t => by
    have ih := cut_lib t
    unfold Lib.cut at *
    rw [index_cons]
    by_cases h : b = 61
    · subst h; simp
    · rw [if_neg h]
      have hne : ¬ (61 : UInt8) = b := fun e => h e.symm
      by_cases hm : Lib.index t [61] = -1
      · rw [hm] at ih ⊢
        have h61 : ¬ (61 : UInt8) ∈ t := by
          intro hc
          simp [hc] at ih
        simp [h61, hne]
      · have hge := Lib.index_ge t [61]
        rw [if_neg hm, if_pos (by omega)]
        rw [if_pos (by omega)] at ih
        by_cases h61 : (61 : UInt8) ∈ t
        · rw [if_pos h61] at ih
          simp only [Prod.mk.injEq] at ih
          rw [if_pos (by simp [h61])]
          rw [show (Lib.index t [61] + 1).toNat = (Lib.index t [61]).toNat + 1 by omega]
          simp only [List.take_succ_cons, List.length_cons, List.length_nil, Nat.zero_add]
          rw [ih.1, List.takeWhile_cons_of_pos (by simpa using h), List.dropWhile_cons_of_pos (by simpa using h), show (Lib.index t [61]).toNat + 1 + 1 = ((Lib.index t [61]).toNat + 1) + 1 from rfl, List.drop_succ_cons]
          simp only [List.length_cons, List.length_nil, Nat.zero_add] at ih
          rw [ih.2.1]
        · rw [if_neg h61] at ih
          simp at ih

/-- Words come back. -/
theorem pieces_no {c : UInt8} : ∀ {l : List UInt8}, c ∉ l → pieces c l = [l]
  | [], _ => rfl
  | b :: t, h => by
    have hb : b ≠ c := fun e => h (by simp [e])
    unfold pieces
    rw [if_neg hb, pieces_no (l := t) (fun e => h (by simp [e]))]
theorem pieces_app {c : UInt8} : ∀ {l r : List UInt8}, c ∉ l → pieces c (l ++ c :: r) = l :: pieces c r
  | [], r, _ => by simp [pieces]
  | b :: t, r, h => by
    have hb : b ≠ c := fun e => h (by simp [e])
    rw [List.cons_append, pieces, if_neg hb, pieces_app (l := t) (fun e => h (by simp [e]))]
theorem pieces_words : ∀ (m : Hd) (t : List Hd), (∀ x ∈ m :: t, (44 : UInt8) ∉ word x) → pieces 44 (text (m :: t)) = (m :: t).map word
  | m, [], h => by simp only [text, List.flatMap_nil, List.append_nil]; rw [pieces_no (h m (by simp))]; rfl
  | m, x :: t, h => by
    have := pieces_words x t fun y hy => h y (by simp at hy ⊢; right; exact hy)
    simp only [text, List.flatMap_cons, List.cons_append] at this ⊢
    rw [pieces_app (h m (by simp)), this]
    rfl

theorem low_any {b : UInt8} (h : low b = true) : any b = true := by simp [any, h]
theorem any_ne {b : UInt8} (h : any b = true) : b ≠ 44 ∧ b ≠ 61 ∧ blank b = false := by
  refine ⟨?_, ?_, ?_⟩
  · rintro rfl; revert h; decide
  · rintro rfl; revert h; decide
  · simp only [blank, any, odd, low, Bool.or_eq_true, Bool.and_eq_true, decide_eq_true_eq, beq_iff_eq, Bool.or_eq_false_iff, beq_eq_false_iff_ne] at *
    omega
theorem val_ne {b : UInt8} (h : valByte b = true) : b ≠ 44 ∧ b ≠ 61 := by
  constructor
  · rintro rfl; revert h; decide
  · rintro rfl; revert h; decide
theorem keyOk_any {k : List UInt8} (h : keyOk k = true) : k ≠ [] ∧ k.length ≤ 32 ∧ ∀ b ∈ k, any b = true := by
  simp only [keyOk, Bool.and_eq_true, Bool.not_eq_true', decide_eq_true_eq, List.all_eq_true] at h
  exact ⟨by simpa using h.1.1.1, h.1.1.2, h.2⟩
theorem valOk_any {v : List UInt8} (h : valOk v = true) : v ≠ [] ∧ v.length ≤ 64 ∧ (∀ b ∈ v, valByte b = true) ∧ ∀ b, v.getLast? = some b → b.toNat ≠ 32 := by
  simp only [valOk, Bool.and_eq_true, Bool.not_eq_true', decide_eq_true_eq, List.all_eq_true] at h
  refine ⟨by simpa using h.1.1.1, h.1.1.2, h.2, fun b hb => ?_⟩
  have := h.1.2
  rw [hb] at this
  simpa using this
theorem word_44 {m : Hd} (hk : keyOk m.1 = true) (hv : valOk m.2 = true) : (44 : UInt8) ∉ word m := by
  intro h
  simp only [word, List.mem_append, List.mem_cons] at h
  rcases h with h | h | h
  · exact (any_ne ((keyOk_any hk).2.2 _ h)).1 rfl
  · simp at h
  · exact (val_ne ((valOk_any hv).2.2.1 _ h)).1 rfl
theorem word_cut {m : Hd} (hk : keyOk m.1 = true) : cutEq (word m) = some m := by
  have h : ∀ b ∈ m.1, (b != 61) = true := fun b hb => by simpa using (any_ne ((keyOk_any hk).2.2 b hb)).2.1
  unfold cutEq word
  rw [if_pos (by simp), List.takeWhile_append_of_pos h, List.dropWhile_append_of_pos h]
  simp
theorem word_trim {m : Hd} (hk : keyOk m.1 = true) (hv : valOk m.2 = true) : trim (word m) = word m ∧ word m ≠ [] := by
  obtain ⟨k, v⟩ := m
  simp only at hk hv
  have hk' := keyOk_any hk
  have hv' := valOk_any hv
  refine ⟨?_, by simp [word]⟩
  have hR : trimR (word (k, v)) = word (k, v) := by
    unfold trimR
    have : (word (k, v)).reverse.dropWhile blank = (word (k, v)).reverse := by
      obtain ⟨t, b, hb⟩ : ∃ t b, v = t ++ [b] := ⟨v.dropLast, v.getLast hv'.1, (List.dropLast_concat_getLast hv'.1).symm⟩
      subst hb
      have h1 := hv'.2.2.2 b (by simp)
      have h2 := hv'.2.2.1 b (by simp)
      have : blank b = false := by
        simp only [blank, valByte, Bool.and_eq_true, decide_eq_true_eq, Bool.or_eq_false_iff, beq_eq_false_iff_ne] at *
        omega
      simp [word, this]
    rw [this, List.reverse_reverse]
  unfold trim
  rw [hR]
  cases k with
  | nil => exact absurd rfl hk'.1
  | cons b t =>
    have := (any_ne (hk'.2.2 b (by simp))).2.2
    simp [word, this]

theorem getD_at {l : List Hd} {i : Nat} {d : Hd} (h : i < l.length) : l.getD i d = l[i] := by
  rw [List.getD_eq_getElem?_getD, List.getElem?_eq_getElem h]; rfl
/-- What no error says. -/
theorem next_zero {a : List Hd} {m : Hd} : next a m = 0 ↔ (keyOk m.1 = true ∧ valOk m.2 = true) ∧ (∀ x ∈ a, x.1 ≠ m.1) ∧ a.length < 32 := by
  unfold next
  by_cases h1 : (!keyOk m.1 || !valOk m.2) = true
  · rw [if_pos h1]
    simp only [Bool.or_eq_true, Bool.not_eq_true'] at h1
    constructor
    · intro h; omega
    · rintro ⟨⟨a1, a2⟩, _⟩; rcases h1 with h | h <;> simp_all
  · rw [if_neg h1]
    simp only [Bool.or_eq_true, Bool.not_eq_true', not_or, Bool.not_eq_false] at h1
    by_cases h2 : a.any (fun x => x.1 == m.1) = true
    · rw [if_pos h2]
      constructor
      · intro h; omega
      · rintro ⟨_, h3, _⟩
        obtain ⟨x, hx, he⟩ := List.any_eq_true.1 h2
        exact absurd (by simpa using he) (h3 x hx)
    · rw [if_neg h2]
      have h3 : ∀ x ∈ a, x.1 ≠ m.1 := fun x hx he => h2 (List.any_eq_true.2 ⟨x, hx, by simpa using he⟩)
      by_cases h4 : 32 ≤ a.length
      · rw [if_pos h4]; constructor
        · intro h; omega
        · rintro ⟨_, _, h⟩; omega
      · rw [if_neg h4]; exact ⟨fun _ => ⟨h1, h3, by omega⟩, fun _ => rfl⟩
theorem check_iff {l : List Hd} : check l = 0 ↔ (∀ m ∈ l, keyOk m.1 = true ∧ valOk m.2 = true) ∧ l.Pairwise (fun x y => x.1 ≠ y.1) ∧ l.length ≤ 32 := by
  constructor
  · intro h
    have hz := fun i (hi : i < l.length) => next_zero.1 (check_zero h hi)
    refine ⟨fun m hm => ?_, ?_, ?_⟩
    · obtain ⟨i, hi, rfl⟩ := List.getElem_of_mem hm
      have := (hz i hi).1
      rwa [getD_at hi] at this
    · rw [List.pairwise_iff_getElem]
      intro i j hi hj hij
      have := (hz j hj).2.1 l[i] (List.mem_take_iff_getElem.2 ⟨i, by omega, rfl⟩)
      rwa [getD_at hj] at this
    · rcases Nat.eq_zero_or_pos l.length with h0 | h0
      · omega
      · have := (hz (l.length - 1) (by omega)).2.2
        simp at this; omega
  · rintro ⟨h1, h2, h3⟩
    refine check_ok fun j hj => next_zero.2 ?_
    rw [getD_at hj]
    refine ⟨h1 _ (List.getElem_mem hj), fun x hx => ?_, by simp; omega⟩
    obtain ⟨i, hi, rfl⟩ := List.mem_take_iff_getElem.1 hx
    exact List.pairwise_iff_getElem.1 h2 i j (by omega) hj (by omega)

theorem readFrom_words {l : List Hd} (h : check l = 0) : ∀ n j, n = l.length - j → j ≤ l.length → readFrom ((l.drop j).map word) (l.take j) = (l, 0)
  | 0, j, hn, hj => by
    have : j = l.length := by omega
    subst this; simp [readFrom]
  | n + 1, j, hn, hj => by
    have hlt : j < l.length := by omega
    have hz := check_zero h hlt
    rw [getD_at hlt] at hz
    have hk := (next_zero.1 hz).1
    have hw := word_trim hk.1 hk.2
    rw [List.drop_eq_getElem_cons hlt, List.map_cons]
    simp only [readFrom]
    rw [hw.1, if_neg hw.2, word_cut hk.1]
    simp only
    rw [if_neg (by simp [hz]), ← List.take_succ_eq_append_getElem hlt]
    exact readFrom_words h n (j + 1) (by omega) (by omega)
/-- What was written is read as it was. -/
theorem read_text {l : List Hd} (h : check l = 0) : read (text l) = (l, 0) := by
  unfold read
  cases l with
  | nil => rfl
  | cons m t =>
    have hk := (check_iff.1 h).1
    rw [pieces_words m t fun x hx => word_44 (hk x hx).1 (hk x hx).2]
    simpa using readFrom_words h (m :: t).length 0 rfl (Nat.zero_le _)
/-- What is put may be. -/
theorem check_put {l : List Hd} {k v : List UInt8} (h : check l = 0) (hk : keyOk k = true) (hv : valOk v = true) : check (((k, v) :: others l k).take 32) = 0 := by
  have hc := check_iff.1 h
  refine check_iff.2 ⟨fun m hm => ?_, ?_, by simp; omega⟩
  · rcases List.mem_cons.1 (List.mem_of_mem_take hm) with rfl | hm
    · exact ⟨hk, hv⟩
    · exact hc.1 m (List.mem_filter.1 hm).1
  · refine List.Pairwise.sublist (List.take_sublist _ _) (List.pairwise_cons.2 ⟨fun x hx => ?_, hc.2.1.filter _⟩)
    have := (List.mem_filter.1 hx).2
    simpa using fun e : k = x.1 => by simp [e] at this
theorem others_next {l : List Hd} {k : List UInt8} {i : Nat} (h : i < l.length) : others (l.take (i + 1)) k = others (l.take i) k ++ if l[i].1 != k then [l[i]] else [] := by
  unfold others
  rw [List.take_succ_eq_append_getElem h, List.filter_append]
  congr 1
  cases hc : l[i].1 != k <;> simp [hc]
theorem others_at {l : List Hd} {k : List UInt8} {i : Nat} (h : i < l.length) (hc : (l[i].1 != k) = true) : (others l k)[(others (l.take i) k).length]? = some l[i] := by
  have : others l k = others (l.take i) k ++ (l[i] :: others (l.drop (i + 1)) k) := by
    unfold others
    conv => lhs; rw [← List.take_append_drop i l, List.filter_append]
    rw [List.drop_eq_getElem_cons h, List.filter_cons, if_pos hc]
  rw [this]
  simp
end Ts
end Go.Proofs.YtfbhdkkmcfnghaaGreatDoor
