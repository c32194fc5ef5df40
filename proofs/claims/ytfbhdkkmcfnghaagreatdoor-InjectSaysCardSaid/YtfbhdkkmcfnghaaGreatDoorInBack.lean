/- Walks of the laws InjectBack and InjectTwice. Conditions: what the form's reach gives; a variable of the library's holds an int. -/
import Derived.Test.YtfbhdkkmcfnghaaGreatDoorInKnown
import Derived.Test.YtfbhdkkmcfnghaaGreatDoorHeadRef
namespace Go.Proofs.YtfbhdkkmcfnghaaGreatDoor
open Go.RowKit
set_option linter.unusedVariables false

theorem fewH_of {L : List Hd} (h : fewH L = true) : L.length ≤ 60 ∧ ∀ m ∈ L, m.2.length ≤ 400 := by
  unfold fewH at h
  simp only [Bool.and_eq_true, decide_eq_true_eq, List.all_eq_true] at h
  exact ⟨h.1, fun m hm => by have := h.2 m hm; omega⟩
theorem value_of {l : List UInt8} (h1 : l.length ≤ 64) (h2 : ∀ b ∈ l, 32 ≤ b.toNat ∧ b.toNat ≤ 126) (h3 : l.head? ≠ some 32) (h4 : l.getLast? ≠ some 32) : Ms.valueOk l = true := by
  unfold Ms.valueOk Ms.eachB
  simp only [Bool.and_eq_true, decide_eq_true_eq, List.all_eq_true, Bool.or_eq_true, bne_iff_ne]
  exact ⟨⟨h1, fun b hb => h2 b hb⟩, .inr ⟨h3, h4⟩⟩
namespace In
theorem prText_bytes (p : Pr) : ∀ b ∈ prText p, 45 ≤ b.toNat ∧ b.toNat ≤ 102 := by
  intro b hb
  unfold prText at hb
  simp only [List.mem_append] at hb
  have hx : ∀ k n, b ∈ hex k n → 45 ≤ b.toNat ∧ b.toNat ≤ 102 := fun k n h => by have := hex_bytes k n b h; omega
  have h45 : b ∈ [(45 : UInt8)] → 45 ≤ b.toNat ∧ b.toNat ≤ 102 := fun h => by simp at h; subst h; decide
  rcases hb with (((((h | h) | h) | h) | h) | h)
  · simp at h; rcases h with rfl | rfl | rfl <;> decide
  · rcases h with h | h <;> exact hx _ _ h
  · exact h45 h
  · exact hx _ _ h
  · exact h45 h
  · exact hx _ _ h
theorem prText_value (p : Pr) : Ms.valueOk (prText p) = true := by
  have hb := prText_bytes p
  have hn : ∀ b ∈ prText p, b ≠ 32 := fun b h e => by subst e; have := hb _ h; revert this; decide
  refine value_of (by rw [prText_len]; omega) (fun b h => by have := hb b h; omega) (fun h => hn _ (List.mem_of_head? h) rfl) (fun h => hn _ (List.mem_of_getLast? h) rfl)
theorem word_end {m : Hd} (h : Ts.valOk m.2 = true) (s : List UInt8) : (s ++ Ts.word m).getLast? ≠ some 32 := by
  obtain ⟨h1, _, _, h4⟩ := Ts.valOk_any h
  unfold Ts.word
  intro e
  rw [List.getLast?_append, List.getLast?_append, List.getLast?_cons] at e
  cases hv : m.2.getLast? with
  | none => rw [List.getLast?_eq_none_iff] at hv; exact h1 hv
  | some b =>
    rw [hv] at e
    simp at e
    subst e
    exact h4 _ hv rfl
theorem text_end : ∀ (t : List Hd) (s : List UInt8), (∀ x ∈ t, Ts.valOk x.2 = true) → s.getLast? ≠ some 32 → (s ++ t.flatMap fun x => 44 :: Ts.word x).getLast? ≠ some 32
  | [], s, _, h => by simpa using h
  | x :: t, s, hx, h => by
    rw [List.flatMap_cons, ← List.append_assoc]
    refine text_end t _ (fun y hy => hx y (by simp [hy])) ?_
    have := word_end (hx x (by simp)) (s ++ [44])
    simpa using this
theorem word_bytes {m : Hd} (hk : Ts.keyOk m.1 = true) (hv : Ts.valOk m.2 = true) : ∀ b ∈ Ts.word m, 32 ≤ b.toNat ∧ b.toNat ≤ 126 := by
  intro b hb
  unfold Ts.word at hb
  rcases List.mem_append.1 hb with h | h
  · have := (Ts.keyOk_any hk).2.2 b h
    simp only [Ts.any, Ts.odd, Ts.low, Bool.or_eq_true, Bool.and_eq_true, beq_iff_eq, decide_eq_true_eq] at this
    omega
  · rcases List.mem_cons.1 h with h | h
    · subst h; decide
    · have := (Ts.valOk_any hv).2.2.1 b h
      simp only [Ts.valByte, Bool.and_eq_true, decide_eq_true_eq] at this
      omega
theorem text_bytes {l : List Hd} (h : ∀ m ∈ l, Ts.keyOk m.1 = true ∧ Ts.valOk m.2 = true) : ∀ b ∈ Ts.text l, 32 ≤ b.toNat ∧ b.toNat ≤ 126 := by
  intro b hb
  cases l with
  | nil => simp [Ts.text] at hb
  | cons m t =>
    unfold Ts.text at hb
    rcases List.mem_append.1 hb with hb | hb
    · exact word_bytes (h m (by simp)).1 (h m (by simp)).2 b hb
    · obtain ⟨x, hx, hb⟩ := List.mem_flatMap.1 hb
      rcases List.mem_cons.1 hb with hb | hb
      · subst hb; decide
      · exact word_bytes (h x (by simp [hx])).1 (h x (by simp [hx])).2 b hb
/-- The state's text, as the law asks of it. -/
theorem state_fine (L : List Hd) (sp : Nat) : Ms.valueOk (stText L sp) = true ∧ ∃ R, stText L sp = 109 :: 101 :: 115 :: 104 :: 61 :: R ∧ 16 ≤ R.length ∧ R.length ≤ 59 := by
  obtain ⟨l, hc, he, hl⟩ := state_some L sp
  have hck := Ts.check_iff.1 hc
  have hb := text_bytes hck.1
  have e2 : Ts.text ((mesh, hex 16 sp) :: l) = 109 :: 101 :: 115 :: 104 :: 61 :: (hex 16 sp ++ l.flatMap fun x => 44 :: Ts.word x) := by simp [Ts.text, Ts.word, mesh]
  have hend : (Ts.text ((mesh, hex 16 sp) :: l)).getLast? ≠ some 32 := by
    have h1 := word_end (m := (mesh, hex 16 sp)) (hck.1 _ (by simp)).2 []
    exact text_end l _ (fun x hx => (hck.1 x (by simp [hx])).2) h1
  rw [he] at hl ⊢
  refine ⟨value_of hl hb (by rw [e2]; simp) hend, _, e2, by simp [hex_len], ?_⟩
  rw [e2] at hl
  simp only [List.length_cons] at hl
  omega
end In
end Go.Proofs.YtfbhdkkmcfnghaaGreatDoor
