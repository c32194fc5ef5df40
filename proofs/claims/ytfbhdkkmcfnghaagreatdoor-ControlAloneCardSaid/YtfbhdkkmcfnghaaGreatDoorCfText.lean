/- A config's text in plain Lean, and that it is not long. No condition. -/
import Derived.Test.YtfbhdkkmcfnghaaGreatDoorCfWr4
import Derived.Lib.ItoaLen
namespace Go.Proofs.YtfbhdkkmcfnghaaGreatDoor
set_option linter.unusedVariables false

namespace Cf
def text (c : Cf) : List UInt8 := (if c.f ≠ [] then ln [[102, 111, 114, 109, 97, 116], c.f] else []) ++ c.rs.flatMap ruleText ++ ln [[101, 110, 100]]
def write (c : Cf) : List UInt8 × Nat := if check c ≠ 0 then ([], check c) else (text c, 0)
theorem ln_one (a : List UInt8) : (ln [a]).length = a.length + 1 := by simp [ln, Lib.join]
theorem ln_two (a b : List UInt8) : (ln [a, b]).length = a.length + b.length + 2 := by simp [ln, Lib.join]; omega
theorem ln_three (a b c : List UInt8) : (ln [a, b, c]).length = a.length + b.length + c.length + 3 := by simp [ln, Lib.join]; omega
theorem name_len {l : List UInt8} (h : nameOk l = true) : l.length ≤ 32 := by
  simp only [nameOk, Bool.and_eq_true, decide_eq_true_eq] at h
  exact h.1.2
theorem word_len (k : Int) : (Pd.word k).length ≤ 6 := by
  unfold Pd.word
  repeat' split
  all_goals simp
theorem pd_ok {p : Pd} (h : p.err = 0) : (1 ≤ p.k ∧ p.k ≤ 6) ∧ p.n.length ≤ 32 ∧ p.v.length ≤ 64 := by
  obtain ⟨k, n, v⟩ := p
  unfold Pd.err at h
  simp only at h ⊢
  split at h
  · cases h
  rename_i hk
  have hk' : 1 ≤ k ∧ k ≤ 6 := by omega
  split at h
  · cases h
  rename_i h1
  split at h
  · cases h
  rename_i h2
  split at h
  · cases h
  rename_i h3
  refine ⟨hk', ?_, ?_⟩
  · by_cases hn : Pd.named k = true
    · have : nameOk n = true := by
        cases hh : nameOk n with
        | true => rfl
        | false => exact absurd ⟨hn, hh⟩ h3
      exact name_len this
    · have : n = [] := by
        rcases n with _ | ⟨c, t⟩
        · rfl
        · exact absurd ⟨by simpa using hn, by simp⟩ h1
      simp [this]
  · unfold Pd.chk at h
    split at h
    · split at h
      · cases h
      · rename_i hm
        have hm' : Ms.methodOk v = true := by simpa using hm
        simp only [Ms.methodOk, Bool.and_eq_true, decide_eq_true_eq] at hm'
        omega
    · split at h
      · split at h
        · cases h
        · rename_i hm
          have := name_len (l := v) (by simpa using hm)
          omega
      · split at h
        · split at h
          · cases h
          · rename_i hm
            have hm' : Ms.valueOk v = true := by simpa using hm
            simp only [Ms.valueOk, Bool.and_eq_true, decide_eq_true_eq] at hm'
            omega
        · split at h
          · rename_i h6
            have : v = [] := by
              rcases v with _ | ⟨c, t⟩
              · rfl
              · exact absurd ⟨by simp [Pd.valued, h6], by simp⟩ h2
            simp [this]
          · split at h
            · cases h
            · rename_i hm
              have hm' : Ms.pathOk v = true := by simpa using hm
              simp only [Ms.pathOk, Bool.and_eq_true, decide_eq_true_eq] at hm'
              omega
theorem words_len {p : Pd} (h : p.err = 0) : (ln p.words).length ≤ 110 := by
  obtain ⟨_, h1, h2⟩ := pd_ok h
  have w1 := word_len p.k
  have w5 := word_len 5
  have w6 := word_len 6
  unfold Pd.words
  split
  · rw [ln_two]; omega
  · split
    · rw [ln_three]; omega
    · rw [ln_two]; omega
theorem one_ok {r : Ru} (h : one r = 0) : r.ps.length ≤ 4 ∧ (∀ p ∈ r.ps, p.err = 0) ∧ namesOk r = true ∧ ∀ n ∈ nums r, 0 ≤ n ∧ n ≤ 999999 := by
  unfold one at h
  split at h
  · cases h
  rename_i h4
  split at h
  · rename_i h1; exact absurd h h1
  rename_i h1
  split at h
  · cases h
  rename_i h2
  split at h
  · rename_i h3
    refine ⟨by omega, fun p hp => firstErr_zero (by simpa using h1) p hp, by simpa using h2, fun n hn => ?_⟩
    have := List.all_eq_true.1 h3 n hn
    simp only [inR, Bool.and_eq_true, decide_eq_true_eq] at this
    exact this
  · cases h
theorem names_len {r : Ru} (h : namesOk r = true) : r.tg.length ≤ 32 ∧ r.mi.length ≤ 32 := by
  unfold namesOk at h
  split at h
  · rename_i hm
    simp only [Bool.and_eq_true] at h
    exact ⟨name_len h.1, by simp [hm]⟩
  · simp only [Bool.and_eq_true] at h
    exact ⟨name_len h.1, name_len h.2⟩
theorem itoa_len {n : Int} (h : 0 ≤ n ∧ n ≤ 999999) : (Lib.itoa n).length ≤ 21 := Lib.itoa_length_le n (by omega) (by omega)
theorem lnPs_len : ∀ {ps : List Pd}, (∀ p ∈ ps, p.err = 0) → (lnPs ps).length ≤ 110 * ps.length
  | [], _ => by simp [lnPs]
  | p :: t, h => by
    have h1 := words_len (h p (by simp))
    have h2 := lnPs_len (ps := t) (fun q hq => h q (by simp [hq]))
    unfold lnPs at h2 ⊢
    simp only [List.flatMap_cons, List.length_append, List.length_cons]
    omega
theorem rule_len {r : Ru} (h : one r = 0) : (ruleText r).length ≤ 1000 := by
  obtain ⟨h4, hp, hn, hr⟩ := one_ok h
  obtain ⟨t1, t2⟩ := names_len hn
  have p1 := lnPs_len hp
  have i1 := itoa_len (hr r.rank (by simp [nums]))
  have i2 := itoa_len (hr r.ap (by simp [nums]))
  have i3 := itoa_len (hr r.st (by simp [nums]))
  have i4 := itoa_len (hr r.dp (by simp [nums]))
  have i5 := itoa_len (hr r.dt (by simp [nums]))
  have i6 := itoa_len (hr r.mp (by simp [nums]))
  have i7 := itoa_len (hr r.sm (by simp [nums]))
  have a1 : (lnRank r).length ≤ 30 := by
    unfold lnRank
    simp only [List.map_cons, List.map_nil]
    rw [ln_two]; simp; omega
  have a2 : (lnTo r).length ≤ 40 := by unfold lnTo; rw [ln_two]; simp; omega
  have a3 : (lnAb r).length ≤ 60 := by
    unfold lnAb
    split
    · simp only [List.map_cons, List.map_nil]; rw [ln_three]; simp; omega
    · simp
  have a4 : (lnDe r).length ≤ 60 := by
    unfold lnDe
    split
    · simp only [List.map_cons, List.map_nil]; rw [ln_three]; simp; omega
    · simp
  have a5 : (lnMi r).length ≤ 70 := by
    unfold lnMi
    split
    · rw [ln_three]; simp; omega
    · simp
  have a6 : (lnSa r).length ≤ 40 := by
    unfold lnSa
    split
    · simp only [List.map_cons, List.map_nil]; rw [ln_two]; simp; omega
    · simp
  unfold ruleText
  simp only [List.length_append]
  omega
theorem check_ok {c : Cf} (h : check c = 0) : c.f.length ≤ 120 ∧ c.rs.length ≤ 16 ∧ ∀ r ∈ c.rs, one r = 0 := by
  unfold check at h
  split at h
  · cases h
  rename_i h1
  split at h
  · cases h
  rename_i h2
  refine ⟨?_, by omega, fun r hr => firstErr_zero h r hr⟩
  have : fmtOk c.f = true := by simpa using h1
  simp only [fmtOk, Bool.and_eq_true, decide_eq_true_eq] at this
  exact this.2
theorem rules_len : ∀ {rs : List Ru}, (∀ r ∈ rs, one r = 0) → (rs.flatMap ruleText).length ≤ 1000 * rs.length
  | [], _ => by simp
  | r :: t, h => by
    have h1 := rule_len (h r (by simp))
    have h2 := rules_len (rs := t) (fun q hq => h q (by simp [hq]))
    simp only [List.flatMap_cons, List.length_append, List.length_cons]
    omega
theorem text_len {c : Cf} (h : check c = 0) : (text c).length ≤ 20000 := by
  obtain ⟨h1, h2, h3⟩ := check_ok h
  have h4 := rules_len h3
  unfold text
  simp only [List.length_append]
  rw [ln_one]
  have : (if c.f ≠ [] then ln [[102, 111, 114, 109, 97, 116], c.f] else []).length ≤ 130 := by
    split
    · rw [ln_two]; simp; omega
    · simp
  have e1 : ([101, 110, 100] : List UInt8).length = 3 := rfl
  omega
end Cf
end Go.Proofs.YtfbhdkkmcfnghaaGreatDoor
