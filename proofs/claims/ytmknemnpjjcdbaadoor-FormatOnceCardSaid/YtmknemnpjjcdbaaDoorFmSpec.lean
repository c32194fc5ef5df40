/- Formats in plain Lean: their parts, and how they are written. No condition. -/
import Derived.Test.YtmknemnpjjcdbaaDoorHeadName
namespace Go.Proofs.YtmknemnpjjcdbaaDoor

/-- A part: its kind, its text. -/
abbrev Pt := Nat × List UInt8
namespace Fm
def words : List (List UInt8) := [[], [77, 69, 84, 72, 79, 68], [72, 79, 83, 84], [80, 65, 84, 72], [84, 65, 82, 71, 69, 84], [83, 84, 65, 84, 85, 83], [86, 69, 82, 83, 73, 79, 78], [84, 82, 65, 67, 69], [84, 79, 79, 75]]
def word (k : Nat) : List UInt8 := words.getD k []
def req : List UInt8 := [82, 69, 81, 40]
def kindFrom (s : List UInt8) : Nat → Nat → Option Nat
  | 0, _ => none
  | n + 1, k => if word k = s then some k else kindFrom s n (k + 1)
/-- The kind whose word it is. -/
def kindOf (s : List UInt8) : Option Nat := kindFrom s 8 1
def inner (s : List UInt8) : List UInt8 := (s.drop 4).dropLast
def isReq (s : List UInt8) : Bool := decide (5 < s.length) && (s.take 4 == req) && (s.getLast? == some 41) && nameOk (inner s)
def part (s : List UInt8) : Option Pt := match kindOf s with
  | some k => some (k, [])
  | none => if isReq s = true then some (9, inner s) else none
def flush (out : List Pt) (text : List UInt8) : List Pt := if text = [] then out else out ++ [(0, text)]
def odd (b : UInt8) : Bool := decide (b.toNat < 32) || decide (126 < b.toNat)
/-- The parts of what is left, at a place; with a piece: what stands behind a sign so far. -/
def comp : List UInt8 → Nat → List Pt → List UInt8 → Option (List UInt8) → List Pt × Nat × Nat
  | [], _, out, text, none => (flush out text, 0, 0)
  | [], at_, _, _, some acc => ([], at_ - acc.length - 1, 3)
  | b :: r, at_, out, text, none =>
    if odd b = true then ([], at_, 15) else if b = 37 then comp r (at_ + 1) out text (some []) else comp r (at_ + 1) out (text ++ [b]) none
  | b :: r, at_, out, text, some acc =>
    if b = 37 then
      if acc = [] then comp r (at_ + 1) out (text ++ [37]) none
      else match part acc with
        | none => ([], at_ - acc.length - 1, 3)
        | some p => comp r (at_ + 1) (flush out text ++ [p]) [] none
    else comp r (at_ + 1) out text (some (acc ++ [b]))
def compile (s : List UInt8) : List Pt × Nat × Nat := if 120 < s.length then ([], 0, 6) else comp s 0 [] [] none
def esc (t : List UInt8) : List UInt8 := t.flatMap fun b => if b = 37 then [37, 37] else [b]
def wr (p : Pt) : List UInt8 := if p.1 = 0 then esc p.2 else if p.1 = 9 then 37 :: req ++ p.2 ++ [41, 37] else 37 :: word p.1 ++ [37]
def write (l : List Pt) : List UInt8 := l.flatMap wr
/-- What can be written. -/
def may (p : Pt) : Prop := p.1 = 0 ∨ p.1 = 9 ∨ (p.1 < 9 ∧ p.2 = [])

theorem esc_append (a b : List UInt8) : esc (a ++ b) = esc a ++ esc b := by simp [esc]
theorem write_append (a b : List Pt) : write (a ++ b) = write a ++ write b := by simp [write]
theorem write_flush (out : List Pt) (text : List UInt8) : write (flush out text) = write out ++ esc text := by
  unfold flush
  split
  · rename_i h; subst h; simp [esc]
  · rw [write_append]; simp [write, wr]
theorem kindFrom_some {s : List UInt8} : ∀ n k j, kindFrom s n k = some j → k ≤ j ∧ j < k + n ∧ word j = s
  | 0, _, _, h => by simp [kindFrom] at h
  | n + 1, k, j, h => by
    unfold kindFrom at h
    split at h
    · rename_i hw
      simp only [Option.some.injEq] at h
      subst h
      exact ⟨Nat.le_refl _, by omega, hw⟩
    · obtain ⟨a, b, c⟩ := kindFrom_some n (k + 1) j h
      exact ⟨by omega, by omega, c⟩
theorem kindFrom_at {s : List UInt8} : ∀ n k j, k ≤ j → j < k + n → (∀ i, k ≤ i → i < j → word i ≠ s) → word j = s → kindFrom s n k = some j
  | 0, k, j, h1, h2, _, _ => by omega
  | n + 1, k, j, h1, h2, h3, h4 => by
    unfold kindFrom
    by_cases hk : k = j
    · subst hk; rw [if_pos h4]
    · rw [if_neg (h3 k (Nat.le_refl _) (by omega))]
      exact kindFrom_at n (k + 1) j (by omega) (by omega) (fun i a b => h3 i (by omega) b) h4
theorem kindFrom_no {s : List UInt8} : ∀ n k, (∀ i, k ≤ i → i < k + n → word i ≠ s) → kindFrom s n k = none
  | 0, _, _ => rfl
  | n + 1, k, h => by
    unfold kindFrom
    rw [if_neg (h k (Nat.le_refl _) (by omega))]
    exact kindFrom_no n (k + 1) fun i a b => h i (by omega) (by omega)
theorem isReq_eq {s : List UInt8} (h : isReq s = true) : s = req ++ inner s ++ [41] := by
  unfold isReq at h
  simp only [Bool.and_eq_true, decide_eq_true_eq, beq_iff_eq] at h
  obtain ⟨⟨⟨h1, h2⟩, h3⟩, _⟩ := h
  have e : s = s.take 4 ++ s.drop 4 := (List.take_append_drop 4 s).symm
  have hne : s.drop 4 ≠ [] := by intro h; have := congrArg List.length h; simp at this; omega
  have hl : (s.drop 4).getLast hne = 41 := by
    have : (s.drop 4).getLast? = some 41 := by rw [List.getLast?_drop, if_neg (by omega)]; exact h3
    rw [List.getLast?_eq_some_getLast hne] at this
    exact Option.some.inj this
  unfold inner
  conv => lhs; rw [e, h2, ← List.dropLast_concat_getLast hne, hl]
  rw [List.append_assoc]
theorem part_wr {a : List UInt8} {p : Pt} (h : part a = some p) : wr p = 37 :: a ++ [37] ∧ may p ∧ p.1 ≠ 0 := by
  unfold part at h
  split at h
  · rename_i k hk
    simp only [Option.some.injEq] at h
    subst h
    obtain ⟨h1, h2, h3⟩ := kindFrom_some _ _ _ hk
    refine ⟨?_, .inr (.inr ⟨by omega, rfl⟩), by simp only; omega⟩
    unfold wr
    rw [if_neg (by simp only; omega), if_neg (by simp only; omega), h3]
  · split at h
    · rename_i hr
      simp only [Option.some.injEq] at h
      subst h
      refine ⟨?_, .inr (.inl rfl), by simp⟩
      unfold wr
      rw [if_neg (by simp), if_pos rfl]
      conv => rhs; rw [isReq_eq hr]
      simp
    · cases h
theorem comp_back : ∀ (r : List UInt8) (at_ : Nat) (out : List Pt) (text : List UInt8) (m : Option (List UInt8)) (P : List Pt) (a : Nat), comp r at_ out text m = (P, a, 0) →
    write P = write (flush out text) ++ (match m with | none => [] | some acc => 37 :: acc) ++ r
  | [], at_, out, text, none, P, a, h => by
    simp only [comp, Prod.mk.injEq] at h
    rw [← h.1]; simp
  | [], at_, out, text, some acc, P, a, h => by simp [comp] at h
  | b :: r, at_, out, text, none, P, a, h => by
    unfold comp at h
    split at h
    · simp at h
    · split at h
      · rename_i hb
        subst hb
        have := comp_back r _ out text (some []) P a h
        rw [this]; simp
      · rename_i hb
        have := comp_back r _ out (text ++ [b]) none P a h
        rw [this, write_flush, write_flush, esc_append]
        simp [esc, hb]
  | b :: r, at_, out, text, some acc, P, a, h => by
    unfold comp at h
    split at h
    · rename_i hb
      subst hb
      split at h
      · rename_i ha
        subst ha
        have := comp_back r _ out (text ++ [37]) none P a h
        rw [this, write_flush, write_flush, esc_append]
        simp [esc]
      · cases hp : part acc with
        | none => rw [hp] at h; simp at h
        | some p =>
          rw [hp] at h
          have := comp_back r _ (flush out text ++ [p]) [] none P a h
          rw [this, write_flush, write_append]
          simp [esc, write, (part_wr hp).1]
    · have := comp_back r _ out text (some (acc ++ [b])) P a h
      rw [this]; simp
theorem compile_back {s : List UInt8} {P : List Pt} {a : Nat} (h : compile s = (P, a, 0)) : write P = s := by
  unfold compile at h
  split at h
  · simp at h
  · have := comp_back s 0 [] [] none P a h
    rw [this, write_flush]; simp [write, esc]
/-- Nothing is left of what is no format. -/
theorem comp_bad : ∀ (r : List UInt8) (at_ : Nat) (out : List Pt) (text : List UInt8) (m : Option (List UInt8)), (comp r at_ out text m).2.2 ≠ 0 → (comp r at_ out text m).1 = []
  | [], at_, out, text, none, h => by simp [comp] at h
  | [], at_, out, text, some acc, h => by simp [comp]
  | b :: r, at_, out, text, none, h => by
    unfold comp at h ⊢
    split
    · rfl
    · rename_i h1
      rw [if_neg h1] at h
      split
      · rename_i h2; rw [if_pos h2] at h; exact comp_bad r _ _ _ _ h
      · rename_i h2; rw [if_neg h2] at h; exact comp_bad r _ _ _ _ h
  | b :: r, at_, out, text, some acc, h => by
    unfold comp at h ⊢
    split
    · rename_i h1
      rw [if_pos h1] at h
      split
      · rename_i h2; rw [if_pos h2] at h; exact comp_bad r _ _ _ _ h
      · rename_i h2
        rw [if_neg h2] at h
        cases hp : part acc with
        | none => rfl
        | some p => rw [hp] at h; exact comp_bad r _ _ _ _ h
    · rename_i h1; rw [if_neg h1] at h; exact comp_bad r _ _ _ _ h
theorem compile_bad {s : List UInt8} (h : (compile s).2.2 ≠ 0) : (compile s).1 = [] := by
  unfold compile at h ⊢
  split
  · rfl
  · rename_i h1; rw [if_neg h1] at h; exact comp_bad _ _ _ _ _ h
/-- All parts may be. -/
theorem comp_may : ∀ (r : List UInt8) (at_ : Nat) (out : List Pt) (text : List UInt8) (m : Option (List UInt8)), (∀ p ∈ out, may p) → ∀ p ∈ (comp r at_ out text m).1, may p
  | [], at_, out, text, none, h, p, hp => by
    simp only [comp] at hp
    unfold flush at hp
    split at hp
    · exact h p hp
    · rcases List.mem_append.1 hp with hp | hp
      · exact h p hp
      · simp at hp; subst hp; exact .inl rfl
  | [], at_, out, text, some acc, h, p, hp => by simp [comp] at hp
  | b :: r, at_, out, text, none, h, p, hp => by
    unfold comp at hp
    split at hp
    · simp at hp
    · split at hp
      · exact comp_may r _ _ _ _ h p hp
      · exact comp_may r _ _ _ _ h p hp
  | b :: r, at_, out, text, some acc, h, p, hp => by
    unfold comp at hp
    split at hp
    · split at hp
      · exact comp_may r _ _ _ _ h p hp
      · cases hq : part acc with
        | none => rw [hq] at hp; simp at hp
        | some q =>
          rw [hq] at hp
          refine comp_may r _ _ _ _ ?_ p hp
          intro x hx
          rcases List.mem_append.1 hx with hx | hx
          · unfold flush at hx
            split at hx
            · exact h x hx
            · rcases List.mem_append.1 hx with hx | hx
              · exact h x hx
              · simp at hx; subst hx; exact .inl rfl
          · simp at hx; subst hx; exact (part_wr hq).2.1
    · exact comp_may r _ _ _ _ h p hp
theorem compile_may (s : List UInt8) : ∀ p ∈ (compile s).1, may p := by
  unfold compile
  split
  · intro p hp; simp at hp
  · exact comp_may _ _ _ _ _ (by intro p hp; simp at hp)
/-- Behind a sign: what stands up to the next one. -/
theorem comp_piece (pre : List UInt8) (hpre : 37 ∉ pre) : ∀ (acc post : List UInt8) (at_ : Nat) (out : List Pt) (text : List UInt8), comp (pre ++ 37 :: post) at_ out text (some acc) =
    if acc ++ pre = [] then comp post (at_ + pre.length + 1) out (text ++ [37]) none
    else match part (acc ++ pre) with
      | none => ([], at_ - acc.length - 1, 3)
      | some p => comp post (at_ + pre.length + 1) (flush out text ++ [p]) [] none := by
  induction pre with
  | nil =>
    intro acc post at_ out text
    rw [List.nil_append, List.append_nil]
    conv => lhs; unfold comp
    rw [if_pos rfl]
    rfl
  | cons b t ih =>
    intro acc post at_ out text
    have hb : b ≠ 37 := by intro h; apply hpre; simp [h]
    rw [List.cons_append]
    conv => lhs; unfold comp
    rw [if_neg hb, ih (by intro h; apply hpre; simp [h])]
    have e : acc ++ [b] ++ t = acc ++ b :: t := by simp
    rw [e]
    have e2 : at_ + 1 + t.length + 1 = at_ + (b :: t).length + 1 := by simp only [List.length_cons]; omega
    have e3 : at_ + 1 - (acc ++ [b]).length - 1 = at_ - acc.length - 1 := by simp only [List.length_append, List.length_cons, List.length_nil]; omega
    rw [e2, e3]
theorem comp_open (r : List UInt8) (hr : 37 ∉ r) : ∀ (acc : List UInt8) (at_ : Nat) (out : List Pt) (text : List UInt8), comp r at_ out text (some acc) = ([], at_ - acc.length - 1, 3) := by
  induction r with
  | nil => intro acc at_ out text; rfl
  | cons b t ih =>
    intro acc at_ out text
    have hb : b ≠ 37 := by intro h; apply hr; simp [h]
    unfold comp
    rw [if_neg hb, ih (by intro h; apply hr; simp [h])]
    have e3 : at_ + 1 - (acc ++ [b]).length - 1 = at_ - acc.length - 1 := by simp only [List.length_append, List.length_cons, List.length_nil]; omega
    rw [e3]
end Fm
end Go.Proofs.YtmknemnpjjcdbaaDoor
