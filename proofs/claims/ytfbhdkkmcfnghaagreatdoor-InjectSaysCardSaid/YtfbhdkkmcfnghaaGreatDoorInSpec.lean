/- Digits to the base 16, and a traceparent's text, in plain Lean. No condition. -/
import Derived.Test.YtfbhdkkmcfnghaaGreatDoorOctetSpec
namespace Go.Proofs.YtfbhdkkmcfnghaaGreatDoor

/-- What a traceparent says. -/
structure Pr where
  hi : Nat
  lo : Nat
  sp : Nat
  fl : Int

namespace In
def dig (d : UInt8) : UInt8 := UInt8.ofNat (if d.toNat < 10 then 48 + d.toNat else 87 + d.toNat)
def value (b : UInt8) : Nat := if 48 ≤ b.toNat ∧ b.toNat ≤ 57 then b.toNat - 48 else if 97 ≤ b.toNat ∧ b.toNat ≤ 102 then b.toNat - 87 else 16
def isHex (l : List UInt8) : Bool := l.all fun b => decide (value b < 16)
def num (l : List UInt8) : Nat := l.foldl (fun a b => 16 * a + value b) 0
def hex (k n : Nat) : List UInt8 := (Oc.digs 16 k n).map dig
def unhex (l : List UInt8) : Nat × Nat := if 1 ≤ l.length ∧ l.length ≤ 16 ∧ isHex l = true then (num l, 0) else (0, 3)

theorem value_dig : ∀ n : Nat, n < 16 → value (dig (UInt8.ofNat n)) = n := by decide
theorem dig_free : ∀ n : Nat, n < 16 → (48 ≤ (dig (UInt8.ofNat n)).toNat ∧ (dig (UInt8.ofNat n)).toNat ≤ 57) ∨ (97 ≤ (dig (UInt8.ofNat n)).toNat ∧ (dig (UInt8.ofNat n)).toNat ≤ 102) := by decide
theorem value_le (b : UInt8) : value b ≤ 16 := by unfold value; split <;> (try split) <;> omega
theorem hex_len (k n : Nat) : (hex k n).length = k := by simp [hex, Oc.digs_len]
theorem num_snoc (l : List UInt8) (b : UInt8) : num (l ++ [b]) = 16 * num l + value b := by simp [num]
theorem hex_succ (k n : Nat) : hex (k + 1) n = hex k (n / 16) ++ [dig (UInt8.ofNat (n % 16))] := by simp [hex, Oc.digs]
theorem isHex_hex (k : Nat) : ∀ n, isHex (hex k n) = true := by
  induction k with
  | zero => intro n; rfl
  | succ k ih =>
    intro n
    have h1 := ih (n / 16)
    unfold isHex at *
    rw [hex_succ, List.all_append, h1]
    have := value_dig (n % 16) (by omega)
    simp only [List.all_cons, List.all_nil, this, Bool.and_true, Bool.true_and, decide_eq_true_eq]
    omega
theorem hex_bytes (k : Nat) : ∀ n, ∀ b ∈ hex k n, (48 ≤ b.toNat ∧ b.toNat ≤ 57) ∨ (97 ≤ b.toNat ∧ b.toNat ≤ 102) := by
  induction k with
  | zero => intro n b hb; simp [hex, Oc.digs] at hb
  | succ k ih =>
    intro n b hb
    rw [hex_succ] at hb
    rcases List.mem_append.1 hb with h | h
    · exact ih _ b h
    · simp at h; subst h; exact dig_free _ (by omega)
theorem num_hex (k : Nat) : ∀ n, n < 16 ^ k → num (hex k n) = n := by
  induction k with
  | zero => intro n h; simp at h; subst h; rfl
  | succ k ih =>
    intro n h
    rw [Nat.pow_succ] at h
    rw [hex_succ, num_snoc, ih _ (by omega), value_dig _ (by omega)]
    omega
theorem num_lt (l : List UInt8) (h : isHex l = true) : num l < 16 ^ l.length := by
  suffices hh : ∀ n (l : List UInt8), l.length = n → isHex l = true → num l < 16 ^ n from hh _ l rfl h
  intro n
  induction n with
  | zero => intro l hl _; rw [List.eq_nil_of_length_eq_zero hl]; simp [num]
  | succ n ih =>
    intro l hl hx
    have hne : l ≠ [] := by intro h0; simp [h0] at hl
    have hx2 := hx
    rw [← List.dropLast_concat_getLast hne] at hx2
    unfold isHex at hx2
    rw [List.all_append] at hx2
    simp only [Bool.and_eq_true, List.all_cons, List.all_nil, Bool.and_true, decide_eq_true_eq] at hx2
    rw [← List.dropLast_concat_getLast hne, num_snoc]
    have h1 := ih l.dropLast (by simp [hl]) hx2.1
    have h2 := hx2.2
    rw [Nat.pow_succ]; omega
theorem num_next (l : List UInt8) (j : Nat) (h : j < l.length) : num (l.take (j + 1)) = 16 * num (l.take j) + value l[j] := by
  rw [List.take_succ_eq_append_getElem h, num_snoc]
theorem isHex_next (l : List UInt8) (j : Nat) (h : j < l.length) : isHex (l.take (j + 1)) = (isHex (l.take j) && decide (value l[j] < 16)) := by
  unfold isHex
  rw [List.take_succ_eq_append_getElem h, List.all_append]
  simp
theorem isHex_bad {l : List UInt8} {j : Nat} (h : j < l.length) (hb : ¬ value l[j] < 16) : isHex l = false := by
  unfold isHex
  rw [List.all_eq_false]
  exact ⟨l[j], List.getElem_mem h, by simpa using hb⟩
theorem isHex_append (a b : List UInt8) : isHex (a ++ b) = (isHex a && isHex b) := by simp [isHex]
theorem isHex_take {l : List UInt8} (h : isHex l = true) (k : Nat) : isHex (l.take k) = true := by
  unfold isHex at *
  rw [List.all_eq_true] at *
  exact fun x hx => h x (List.mem_of_mem_take hx)
theorem isHex_drop {l : List UInt8} (h : isHex l = true) (k : Nat) : isHex (l.drop k) = true := by
  unfold isHex at *
  rw [List.all_eq_true] at *
  exact fun x hx => h x (List.mem_of_mem_drop hx)

/-- The piece of a text. -/
def cut (s : List UInt8) (a b : Nat) : List UInt8 := (s.drop a).take (b - a)
theorem cut_len {s : List UInt8} {a b : Nat} (h : b ≤ s.length) : (cut s a b).length = b - a := by simp [cut]; omega

def prText (p : Pr) : List UInt8 := [48, 48, 45] ++ (hex 16 p.hi ++ hex 16 p.lo) ++ [45] ++ hex 16 p.sp ++ [45] ++ hex 2 p.fl.toNat
def prErr (p : Pr) : Nat := if (p.hi = 0 ∧ p.lo = 0) ∨ p.sp = 0 then 11 else if p.fl < 0 ∨ 255 < p.fl then 12 else 0
def prWrite (p : Pr) : List UInt8 := if prErr p = 0 then prText p else []
def at_ (s : List UInt8) (i : Nat) : UInt8 := s.getD i 0
def pieceOk (s : List UInt8) (a b : Nat) : Bool := isHex (cut s a b)
def formed (s : List UInt8) : Bool :=
  decide (55 ≤ s.length) && (isHex (cut s 0 2) && (isHex (cut s 3 35) && at_ s 2 == 45) && (isHex (cut s 36 52) && at_ s 35 == 45) && (isHex (cut s 53 55) && at_ s 52 == 45)) &&
    (if s.take 2 = [102, 102] then false else if s.take 2 = [48, 48] then s.length == 55 else s.length == 55 || at_ s 55 == 45)
def zero : Pr := ⟨0, 0, 0, 0⟩
/-- The numbers that a text of the form holds. -/
def prOf (s : List UInt8) : Pr := ⟨num (cut s 3 19), num (cut s 19 35), num (cut s 36 52), (num (cut s 53 55) : Nat)⟩
def prRead (s : List UInt8) : Pr × Nat :=
  if formed s = true then if ((prOf s).hi = 0 ∧ (prOf s).lo = 0) ∨ (prOf s).sp = 0 then (zero, 11) else (prOf s, 0) else (zero, 3)

theorem text_parts {A B C D : List UInt8} (hA : A.length = 16) (hB : B.length = 16) (hC : C.length = 16) (hD : D.length = 2) :
    ∀ T, T = [48, 48, 45] ++ (A ++ B) ++ [45] ++ C ++ [45] ++ D → T.length = 55 ∧ cut T 0 2 = [48, 48] ∧ T.take 2 = [48, 48] ∧ at_ T 2 = 45 ∧ at_ T 35 = 45 ∧ at_ T 52 = 45 ∧ cut T 3 35 = A ++ B ∧ cut T 3 19 = A ∧ cut T 19 35 = B ∧ cut T 36 52 = C ∧ cut T 53 55 = D := by
  rintro T rfl
  have g2 : ∀ (X Y : List UInt8) (n k : Nat), X.length = n → (X ++ Y).drop (n + k) = Y.drop k := by
    intro X Y n k h; subst h; simp
  have g3 : ∀ (X Y : List UInt8) (n : Nat), X.length = n → (X ++ Y).take n = X := by
    intro X Y n h; subst h; simp
  have e : ∀ Z : List UInt8, [48, 48, 45] ++ (A ++ B) ++ [45] ++ C ++ [45] ++ Z = 48 :: 48 :: 45 :: (A ++ (B ++ (45 :: (C ++ (45 :: Z))))) := by intro Z; simp
  rw [e]
  have d3 : ∀ (Z : List UInt8) k, (48 :: 48 :: 45 :: Z : List UInt8).drop (3 + k) = Z.drop k := by intro Z k; rw [Nat.add_comm]; rfl
  have cd : ∀ (s : List UInt8) a b, a ≤ b → cut s a b = (s.drop a).take (b - a) := fun _ _ _ _ => rfl
  have s3 : (48 :: 48 :: 45 :: (A ++ (B ++ (45 :: (C ++ (45 :: D))))) : List UInt8).drop 3 = A ++ (B ++ (45 :: (C ++ (45 :: D)))) := rfl
  have s19 : (48 :: 48 :: 45 :: (A ++ (B ++ (45 :: (C ++ (45 :: D))))) : List UInt8).drop 19 = B ++ (45 :: (C ++ (45 :: D))) := by
    rw [show (19 : Nat) = 3 + 16 from rfl, d3, show (16 : Nat) = 16 + 0 from rfl, g2 _ _ _ _ hA]; rfl
  have s35 : (48 :: 48 :: 45 :: (A ++ (B ++ (45 :: (C ++ (45 :: D))))) : List UInt8).drop 35 = 45 :: (C ++ (45 :: D)) := by
    rw [show (35 : Nat) = 3 + (16 + 16) from rfl, d3, g2 _ _ _ _ hA, show (16 : Nat) = 16 + 0 from rfl, g2 _ _ _ _ hB]; rfl
  have s36 : (48 :: 48 :: 45 :: (A ++ (B ++ (45 :: (C ++ (45 :: D))))) : List UInt8).drop 36 = C ++ (45 :: D) := by
    rw [show (36 : Nat) = 35 + 1 from rfl, ← List.drop_drop, s35]; rfl
  have s52 : (48 :: 48 :: 45 :: (A ++ (B ++ (45 :: (C ++ (45 :: D))))) : List UInt8).drop 52 = 45 :: D := by
    rw [show (52 : Nat) = 36 + 16 from rfl, ← List.drop_drop, s36, show (16 : Nat) = 16 + 0 from rfl, g2 _ _ _ _ hC]; rfl
  have s53 : (48 :: 48 :: 45 :: (A ++ (B ++ (45 :: (C ++ (45 :: D))))) : List UInt8).drop 53 = D := by
    rw [show (53 : Nat) = 52 + 1 from rfl, ← List.drop_drop, s52]; rfl
  have at_drop : ∀ (s : List UInt8) n x r, s.drop n = x :: r → at_ s n = x := by
    intro s n x r h
    unfold at_
    have := congrArg List.head? h
    rw [List.head?_drop] at this
    simp at this
    simp [this]
  refine ⟨by simp [hA, hB, hC, hD], rfl, rfl, rfl, at_drop _ _ _ _ s35, at_drop _ _ _ _ s52, ?_, ?_, ?_, ?_, ?_⟩
  · rw [cd _ _ _ (by omega), s3, ← List.append_assoc, show (35 - 3 : Nat) = 32 from rfl, g3 _ _ _ (by simp [hA, hB])]
  · rw [cd _ _ _ (by omega), s3, show (19 - 3 : Nat) = 16 from rfl, g3 _ _ _ hA]
  · rw [cd _ _ _ (by omega), s19, show (35 - 19 : Nat) = 16 from rfl, g3 _ _ _ hB]
  · rw [cd _ _ _ (by omega), s36, show (52 - 36 : Nat) = 16 from rfl, g3 _ _ _ hC]
  · rw [cd _ _ _ (by omega), s53, show (55 - 53 : Nat) = 2 from rfl, List.take_of_length_le (by omega)]
theorem prText_len (p : Pr) : (prText p).length = 55 := by simp [prText, hex_len]
structure Pr.fits (p : Pr) : Prop where
  hi : p.hi < 18446744073709551616
  lo : p.lo < 18446744073709551616
  sp : p.sp < 18446744073709551616
theorem read_text {p : Pr} (h : prErr p = 0) (hf : Pr.fits p) : prRead (prText p) = (p, 0) := by
  obtain ⟨h1, h2, h3, h4, h5, h6, h7, h8, h9, h10, h11⟩ := text_parts (hex_len 16 p.hi) (hex_len 16 p.lo) (hex_len 16 p.sp) (hex_len 2 p.fl.toNat) (prText p) rfl
  have he : ¬ ((p.hi = 0 ∧ p.lo = 0) ∨ p.sp = 0) ∧ ¬ (p.fl < 0 ∨ 255 < p.fl) := by
    unfold prErr at h
    split at h
    · omega
    · split at h
      · omega
      · constructor <;> assumption
  have hfm : formed (prText p) = true := by
    unfold formed
    rw [h1, h2, h3, h4, h5, h6, h7, h10, h11, isHex_append, isHex_hex, isHex_hex, isHex_hex, isHex_hex]
    rfl
  have e16 : (16 : Nat) ^ 16 = 18446744073709551616 := rfl
  have hof : prOf (prText p) = p := by
    unfold prOf
    rw [h8, h9, h10, h11, num_hex _ _ (by rw [e16]; exact hf.hi), num_hex _ _ (by rw [e16]; exact hf.lo), num_hex _ _ (by rw [e16]; exact hf.sp), num_hex _ _ (by have : (16 : Nat) ^ 2 = 256 := rfl; omega)]
    obtain ⟨hi, lo, sp, fl⟩ := p
    simp only [Pr.mk.injEq, true_and] at *
    omega
  unfold prRead
  rw [if_pos hfm, hof, if_neg he.1]
end In
end Go.Proofs.YtfbhdkkmcfnghaaGreatDoor
