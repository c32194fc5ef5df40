/- Books, in plain Lean: rows of keys and values, by keys. No condition. -/
import Derived.Test.YthbpcdoddcacdaaLib
import Derived.Maps.OwnOps
import Derived.Maps.OwnSet
import Derived.Maps.Ext
import Derived.Sort.KeysCollected
namespace Go.Proofs.Ythbpcdoddcacdaa
open Go.RowKit
set_option linter.unusedVariables false
namespace Bk

abbrev Tx := List UInt8
abbrev Bd := List (Tx × Tx)
theorem less_before : ∀ a b : Tx, Op.bytesLess a b = bytesBefore a b
  | [], [] => rfl
  | _ :: _, [] => rfl
  | [], _ :: _ => rfl
  | a :: x, b :: y => by simp only [Op.bytesLess, bytesBefore, less_before x y]
theorem before_le : ∀ a b : Tx, (a ≤ b) ↔ bytesBefore b a = false
  | [], b => by cases b <;> simp [bytesBefore]
  | a :: x, [] => by simp [bytesBefore]
  | a :: x, b :: y => by
    rw [List.cons_le_cons_iff, before_le x y]
    simp only [bytesBefore, Bool.or_eq_false_iff, Bool.and_eq_false_iff, decide_eq_false_iff_not, beq_eq_false_iff_ne]
    constructor
    · rintro (h | ⟨rfl, h⟩)
      · exact ⟨fun h2 => by have := UInt8.lt_asymm h; exact this h2, .inl (fun e => by subst e; exact UInt8.lt_irrefl _ h)⟩
      · exact ⟨UInt8.lt_irrefl _, .inr h⟩
    · rintro ⟨h1, h2⟩
      by_cases e : a = b
      · subst e
        refine .inr ⟨rfl, ?_⟩
        rcases h2 with h | h
        · exact absurd rfl h
        · exact h
      · left
        rcases UInt8.lt_or_lt_of_ne e with h | h
        · exact h
        · exact absurd h h1

def ins (x : Tx × Tx) : Bd → Bd
  | [] => [x]
  | y :: r => if bytesBefore x.1 y.1 then x :: y :: r else y :: ins x r
def put (L : Bd) (k v : Tx) : Bd := ins (k, v) (L.filter fun p => !(p.1 == k))
def get (L : Bd) (k : Tx) : Option Tx := (L.find? fun p => p.1 == k).map Prod.snd
def has (L : Bd) (k : Tx) : Bool := L.any fun p => p.1 == k
def Sorted (L : Bd) : Prop := L.Pairwise fun p q => bytesBefore p.1 q.1 = true

theorem get_has (L : Bd) (k : Tx) : (get L k).isSome = has L k := by
  unfold get has
  rw [Option.isSome_map, Bool.eq_iff_iff, List.find?_isSome]
  simp
theorem ins_mem {x y : Tx × Tx} : ∀ {L : Bd}, y ∈ ins x L ↔ y = x ∨ y ∈ L
  | [] => by simp [ins]
  | z :: r => by
    unfold ins
    split
    · simp
    · rw [List.mem_cons, ins_mem (L := r), List.mem_cons]
      constructor
      · rintro (h | h | h)
        · exact .inr (.inl h)
        · exact .inl h
        · exact .inr (.inr h)
      · rintro (h | h | h)
        · exact .inr (.inl h)
        · exact .inl h
        · exact .inr (.inr h)
theorem ins_sorted {x : Tx × Tx} : ∀ {L : Bd}, Sorted L → (∀ p ∈ L, p.1 ≠ x.1) → Sorted (ins x L)
  | [], _, _ => by simp [ins, Sorted]
  | y :: r, h, hne => by
    obtain ⟨h1, h2⟩ := List.pairwise_cons.1 h
    unfold ins
    split
    · rename_i hb
      refine List.pairwise_cons.2 ⟨fun q hq => ?_, h⟩
      rcases List.mem_cons.1 hq with rfl | hq
      · exact hb
      · exact WideShapes.bytes_trans _ _ _ hb (h1 q hq)
    · rename_i hb
      have hyx : bytesBefore y.1 x.1 = true := by
        rcases WideAt.bytes_total _ _ (hne y (by simp)) with h' | h'
        · exact h'
        · exact absurd h' hb
      refine List.pairwise_cons.2 ⟨fun q hq => ?_, ins_sorted h2 fun p hp => hne p (by simp [hp])⟩
      rcases ins_mem.1 hq with rfl | hq
      · exact hyx
      · exact h1 q hq
theorem put_sorted {L : Bd} (h : Sorted L) (k v : Tx) : Sorted (put L k v) :=
  ins_sorted (List.Pairwise.filter _ h) fun p hp => by have := (List.mem_filter.1 hp).2; simpa using this
theorem ins_len (x : Tx × Tx) : ∀ L : Bd, (ins x L).length = L.length + 1
  | [] => rfl
  | y :: r => by unfold ins; split <;> simp [ins_len x r]
theorem sorted_uniq {L : Bd} (h : Sorted L) : L.Pairwise fun p q => p.1 ≠ q.1 :=
  h.imp fun hb e => by rw [e, WideAt.bytes_irrefl] at hb; cases hb
theorem filter_len {k : Tx} : ∀ {L : Bd}, (L.Pairwise fun p q => p.1 ≠ q.1) → (L.filter fun p => !(p.1 == k)).length + (if has L k then 1 else 0) = L.length
  | [], _ => rfl
  | y :: r, h => by
    obtain ⟨h1, h2⟩ := List.pairwise_cons.1 h
    have ih := filter_len (k := k) h2
    by_cases e : y.1 = k
    · have hno : has r k = false := by
        unfold has
        rw [List.any_eq_false]
        intro p hp
        have := h1 p hp
        rw [e] at this
        simpa using fun h => this h.symm
      rw [hno] at ih
      have hy : has (y :: r) k = true := by unfold has; simp [e]
      rw [hy, List.filter_cons_of_neg (by simp [e])]
      simp at ih ⊢
      exact ih
    · have hy : has (y :: r) k = has r k := by unfold has; simp [e]
      rw [hy, List.filter_cons_of_pos (by simpa using e)]
      simp only [List.length_cons]
      omega
theorem put_len {L : Bd} (h : Sorted L) (k v : Tx) : (put L k v).length = if has L k then L.length else L.length + 1 := by
  have := filter_len (k := k) (sorted_uniq h)
  unfold put
  rw [ins_len]
  by_cases h2 : has L k = true
  · rw [if_pos h2] at this ⊢; omega
  · rw [if_neg h2] at this ⊢; omega
theorem get_ins {k v : Tx} : ∀ {L : Bd}, (∀ p ∈ L, p.1 ≠ k) → get (ins (k, v) L) k = some v
  | [], _ => by simp [ins, get]
  | y :: r, h => by
    unfold ins
    split
    · simp [get]
    · have := get_ins (v := v) (L := r) fun p hp => h p (by simp [hp])
      have hy := h y (by simp)
      unfold get at this ⊢
      rw [List.find?_cons_of_neg (by simpa using hy)]
      exact this
theorem get_ins_other {k v k' : Tx} (hne : k' ≠ k) : ∀ {L : Bd}, get (ins (k, v) L) k' = get L k'
  | [] => by simp [ins, get, Ne.symm hne]
  | y :: r => by
    unfold ins
    split
    · unfold get
      rw [List.find?_cons_of_neg (by simpa using Ne.symm hne)]
    · have := get_ins_other (v := v) hne (L := r)
      unfold get at this ⊢
      by_cases e : y.1 = k'
      · rw [List.find?_cons_of_pos (by simpa using e), List.find?_cons_of_pos (by simpa using e)]
      · rw [List.find?_cons_of_neg (by simpa using e), List.find?_cons_of_neg (by simpa using e)]
        exact this
theorem get_put (L : Bd) (k v : Tx) : get (put L k v) k = some v := get_ins fun p hp => by have := (List.mem_filter.1 hp).2; simpa using this

/-! As the data that a map reads as. -/
def en (p : Tx × Tx) : Lit × DataW Unit := (.string p.1, .lit (.string p.2))
def dat (L : Bd) : DataW Unit := .map (L.map en)
theorem same_str (a b : Tx) : (Lit.string a).sameKey (Lit.string b) = (a == b) := rfl
theorem dat_ins (x : Tx × Tx) : ∀ L : Bd, DataW.insert (en x) (L.map en) = (ins x L).map en
  | [] => rfl
  | y :: r => by
    have e : (en x).1.before (en y).1 = bytesBefore x.1 y.1 := rfl
    unfold ins
    rw [List.map_cons]
    unfold DataW.insert
    rw [e]
    split
    · rfl
    · rw [dat_ins x r, List.map_cons]
theorem dat_put (L : Bd) (k v : Tx) : (dat L).put (.string k) (.lit (.string v)) = dat (put L k v) := by
  unfold dat DataW.put put
  rw [← dat_ins]
  dsimp only
  rw [List.filter_map]
  rfl
theorem dat_at (L : Bd) (k : Tx) (z : DataW Unit) : (dat L).atKey (.string k) z = match get L k with | some v => .lit (.string v) | none => z := by
  unfold dat DataW.atKey get
  simp only [List.find?_map]
  have : ((fun p : Lit × DataW Unit => p.1.sameKey (.string k)) ∘ en) = fun p : Tx × Tx => p.1 == k := rfl
  rw [this]
  cases L.find? (fun p => p.1 == k) <;> rfl
theorem dat_has (L : Bd) (k : Tx) : Maps.has (dat L) (.string k) = has L k := by
  unfold dat has
  rw [Maps.has_eq, List.any_map]
  rfl
theorem dat_size (L : Bd) : Maps.size (dat L) = L.length := by unfold dat; rw [Maps.size_eq, List.length_map]
theorem keys_sorted {L : Bd} (h : Sorted L) {ss : List Tx} (hp : ss.Perm (L.map Prod.fst)) : ss.mergeSort (fun x y => decide (x ≤ y)) = L.map Prod.fst := by
  rw [show ss.mergeSort (fun x y => decide (x ≤ y)) = (L.map Prod.fst).mergeSort (fun x y => decide (x ≤ y)) from mergeSort_of_perm hp]
  refine List.mergeSort_of_pairwise ?_
  rw [List.pairwise_map]
  refine h.imp fun {a b} hab => ?_
  simp only [decide_eq_true_eq, before_le]
  rcases Bool.eq_false_or_eq_true (bytesBefore b.1 a.1) with h2 | h2
  · have := WideShapes.bytes_trans _ _ _ hab h2
    rw [WideAt.bytes_irrefl] at this
    cases this
  · exact h2

/-! The reference's way to put. -/
def wi (k v : Tx) : Bd → Bool → Bd
  | [], d => if d then [] else [(k, v)]
  | y :: r, d =>
    if !d && !bytesBefore y.1 k then (k, v) :: ((if y.1 == k then [] else [y]) ++ wi k v r true)
    else (if y.1 == k then [] else [y]) ++ wi k v r d
theorem wi_true (k v : Tx) : ∀ L : Bd, wi k v L true = L.filter fun p => !(p.1 == k)
  | [] => rfl
  | y :: r => by
    unfold wi
    rw [wi_true k v r]
    by_cases e : y.1 = k
    · simp [e]
    · simp [e]
theorem wi_put (k v : Tx) : ∀ {L : Bd}, Sorted L → wi k v L false = put L k v
  | [], _ => rfl
  | y :: r, h => by
    obtain ⟨h1, h2⟩ := List.pairwise_cons.1 h
    unfold wi
    by_cases hb : bytesBefore y.1 k = true
    · have e : y.1 ≠ k := fun e => by rw [e, WideAt.bytes_irrefl] at hb; cases hb
      have hkb : bytesBefore k y.1 = false := by
        rw [Bool.eq_false_iff]
        intro h3
        have := WideShapes.bytes_trans _ _ _ hb h3
        rw [WideAt.bytes_irrefl] at this
        cases this
      rw [if_neg (by simp [hb]), wi_put k v h2]
      have hye : (y.1 == k) = false := by simpa using e
      unfold put
      rw [List.filter_cons_of_pos (by simpa using e)]
      conv => rhs; unfold ins
      rw [if_neg (show ¬ bytesBefore k y.1 = true by rw [hkb]; simp), hye]
      rfl
    · have hb : bytesBefore y.1 k = false := by simpa using hb
      rw [if_pos (by simp [hb]), wi_true]
      have hfr : ∀ p ∈ r, bytesBefore k p.1 = true := fun p hp => by
        by_cases e : y.1 = k
        · rw [← e]; exact h1 p hp
        · rcases WideAt.bytes_total _ _ e with h3 | h3
          · rw [hb] at h3; cases h3
          · exact WideShapes.bytes_trans _ _ _ h3 (h1 p hp)
      have hin : ∀ M : Bd, (∀ p ∈ M, bytesBefore k p.1 = true) → ins (k, v) M = (k, v) :: M := fun M hM => by
        cases M with
        | nil => rfl
        | cons z t => unfold ins; rw [if_pos (hM z (by simp))]
      unfold put
      by_cases e : y.1 = k
      · rw [List.filter_cons_of_neg (by simp [e]), hin _ fun p hp => hfr p (List.mem_filter.1 hp).1]
        simp [e]
      · have hky : bytesBefore k y.1 = true := by
          rcases WideAt.bytes_total _ _ e with h3 | h3
          · rw [hb] at h3; cases h3
          · exact h3
        rw [List.filter_cons_of_pos (by simpa using e), hin _ fun p hp => by
          rcases List.mem_cons.1 hp with rfl | hp
          · exact hky
          · exact hfr p (List.mem_filter.1 hp).1]
        simp [e]

/-! All books. -/
structure St where
  nodes : Nat
  bk : Nat → Bool → Bd
  lost : Nat
def new (n : Int) : St := ⟨(max 0 (min n 8)).toNat, fun _ _ => [], 0⟩
def bump (l : Nat) : Nat := if l < 1099511627776 then l + 1 else l
def St.of (S : St) (n : Int) (s : Bool) : Bd := if 0 ≤ n ∧ n < S.nodes then S.bk n.toNat s else []
def St.put (S : St) (n : Int) (s : Bool) (k v : Tx) : St × Bool :=
  if 0 ≤ n ∧ n < S.nodes then
    if has (S.bk n.toNat s) k = false ∧ 16 ≤ (S.bk n.toNat s).length then ({ S with lost := bump S.lost }, false)
    else ({ S with bk := fun n' s' => if n' = n.toNat ∧ s' = s then Bk.put (S.bk n.toNat s) k v else S.bk n' s' }, true)
  else (S, false)
structure St.Ok (S : St) : Prop where
  nodes : S.nodes ≤ 8
  lost : S.lost ≤ 1099511627776
  sorted : ∀ n s, Sorted (S.bk n s)
  few : ∀ n s, (S.bk n s).length ≤ 16
theorem new_ok (n : Int) : (new n).Ok := ⟨by simp [new]; omega, by simp [new], fun _ _ => List.Pairwise.nil, fun _ _ => by simp [new]⟩
theorem put_ok {S : St} (h : S.Ok) (n : Int) (s : Bool) (k v : Tx) : (S.put n s k v).1.Ok := by
  unfold St.put
  split
  · split
    · refine ⟨h.nodes, ?_, h.sorted, h.few⟩
      show bump S.lost ≤ _
      have := h.lost
      unfold bump
      split <;> omega
    · rename_i h2
      refine ⟨h.nodes, h.lost, fun n' s' => ?_, fun n' s' => ?_⟩
      · dsimp only; split
        · exact put_sorted (h.sorted _ _) k v
        · exact h.sorted _ _
      · dsimp only; split
        · rw [put_len (h.sorted _ _)]
          have := h.few n.toNat s
          split
          · exact this
          · rename_i h3
            have h3 : has (S.bk n.toNat s) k = false := by simpa using h3
            have : ¬ 16 ≤ (S.bk n.toNat s).length := fun h4 => h2 ⟨h3, h4⟩
            omega
        · exact h.few _ _
  · exact h
end Bk
end Go.Proofs.Ythbpcdoddcacdaa
