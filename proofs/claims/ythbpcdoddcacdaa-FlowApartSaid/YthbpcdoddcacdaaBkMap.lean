/- Books in memory: a block with a map of maps; what stays when it is written. No condition. -/
import Derived.Test.YthbpcdoddcacdaaBkSpec
import Derived.Test.YthbpcdoddcacdaaKit
import Derived.Test.YthbpcdoddcacdaaProg
import Derived.DeepKeys4
namespace Go.Proofs.Ythbpcdoddcacdaa
open Go.RowKit
set_option linter.unusedVariables false

/-- What a value of a book reads as; what a book reads as. -/
def rs : Value → Option (DataW Unit × List MemPlace)
  | .agg ⟨[.string s]⟩ => some (.lit (.string s.data.toList), [])
  | _ => none
def rb : Value → Option (DataW Unit × List MemPlace)
  | .map (some b) => some (.lit (.int .i64 (b : Int)), [])
  | .map none => some (.lit (.bool false), [])
  | _ => none
theorem rs_mk (l : List UInt8) : rs (.agg #[.string (bs l)]) = some (.lit (.string l), []) := rfl
theorem rs_inv {v : Value} {l : List UInt8} {ps : List MemPlace} (h : rs v = some (.lit (.string l), ps)) : v = .agg #[.string (bs l)] := by
  unfold rs at h
  split at h
  · rename_i s
    simp only [Option.some.injEq, Prod.mk.injEq, DataW.lit.injEq, Lit.string.injEq] at h
    obtain ⟨l', rfl⟩ := bs_of s
    rw [bs_data] at h
    rw [h.1]
  · cases h
theorem rb_some {v : Value} {b : Nat} {ps : List MemPlace} (h : rb v = some (.lit (.int .i64 (b : Int)), ps)) : v = .map (some b) := by
  unfold rb at h
  split at h
  · rename_i b'
    simp only [Option.some.injEq, Prod.mk.injEq, DataW.lit.injEq, Lit.int.injEq, true_and] at h
    have h1 := h.1
    have : b' = b := by omega
    rw [this]
  · simp at h
  · cases h
theorem rb_none {v : Value} {ps : List MemPlace} (h : rb v = some (.lit (.bool false), ps)) : v = .map none := by
  unfold rb at h
  split at h
  · simp at h
  · rfl
  · cases h

/-- Whose book: the key, as it stands and as it reads. -/
def plv (n : Nat) (s : Bool) : Value := .agg #[.int .i64 (n : Int), .bool s]
def plk (n : Nat) (s : Bool) : Lit := .string [0, 0, 0, 0, 0, 0, 0, UInt8.ofNat n, if s then 1 else 0]
theorem plk_0f : keyOf Try.prog 141 (plv 0 false) = some (plk 0 false) := by kernel_rfl
theorem plk_0t : keyOf Try.prog 141 (plv 0 true) = some (plk 0 true) := by kernel_rfl
theorem plk_1f : keyOf Try.prog 141 (plv 1 false) = some (plk 1 false) := by kernel_rfl
theorem plk_1t : keyOf Try.prog 141 (plv 1 true) = some (plk 1 true) := by kernel_rfl
theorem plk_2f : keyOf Try.prog 141 (plv 2 false) = some (plk 2 false) := by kernel_rfl
theorem plk_2t : keyOf Try.prog 141 (plv 2 true) = some (plk 2 true) := by kernel_rfl
theorem plk_3f : keyOf Try.prog 141 (plv 3 false) = some (plk 3 false) := by kernel_rfl
theorem plk_3t : keyOf Try.prog 141 (plv 3 true) = some (plk 3 true) := by kernel_rfl
theorem plk_4f : keyOf Try.prog 141 (plv 4 false) = some (plk 4 false) := by kernel_rfl
theorem plk_4t : keyOf Try.prog 141 (plv 4 true) = some (plk 4 true) := by kernel_rfl
theorem plk_5f : keyOf Try.prog 141 (plv 5 false) = some (plk 5 false) := by kernel_rfl
theorem plk_5t : keyOf Try.prog 141 (plv 5 true) = some (plk 5 true) := by kernel_rfl
theorem plk_6f : keyOf Try.prog 141 (plv 6 false) = some (plk 6 false) := by kernel_rfl
theorem plk_6t : keyOf Try.prog 141 (plv 6 true) = some (plk 6 true) := by kernel_rfl
theorem plk_7f : keyOf Try.prog 141 (plv 7 false) = some (plk 7 false) := by kernel_rfl
theorem plk_7t : keyOf Try.prog 141 (plv 7 true) = some (plk 7 true) := by kernel_rfl
theorem plk_ok {n : Nat} (hn : n < 8) (s : Bool) : keyOf Try.prog 141 (plv n s) = some (plk n s) := by
  have : n = 0 ∨ n = 1 ∨ n = 2 ∨ n = 3 ∨ n = 4 ∨ n = 5 ∨ n = 6 ∨ n = 7 := by omega
  rcases this with rfl | rfl | rfl | rfl | rfl | rfl | rfl | rfl <;> cases s
  · exact plk_0f
  · exact plk_0t
  · exact plk_1f
  · exact plk_1t
  · exact plk_2f
  · exact plk_2t
  · exact plk_3f
  · exact plk_3t
  · exact plk_4f
  · exact plk_4t
  · exact plk_5f
  · exact plk_5t
  · exact plk_6f
  · exact plk_6t
  · exact plk_7f
  · exact plk_7t
theorem laidOutP : laidOutB Try.prog = true := by kernel_rfl
theorem placeK : Maps.Keyed Try.prog 141 := Maps.Keyed.of_law (deep_law_laid laidOutP (m := 2) (by omega) (of_decide_eq_true (by kernel_rfl)) (by kernel_rfl) (by kernel_rfl))
theorem strK : Maps.Keyed Try.prog 9 := Maps.string_keyed Try.underlying9
theorem plk_inj {n n' : Nat} {s s' : Bool} (hn : n < 8) (hn' : n' < 8) (h : plk n s = plk n' s') : n = n' ∧ s = s' := by
  unfold plk at h
  simp only [Lit.string.injEq, List.cons.injEq, true_and, and_true] at h
  obtain ⟨h1, h2⟩ := h
  have h3 := congrArg UInt8.toNat h1
  simp only [UInt8.toNat_ofNat'] at h3
  refine ⟨by omega, ?_⟩
  cases s <;> cases s' <;> first | rfl | (exfalso; revert h2; decide)
theorem plk_key {n : Nat} (hn : n < 8) (s : Bool) : WideAt.IsKeyLit (plk n s) := placeK.key (plk_ok hn s)

/-- Only blocks of F may have turned. -/
structure Turn (F : Nat → Prop) (w w' : World) : Prop where
  os : w'.os = w.os
  tape : w'.tape = w.tape
  output : w'.output = w.output
  size : w.heap.size ≤ w'.heap.size
  block : ∀ k, k < w.heap.size → ¬ F k → w'.heap[k]? = w.heap[k]?
theorem Turn.refl (F : Nat → Prop) (w : World) : Turn F w w := ⟨rfl, rfl, rfl, Nat.le_refl _, fun _ _ _ => rfl⟩
theorem Turn.of_below {F : Nat → Prop} {w w' : World} (h : Below w.heap.size w w') : Turn F w w' := ⟨h.os, h.tape, h.output, h.size, fun k hk _ => h.block k hk⟩
theorem Turn.of_grown {F : Nat → Prop} {w w' : World} {b : Nat} (h : w.grownBy w' (some b)) (hb : F b ∨ w.heap.size ≤ b) : Turn F w w' :=
  ⟨h.os, h.tape, h.output, h.size, fun k hk hn => h.block k hk (by intro e; cases e; rcases hb with hb | hb; exact hn hb; omega)⟩
theorem Turn.trans {F F' : Nat → Prop} {a b c : World} (h : Turn F a b) (k : Turn F' b c) (hF : ∀ i, F' i → F i ∨ a.heap.size ≤ i) : Turn F a c :=
  ⟨k.os.trans h.os, k.tape.trans h.tape, k.output.trans h.output, Nat.le_trans h.size k.size, fun i hi hn => (k.block i (Nat.lt_of_lt_of_le hi h.size) (fun hf => by rcases hF i hf with h' | h'; exact hn h'; omega)).trans (h.block i hi hn)⟩
theorem Turn.below {F : Nat → Prop} {B : Nat} {w w' : World} (h : Turn F w w') (hF : ∀ i, F i → B ≤ i) (hB : B ≤ w.heap.size) : Below B w w' :=
  ⟨h.os, h.tape, h.output, h.size, fun k hk => h.block k (by omega) (fun hf => by have := hF k hf; omega)⟩
/-- A map whose block is none of those that turned. -/
theorem owns_turn {w w' : World} {F : Nat → Prop} {k : TypeId} {R : Value → Option (DataW Unit × List MemPlace)} {b n : Nat} {D : DataW Unit} (h : w.ownsMap Try.prog k R b n D) (ht : Turn F w w') (hb : ¬ F b) : w'.ownsMap Try.prog k R b n D := by
  have hlt := h.lt
  obtain ⟨es, clock, hb', rest⟩ := h
  exact ⟨es, clock, (ht.block b hlt hb).trans hb', rest⟩
theorem held_turn {w w' : World} {F : Nat → Prop} {b : Nat} {cs : List Value} (h : Held w b cs) (ht : Turn F w w') (hb : ¬ F b) : Held w' b cs := by
  have hl := h.lt
  obtain ⟨t, e⟩ := h
  exact ⟨t, (ht.block b hl hb).trans e⟩
theorem owns_size {w : World} {k : TypeId} {R : Value → Option (DataW Unit × List MemPlace)} {b n : Nat} {D : DataW Unit} (h : w.ownsMap Try.prog k R b n D) : w.ownsMap Try.prog k R b (Maps.size D) D := by
  obtain ⟨es, clock, hb, F, hs, rfl⟩ := h
  exact ⟨es, clock, hb, F, by simp [Maps.size, length_sorted], rfl⟩
theorem owns_below {w w' : World} {k : TypeId} {R : Value → Option (DataW Unit × List MemPlace)} {b n : Nat} {D : DataW Unit} (h : w.ownsMap Try.prog k R b n D) (hb : Below w.heap.size w w') : w'.ownsMap Try.prog k R b n D :=
  owns_turn (F := fun _ => False) h (Turn.of_below hb) (fun h => h)

/-- Books in memory: where the map of books lies, which books were made and where. -/
structure BK (w : World) (F : Nat → Prop) (g : Nat) (S : Bk.St) (m N : Nat) (Do : DataW Unit) (blk : Nat → Bool → Option Nat) : Prop where
  head : Held w g [.int .i64 (S.nodes : Nat), .map (some m), .int .i64 (S.lost : Nat)]
  outer : w.ownsMap Try.prog 141 rb m N Do
  no : ∀ n s, n < S.nodes → blk n s = none → Maps.has Do (plk n s) = false
  yes : ∀ n s b, n < S.nodes → blk n s = some b → Maps.has Do (plk n s) = true ∧ ∀ z, Do.atKey (plk n s) z = .lit (.int .i64 (b : Nat))
  inner : ∀ n s b, n < S.nodes → blk n s = some b → w.ownsMap Try.prog 9 rs b (S.bk n s).length (Bk.dat (S.bk n s))
  nil : ∀ n s, n < S.nodes → blk n s = none → S.bk n s = []
  inj : ∀ n s n' s' b, n < S.nodes → n' < S.nodes → blk n s = some b → blk n' s' = some b → n = n' ∧ s = s'
  own : F g ∧ F m ∧ ∀ n s b, n < S.nodes → blk n s = some b → F b
  gm : g ≠ m
  ne : ∀ n s b, n < S.nodes → blk n s = some b → b ≠ m ∧ b ≠ g
  ok : S.Ok
/-- The same, the places hidden. -/
def BKs (w : World) (F : Nat → Prop) (g : Nat) (S : Bk.St) (c : Nat) : Prop := ∃ m N Do blk, N ≤ c ∧ BK w F g S m N Do blk
section
variable {w w' : World} {F F' : Nat → Prop} {g m N : Nat} {S : Bk.St} {Do : DataW Unit} {blk : Nat → Bool → Option Nat}
theorem BK.turn (h : BK w F g S m N Do blk) (ht : Turn F' w w') (hF : ∀ k, F k → ¬ F' k) : BK w' F g S m N Do blk :=
  { h with
    head := held_turn h.head ht (hF _ h.own.1)
    outer := owns_turn h.outer ht (hF _ h.own.2.1)
    inner := fun n s b hn hb => owns_turn (h.inner n s b hn hb) ht (hF _ (h.own.2.2 n s b hn hb)) }
theorem BK.keep (h : BK w F g S m N Do blk) (hb : Below w.heap.size w w') : BK w' F g S m N Do blk :=
  h.turn (F' := fun _ => False) (Turn.of_below hb) fun _ _ hf => hf
theorem BKs.keep {c : Nat} (h : BKs w F g S c) (hb : Below w.heap.size w w') : BKs w' F g S c := let ⟨m, N, Do, blk, hn, hk⟩ := h; ⟨m, N, Do, blk, hn, hk.keep hb⟩
theorem BKs.turn {c : Nat} (h : BKs w F g S c) (ht : Turn F' w w') (hF : ∀ k, F k → ¬ F' k) : BKs w' F g S c := let ⟨m, N, Do, blk, hn, hk⟩ := h; ⟨m, N, Do, blk, hn, hk.turn ht hF⟩
/-- One key more was lost. -/
theorem BK.lose (h : BK w F g S m N Do blk) {l : Nat} (hl : l ≤ 1099511627776) : BK (w.setCell ⟨g, 2, none⟩ (.int .i64 (l : Nat))) F g { S with lost := l } m N Do blk ∧ Turn F w (w.setCell ⟨g, 2, none⟩ (.int .i64 (l : Nat))) := by
  have hO : Only g w (w.setCell ⟨g, 2, none⟩ (.int .i64 (l : Nat))) := Only.set g w 2 _
  have ht : Turn (fun k => k = g) w (w.setCell ⟨g, 2, none⟩ (.int .i64 (l : Nat))) := Turn.of_grown hO (.inl rfl)
  refine ⟨{ h with head := h.head.set 2 _, outer := owns_turn h.outer ht (fun e => h.gm e.symm), inner := fun n s b hn hb => owns_turn (h.inner n s b hn hb) ht (h.ne n s b hn hb).2, ok := ⟨h.ok.nodes, hl, h.ok.sorted, h.ok.few⟩ }, Turn.of_grown hO (.inl h.own.1)⟩
/-- A book was made. -/
theorem BK.make (h : BK w F g S m N Do blk) {n : Nat} {s : Bool} (hn : n < S.nodes) (hnone : blk n s = none) {w1 w2 : World} (hw1 : w1 = w.alloc (.map #[] 0)) {N' : Nat} (hm : w2.ownsMap Try.prog 141 rb m N' (Do.put (plk n s) (.lit (.int .i64 (w.heap.size : Nat))))) (hg : w1.grownBy w2 (some m)) :
    BK w2 (fun k => F k ∨ k = w.heap.size) g S m N' (Do.put (plk n s) (.lit (.int .i64 (w.heap.size : Nat)))) (fun n' s' => if n' = n ∧ s' = s then some w.heap.size else blk n' s') ∧ Turn F w w2 := by
  subst hw1
  have hb1 : Below w.heap.size w (w.alloc (.map #[] 0)) := Below.alloc' (Below.self w) _
  have h1 := h.keep hb1
  have ht : Turn (fun k => k = m) (w.alloc (.map #[] 0)) w2 := Turn.of_grown hg (.inl rfl)
  have hn8 : n < 8 := Nat.lt_of_lt_of_le hn h.ok.nodes
  have hmade : (w.alloc (.map #[] 0)).ownsMap Try.prog 9 rs w.heap.size 0 (.map []) := World.ownsMap_made w Try.prog 9 rs
  have hmlt := h.outer.lt
  have hglt := h.head.lt
  have hIM : Maps.IsMap Do := h.outer.isMap
  refine ⟨{ head := ?_, outer := hm, no := ?_, yes := ?_, inner := ?_, nil := ?_, inj := ?_, own := ?_, gm := h.gm, ne := ?_, ok := h.ok }, ?_⟩
  · exact held_turn h1.head ht (fun e => h.gm e)
  · intro n' s' hn' hb
    try dsimp only at hb
    split at hb
    · cases hb
    · rename_i hne
      rw [Maps.has_put_other (fun e => hne (plk_inj (Nat.lt_of_lt_of_le hn' h.ok.nodes) hn8 e))]
      exact h.no n' s' hn' hb
  · intro n' s' b hn' hb
    try dsimp only at hb
    split at hb
    · rename_i he
      obtain ⟨rfl, rfl⟩ := he
      cases hb
      exact ⟨Maps.has_put_same hIM (plk_key hn8 _) _, fun z => Maps.atKey_put_same hIM (plk_key hn8 _) _ z⟩
    · rename_i hne
      have hk : plk n' s' ≠ plk n s := fun e => hne (plk_inj (Nat.lt_of_lt_of_le hn' h.ok.nodes) hn8 e)
      obtain ⟨h2, h3⟩ := h.yes n' s' b hn' hb
      exact ⟨by rw [Maps.has_put_other hk]; exact h2, fun z => by rw [Maps.atKey_put_other hk]; exact h3 z⟩
  · intro n' s' b hn' hb
    try dsimp only at hb
    split at hb
    · rename_i he
      obtain ⟨rfl, rfl⟩ := he
      cases hb
      rw [h.nil _ _ hn' hnone]
      exact owns_turn hmade ht (by omega)
    · exact owns_turn (h1.inner n' s' b hn' hb) ht (h.ne n' s' b hn' hb).1
  · intro n' s' hn' hb
    try dsimp only at hb
    split at hb
    · cases hb
    · exact h.nil n' s' hn' hb
  · intro a s1 a' s1' b ha ha' hb hb'
    try dsimp only at hb hb'
    split at hb
    · rename_i he
      cases hb
      split at hb'
      · rename_i he'
        exact ⟨he.1.trans he'.1.symm, he.2.trans he'.2.symm⟩
      · have := (h.inner a' s1' _ ha' hb').lt
        omega
    · split at hb'
      · cases hb'
        have := (h.inner a s1 _ ha hb).lt
        omega
      · exact h.inj a s1 a' s1' b ha ha' hb hb'
  · refine ⟨.inl h.own.1, .inl h.own.2.1, fun n' s' b hn' hb => ?_⟩
    try dsimp only at hb
    split at hb
    · cases hb; exact .inr rfl
    · exact .inl (h.own.2.2 n' s' b hn' hb)
  · intro n' s' b hn' hb
    try dsimp only at hb
    split at hb
    · cases hb; exact ⟨by omega, by omega⟩
    · exact h.ne n' s' b hn' hb
  · exact (Turn.of_below (F := F) hb1).trans ht fun i hi => .inl (hi ▸ h.own.2.1)
/-- A key was put. -/
theorem BK.store (h : BK w F g S m N Do blk) {n : Nat} {s : Bool} {b : Nat} (hn : n < S.nodes) (hb : blk n s = some b) {k v : Bk.Tx} {N' : Nat} (hrow : (Bk.put (S.bk n s) k v).length ≤ 16) (hm : w'.ownsMap Try.prog 9 rs b N' (Bk.dat (Bk.put (S.bk n s) k v))) (hg : w.grownBy w' (some b)) :
    BK w' F g { S with bk := fun n' s' => if n' = n ∧ s' = s then Bk.put (S.bk n s) k v else S.bk n' s' } m N Do blk ∧ Turn F w w' := by
  have ht : Turn (fun k => k = b) w w' := Turn.of_grown hg (.inl rfl)
  have hne := h.ne n s b hn hb
  refine ⟨{ head := held_turn h.head ht (fun e => hne.2 e.symm), outer := owns_turn h.outer ht (fun e => hne.1 e.symm), no := h.no, yes := h.yes, inner := ?_, nil := ?_, inj := h.inj, own := h.own, gm := h.gm, ne := h.ne, ok := ⟨h.ok.nodes, h.ok.lost, ?_, ?_⟩ }, Turn.of_grown hg (.inl (h.own.2.2 n s b hn hb))⟩
  · intro n' s' b' hn' hb'
    try dsimp only
    split
    · rename_i he
      obtain ⟨rfl, rfl⟩ := he
      rw [hb] at hb'
      cases hb'
      have := owns_size hm
      rwa [Bk.dat_size] at this
    · rename_i hne'
      exact owns_turn (h.inner n' s' b' hn' hb') ht (fun e => hne' (h.inj n' s' n s b hn' hn (by rw [← e]; exact hb') hb))
  · intro n' s' hn' hb'
    try dsimp only
    rw [if_neg (fun he => by rw [he.1, he.2, hb] at hb'; cases hb')]
    exact h.nil n' s' hn' hb'
  · intro n' s'
    try dsimp only
    split
    · exact Bk.put_sorted (h.ok.sorted _ _) k v
    · exact h.ok.sorted _ _
  · intro n' s'
    try dsimp only
    split
    · exact hrow
    · exact h.ok.few _ _
/-- What the map of books gives. -/
theorem BK.look (h : BK w F g S m N Do blk) {n : Nat} {s : Bool} (hn : n < S.nodes) : (Instr.lookup 129 (.map (some m)) (plv n s) false).run Try.prog w = .ok (.map (blk n s)) w := by
  have hn8 : n < 8 := Nat.lt_of_lt_of_le hn h.ok.nodes
  obtain ⟨v, ps, hrun, hv⟩ := h.outer.lookup placeK Try.underlying129 (z := .map none) (Try.zeroValue142 w) (zd := .lit (.bool false)) (zp := []) rfl (plk_ok hn8 s)
  cases hb : blk n s with
  | none =>
    rw [Maps.atKey_of_not_has (h.no n s hn hb)] at hv
    rw [rb_none hv] at hrun
    exact hrun
  | some b =>
    rw [(h.yes n s b hn hb).2] at hv
    rw [rb_some hv] at hrun
    exact hrun
/-- What a book gives. -/
theorem BK.get (h : BK w F g S m N Do blk) {n : Nat} {s : Bool} (hn : n < S.nodes) {k : Bk.Tx} (hk : k.length ≤ maxLen) : (Instr.lookup 142 (.map (blk n s)) (.string (bs k)) true).run Try.prog w = .ok (.tuple #[.agg #[.string (bs ((Bk.get (S.bk n s) k).getD []))], .bool (Bk.has (S.bk n s) k)]) w := by
  have hkey : keyOf Try.prog 9 (.string (bs k)) = some (.string k) := WideMaps.keyOf_string_mk Try.underlying9 (by simpa using hk)
  have hz : (zeroValue 144).run Try.prog w = .ok (.agg #[.string (bs [])]) w := Try.zeroValue144 w
  cases hb : blk n s with
  | none =>
    rw [h.nil n s hn hb]
    exact Maps.look_nil (w := w) true strK Try.underlying142 hz hkey
  | some b =>
    obtain ⟨v, ps, hrun, hv⟩ := (h.inner n s b hn hb).look_ok strK Try.underlying142 hz (rs_mk []) hkey
    rw [Bk.dat_at] at hv
    rw [Bk.dat_has] at hrun
    have : v = .agg #[.string (bs ((Bk.get (S.bk n s) k).getD []))] := by
      cases hg : Bk.get (S.bk n s) k with
      | none => rw [hg] at hv; exact rs_inv hv
      | some x => rw [hg] at hv; exact rs_inv hv
    rw [this] at hrun
    exact hrun
end
end Go.Proofs.Ythbpcdoddcacdaa
