/- Flows that run with books that are alike but for their shadows, in plain Lean. No condition. -/
import Derived.Test.YthbpcdoddcacdaaFlRun
import Derived.Test.YthbpcdoddcacdaaBkLast
namespace Go.Proofs.Ythbpcdoddcacdaa
open Go.RowKit
set_option linter.unusedVariables false

/-- Books that are alike at one of both kinds. -/
structure Bk.Al (s : Bool) (S T : Bk.St) : Prop where
  nodes : S.nodes = T.nodes
  bk : ∀ n, S.bk n s = T.bk n s
theorem Bk.Al.refl (s : Bool) (S : Bk.St) : Bk.Al s S S := ⟨rfl, fun _ => rfl⟩
theorem Bk.Al.trans {s : Bool} {S T U : Bk.St} (h : Bk.Al s S T) (k : Bk.Al s T U) : Bk.Al s S U := ⟨h.nodes.trans k.nodes, fun n => (h.bk n).trans (k.bk n)⟩
theorem Bk.Al.symm {s : Bool} {S T : Bk.St} (h : Bk.Al s S T) : Bk.Al s T S := ⟨h.nodes.symm, fun n => (h.bk n).symm⟩
/-- A put of the other kind. -/
theorem Bk.Al.other {s : Bool} (S : Bk.St) (n : Int) (k v : Bk.Tx) : Bk.Al s (S.put n (!s) k v).1 S := by
  unfold Bk.St.put
  split
  · split
    · exact ⟨rfl, fun _ => rfl⟩
    · refine ⟨rfl, fun n' => ?_⟩
      dsimp only
      rw [if_neg (fun h => by have := h.2; cases s <;> simp at this)]
  · exact ⟨rfl, fun _ => rfl⟩
theorem Bk.Al.both {s : Bool} {S T : Bk.St} (h : Bk.Al s S T) (n : Int) (k v : Bk.Tx) : Bk.Al s (S.put n s k v).1 (T.put n s k v).1 := by
  unfold Bk.St.put
  rw [h.nodes, h.bk]
  split
  · split
    · exact ⟨rfl, h.bk⟩
    · refine ⟨rfl, fun n' => ?_⟩
      dsimp only
      split
      · rfl
      · exact h.bk n'
  · exact h
theorem Bk.Al.of {s : Bool} {S T : Bk.St} (h : Bk.Al s S T) (n : Int) : S.of n s = T.of n s := by
  unfold Bk.St.of
  rw [h.nodes, h.bk]
theorem doF_alike {S T : Bk.St} {sh : Bool} (h : Bk.Al sh S T) (x : Fr) (o : Ox) :
    (doF x o (some S) sh).1 = (doF x o (some T) sh).1 ∧ ∃ S' T', (doF x o (some S) sh).2 = some S' ∧ (doF x o (some T) sh).2 = some T' ∧ Bk.Al sh S' T' ∧ Bk.Al (!sh) S' S := by
  have hg : getO (some S) x.node sh o.a = getO (some T) x.node sh o.a := by unfold getO; dsimp only; rw [h.of]
  unfold doF
  rw [hg]
  repeat' split
  all_goals first
    | exact ⟨rfl, S, T, rfl, rfl, h, Bk.Al.refl _ _⟩
    | (refine ⟨rfl, _, _, rfl, rfl, h.both _ _ _, ?_⟩
       have := Bk.Al.other (s := !sh) S x.node o.a o.b
       simpa using this)
theorem runF_alike {sh : Bool} : ∀ (f : Nat) (x : Fr) (S T : Bk.St), Bk.Al sh S T →
    (runF f x (some S) sh).1 = (runF f x (some T) sh).1 ∧ (runF f x (some S) sh).2.2 = (runF f x (some T) sh).2.2 ∧ ∃ S' T', (runF f x (some S) sh).2.1 = some S' ∧ (runF f x (some T) sh).2.1 = some T' ∧ Bk.Al sh S' T' ∧ Bk.Al (!sh) S' S
  | 0, x, S, T, h => ⟨rfl, rfl, S, T, rfl, rfl, h, Bk.Al.refl _ _⟩
  | f + 1, x, S, T, h => by
    unfold runF
    cases x.ops[x.at_.toNat]? with
    | none => exact ⟨rfl, rfl, S, T, rfl, rfl, h, Bk.Al.refl _ _⟩
    | some o =>
      dsimp only
      split
      · exact ⟨rfl, rfl, S, T, rfl, rfl, h, Bk.Al.refl _ _⟩
      · obtain ⟨h1, S', T', h2, h3, h4, h5⟩ := doF_alike h { x with at_ := x.at_ + 1 } o
        rw [h1, h2, h3]
        obtain ⟨k1, k2, S2, T2, k3, k4, k5, k6⟩ := runF_alike f (doF { x with at_ := x.at_ + 1 } o (some T) sh).1 S' T' h4
        exact ⟨k1, k2, S2, T2, k3, k4, k5, k6.trans h5⟩
/-- What comes of a run at books that are alike at the run's kind: the same, and books of the other kind stay. -/
theorem runL_alike {sh : Bool} {S T : Bk.St} (C : List Fr) (h : Bk.Al sh S T) :
    (runL C (some S) sh).1 = (runL C (some T) sh).1 ∧ (runL C (some S) sh).2.1 = (runL C (some T) sh).2.1 ∧ ∃ S' T', (runL C (some S) sh).2.2 = some S' ∧ (runL C (some T) sh).2.2 = some T' ∧ Bk.Al sh S' T' ∧ Bk.Al (!sh) S' S := by
  unfold runL
  cases C.getLast? with
  | none => exact ⟨rfl, rfl, S, T, rfl, rfl, h, Bk.Al.refl _ _⟩
  | some x =>
    dsimp only
    unfold runO runE
    obtain ⟨k1, k2, S2, T2, k3, k4, k5, k6⟩ := runF_alike (x.ops.length - x.begun.at_.toNat) x.begun S T h
    rw [k1, k2]
    cases (runF (x.ops.length - x.begun.at_.toNat) x.begun (some T) sh).2.2 with
    | none => exact ⟨rfl, rfl, S2, T2, k3, k4, k5, k6⟩
    | some o => exact ⟨rfl, rfl, S2, T2, k3, k4, k5, k6⟩
/-- Books in which all entries stand, and those in which none of shadows do. -/
theorem play_own (n : Int) : ∀ (L : List Mv4) (S T : Bk.St), Bk.Al false S T →
    Bk.Al false (L.foldl (fun S m => (S.put m.n m.s m.k m.v).1) S) ((L.filter fun m => !m.s).foldl (fun S m => (S.put m.n m.s m.k m.v).1) T)
  | [], S, T, h => h
  | m :: t, S, T, h => by
    obtain ⟨mn, ms, mk, mv⟩ := m
    cases ms
    · exact play_own n t _ _ (h.both mn mk mv)
    · exact play_own n t _ _ ((Bk.Al.other (s := false) S mn mk mv).trans h)
end Go.Proofs.Ythbpcdoddcacdaa
