/- What the form grants of an argument of any type: its cells, one by one. One law a type former; no program in sight. No condition. -/
import Derived.Test.YtfbhdkkmcfnghaaGreatDoorLib
import Derived.ChangeArms
import Derived.OpenShut
import Derived.ProofKit
namespace Go.Proofs.YtfbhdkkmcfnghaaGreatDoor.Cells
open Go.WideShapes

/-- Cells that answer to claims, one by one. -/
def Rel : List (Value → Prop) → List Value → Prop
  | [], [] => True
  | p :: ps, v :: vs => p v ∧ Rel ps vs
  | _, _ => False

theorem Rel.append {ps qs : List (Value → Prop)} {cs ds : List Value} (h : Rel ps cs) (k : Rel qs ds) : Rel (ps ++ qs) (cs ++ ds) := by
  induction ps generalizing cs with
  | nil => cases cs <;> simp_all [Rel]
  | cons p t ih => cases cs with
    | nil => simp [Rel] at h
    | cons v vs => exact ⟨h.1, ih h.2⟩

theorem Rel.one {p : Value → Prop} {cs : List Value} (h : Rel [p] cs) : ∃ v, cs = [v] ∧ p v := by
  cases cs with
  | nil => simp [Rel] at h
  | cons v vs => cases vs with
    | nil => exact ⟨v, rfl, h.1⟩
    | cons u us => simp [Rel] at h

theorem Rel.cons_inv {p : Value → Prop} {ps : List (Value → Prop)} {cs : List Value} (h : Rel (p :: ps) cs) : ∃ v vs, cs = v :: vs ∧ p v ∧ Rel ps vs := by
  cases cs with
  | nil => simp [Rel] at h
  | cons v vs => exact ⟨v, vs, rfl, h.1, h.2⟩
theorem Rel.nil_inv {cs : List Value} (h : Rel [] cs) : cs = [] := by
  cases cs with
  | nil => rfl
  | cons v vs => simp [Rel] at h

/-- A type's cells answer to 'ps' wherever the form reads them. -/
def Flat (P : Program) (w : World) (t : TypeId) (ps : List (Value → Prop)) : Prop :=
  ∀ (H : Type) (enc : TypeId × Value → H) (fuel : Nat) (cs : List Value) (x : DataW H × List MemPlace), DataW.trod enc P w 0 (fun _ => true) true fuel t cs = some x → Rel ps cs

def pInt (k : IntKind) (v : Value) : Prop := ∃ n, v = .int k n ∧ (Lit.int k n).wf = true
def pBool (v : Value) : Prop := ∃ b, v = .bool b
def pStr (v : Value) : Prop := ∃ l, v = .string (bs l) ∧ l.length ≤ maxLen
/-- A slice of elements of 'c' cells each, which answer to 'ps'. -/
def pSlice (w : World) (c : Nat) (ps : List (Value → Prop)) (v : Value) : Prop :=
  v = .slice none 0 0 ∨ ∃ (a : Addr) (len cap : Nat), v = .slice (some a) len cap ∧ len ≤ cap ∧ cap ≤ maxLen ∧
    ∀ i, i < cap → ∃ cs, w.cells? 0 (a.add (i * c)) c = some cs ∧ Rel ps cs

variable {P : Program} {w : World} {t : TypeId}

theorem flat_int {k : IntKind} (ht : P.underlying t = some (.int k)) : Flat P w t [pInt k] := by
  intro H enc fuel cs x h
  obtain ⟨n, rfl, _, hw⟩ := DataW.trod_int ht h
  exact ⟨⟨n, rfl, hw⟩, trivial⟩
theorem flat_bool (ht : P.underlying t = some .bool) : Flat P w t [pBool] := by
  intro H enc fuel cs x h
  obtain ⟨b, rfl, _⟩ := DataW.trod_bool ht h
  exact ⟨⟨b, rfl⟩, trivial⟩
theorem flat_string (ht : P.underlying t = some .string) : Flat P w t [pStr] := by
  intro H enc fuel cs x h
  obtain ⟨s, rfl, _, hs⟩ := DataW.trod_string ht h
  obtain ⟨l, rfl⟩ := bs_of s
  exact ⟨⟨l, rfl, by simpa using hs⟩, trivial⟩

theorem flat_slice {e : TypeId} {c : Nat} {ps : List (Value → Prop)} (ht : P.underlying t = some (.slice e)) (hc : P.cellsOf e = c) (he : Flat P w e ps) : Flat P w t [pSlice w c ps] := by
  intro H enc fuel cs x h
  subst hc
  rcases DataW.trod_slice ht h with ⟨rfl, _⟩ | ⟨a, len, cap, elems, rest, n, _, rfl, _, _, hl, hm, hel, hE, hR, _⟩
  · exact ⟨.inl rfl, trivial⟩
  · obtain ⟨hrl, hR⟩ := hR rfl
    refine ⟨.inr ⟨a, len, cap, rfl, hl, hm, fun i hi => ?_⟩, trivial⟩
    by_cases hil : i < len
    · have h1 := hE i hil
      rw [List.getElem?_eq_getElem (by omega), Option.bind_eq_some_iff] at h1
      obtain ⟨cs, h2, h3⟩ := h1
      exact ⟨cs, h2, he _ _ _ _ _ h3⟩
    · have h1 := hR (i - len) (by omega)
      rw [show len + (i - len) = i from by omega, List.getElem?_eq_getElem (by omega), Option.bind_eq_some_iff] at h1
      obtain ⟨cs, h2, h3⟩ := h1
      exact ⟨cs, h2, he _ _ _ _ _ h3⟩

/-- Fields that lie one behind the other from a cell on. -/
inductive Fl (P : Program) (w : World) : Nat → List Field → Nat → List (Value → Prop) → Prop
  | nil (off : Nat) : Fl P w off [] 0 []
  | cons {f : Field} {fl : List Field} {off m k : Nat} {ls ps qs : List (Value → Prop)} (n : Nat) (ho : f.offset = off) (hc : P.cellsOf f.type = n) (h : Flat P w f.type ls) (r : Fl P w (off + n) fl m ps) (hk : n + m = k) (hq : ls ++ ps = qs) :
      Fl P w off (f :: fl) k qs

theorem Fl.rel {off m : Nat} {fl : List Field} {ps : List (Value → Prop)} (h : Fl P w off fl m ps) {H : Type} {enc : TypeId × Value → H} {n : Nat} {cs : List Value}
    (hx : ∀ f ∈ fl, ∃ y, DataW.trod enc P w 0 (fun _ => true) true n f.type ((cs.drop f.offset).take (P.cellsOf f.type)) = some y) : Rel ps ((cs.drop off).take m) := by
  induction h with
  | nil off => simp [Rel]
  | @cons f fl off m k ls ps qs n ho hc h r hk hq ih =>
    subst ho hk hq
    rw [List.take_add, List.drop_drop]
    obtain ⟨y, hy⟩ := hx f (by simp)
    rw [hc] at hy
    exact (h _ _ _ _ _ hy).append (ih fun g hg => hx g (by simp [hg]))

theorem flat_struct {fs : Array Field} {m : Nat} {ps : List (Value → Prop)} (ht : P.underlying t = some (.struct fs)) (hm : P.cellsOf t = m) (h : Fl P w 0 fs.toList m ps) : Flat P w t ps := by
  intro H enc fuel cs x hd
  obtain ⟨xs, n, _, _, hl, hxl, hg⟩ := DataW.trod_struct ht hd
  have k := h.rel (enc := enc) (n := n) (cs := cs) fun f hf => by
    obtain ⟨i, hi, rfl⟩ := List.getElem_of_mem hf
    have hi' : i < fs.size := by simpa using hi
    have := hg i fs[i] (Array.getElem?_eq_getElem hi')
    refine ⟨xs[i]'(by omega), ?_⟩
    rw [List.getElem?_eq_getElem (by omega)] at this
    simpa using this
  rw [List.drop_zero, List.take_of_length_le (by omega)] at k
  exact k

/-- A struct that came in as an argument. -/
theorem open_struct {fs : Array Field} {ps : List (Value → Prop)} {H : Type} {enc : TypeId × Value → H} {r : Reach} {b0 : Nat} {v : Value} {d : DataW H} {q : List MemPlace} (ht : P.underlying t = some (.struct fs)) (hf : Flat P w t ps)
    (hval : Value.okWide P w r b0 t v) (hd : DataW.Trod enc P w 0 (fun _ => true) true t v d q) : ∃ cs : List Value, v = .agg cs.toArray ∧ Rel ps cs := by
  obtain ⟨cs, rfl, _⟩ := okWide_struct ht hval
  obtain ⟨fuel, h⟩ := hd
  exact ⟨cs.toList, by simp, by have := hf _ _ _ _ _ h; simpa [Value.cells] using this⟩

end Go.Proofs.YtfbhdkkmcfnghaaGreatDoor.Cells
