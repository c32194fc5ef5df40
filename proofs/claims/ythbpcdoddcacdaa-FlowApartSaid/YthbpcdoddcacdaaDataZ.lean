/- What the form grants of an argument of any type, with the reach that it grants of texts. One law a type former; no program in sight. No condition. -/
import Derived.Test.YthbpcdoddcacdaaData
import Derived.SizedLaws
namespace Go.Proofs.Ythbpcdoddcacdaa.Cells
open Go.WideShapes
set_option linter.unusedVariables false

/-- A type's cells answer to 'ps' wherever the form reads them, within the reach. -/
def FlatZ (P : Program) (w : World) (t : TypeId) (ps : List (Value → Prop)) : Prop :=
  ∀ (H : Type) (enc : TypeId × Value → H) (fuel : Nat) (cs : List Value) (x : DataW H × List MemPlace), DataW.trod enc P w 0 (fun _ => true) true fuel t cs = some x → (∀ n ∈ x.1.weights P t, n ≤ reachBytes) → Rel ps cs
def pStrZ (v : Value) : Prop := ∃ l, v = .string (bs l) ∧ l.length ≤ reachBytes
variable {P : Program} {w : World} {t : TypeId}
theorem flatz_of {ps : List (Value → Prop)} (h : Flat P w t ps) : FlatZ P w t ps := fun H enc fuel cs x hx _ => h H enc fuel cs x hx
theorem flatz_string (ht : P.underlying t = some .string) : FlatZ P w t [pStrZ] := by
  intro H enc fuel cs x h hz
  obtain ⟨s, rfl, hx, hs⟩ := DataW.trod_string ht h
  subst hx
  obtain ⟨l, rfl⟩ := bs_of s
  exact ⟨⟨l, rfl, by simpa [DataW.weights] using hz⟩, trivial⟩
theorem weightsAll_mem {H : Type} {e : TypeId} : ∀ {ds : List (DataW H)} {d : DataW H}, d ∈ ds → ∀ n ∈ d.weights P e, n ∈ DataW.weightsAll P e ds
  | x :: t, d, hd, n, hn => by
    simp only [DataW.weightsAll, List.mem_append]
    rcases List.mem_cons.1 hd with rfl | hd
    · exact .inl hn
    · exact .inr (weightsAll_mem hd n hn)
theorem flatz_slice {e : TypeId} {c : Nat} {ps : List (Value → Prop)} (ht : P.underlying t = some (.slice e)) (hc : P.cellsOf e = c) (he : FlatZ P w e ps) : FlatZ P w t [pSlice w c ps] := by
  intro H enc fuel cs x h hz
  subst hc
  rcases DataW.trod_slice ht h with ⟨rfl, _⟩ | ⟨a, len, cap, elems, rest, n, _, rfl, rfl, _, hl, hm, hel, hE, hR, _⟩
  · exact ⟨.inl rfl, trivial⟩
  · obtain ⟨hrl, hR⟩ := hR rfl
    simp only [DataW.weights, ht, List.mem_cons, List.mem_append] at hz
    have hz1 : ∀ y ∈ elems, ∀ k ∈ y.1.weights P e, k ≤ reachBytes := fun y hy k hk => hz k (.inr (.inl (weightsAll_mem (List.mem_map_of_mem hy) k hk)))
    have hz2 : ∀ y ∈ rest, ∀ k ∈ y.1.weights P e, k ≤ reachBytes := fun y hy k hk => hz k (.inr (.inr (weightsAll_mem (List.mem_map_of_mem hy) k hk)))
    refine ⟨.inr ⟨a, len, cap, rfl, hl, hm, fun i hi => ?_⟩, trivial⟩
    by_cases hil : i < len
    · have h1 := hE i hil
      rw [List.getElem?_eq_getElem (by omega), Option.bind_eq_some_iff] at h1
      obtain ⟨cs, h2, h3⟩ := h1
      exact ⟨cs, h2, he _ _ _ _ _ h3 (hz1 _ (List.getElem_mem _))⟩
    · have h1 := hR (i - len) (by omega)
      rw [show len + (i - len) = i from by omega, List.getElem?_eq_getElem (by omega), Option.bind_eq_some_iff] at h1
      obtain ⟨cs, h2, h3⟩ := h1
      exact ⟨cs, h2, he _ _ _ _ _ h3 (hz2 _ (List.getElem_mem _))⟩
/-- Fields that lie one behind the other from a cell on. -/
inductive FlZ (P : Program) (w : World) : Nat → List Field → Nat → List (Value → Prop) → Prop
  | nil (off : Nat) : FlZ P w off [] 0 []
  | cons {f : Field} {fl : List Field} {off m k : Nat} {ls ps qs : List (Value → Prop)} (n : Nat) (ho : f.offset = off) (hc : P.cellsOf f.type = n) (h : FlatZ P w f.type ls) (r : FlZ P w (off + n) fl m ps) (hk : n + m = k) (hq : ls ++ ps = qs) :
      FlZ P w off (f :: fl) k qs
theorem FlZ.rel {off m : Nat} {fl : List Field} {ps : List (Value → Prop)} (h : FlZ P w off fl m ps) {H : Type} {enc : TypeId × Value → H} {n : Nat} {cs : List Value}
    (hx : ∀ f ∈ fl, ∃ y, DataW.trod enc P w 0 (fun _ => true) true n f.type ((cs.drop f.offset).take (P.cellsOf f.type)) = some y ∧ ∀ k ∈ y.1.weights P f.type, k ≤ reachBytes) : Rel ps ((cs.drop off).take m) := by
  induction h with
  | nil off => simp [Rel]
  | @cons f fl off m k ls ps qs n ho hc h r hk hq ih =>
    subst ho hk hq
    rw [List.take_add, List.drop_drop]
    obtain ⟨y, hy, hz⟩ := hx f (by simp)
    rw [hc] at hy
    exact (h _ _ _ _ _ hy hz).append (ih fun g hg => hx g (by simp [hg]))
theorem flatz_struct {fs : Array Field} {m : Nat} {ps : List (Value → Prop)} (ht : P.underlying t = some (.struct fs)) (hm : P.cellsOf t = m) (h : FlZ P w 0 fs.toList m ps) : FlatZ P w t ps := by
  intro H enc fuel cs x hd hz
  obtain ⟨xs, n, _, rfl, hl, hxl, hg⟩ := DataW.trod_struct ht hd
  simp only [DataW.weights, ht] at hz
  have k := h.rel (enc := enc) (n := n) (cs := cs) fun f hf => by
    obtain ⟨i, hi, rfl⟩ := List.getElem_of_mem hf
    have hi' : i < fs.size := by simpa using hi
    have := hg i fs[i] (Array.getElem?_eq_getElem hi')
    refine ⟨xs[i]'(by omega), ?_, fun k hk => hz k (DataW.weights_mem_each (j := i) (t := fs[i].type) (d := (xs[i]'(by omega)).1) (by simp [hi']) (by rw [List.getElem?_map, List.getElem?_eq_getElem (by omega)]; rfl) k hk)⟩
    rw [List.getElem?_eq_getElem (by omega)] at this
    simpa using this
  rw [List.drop_zero, List.take_of_length_le (by omega)] at k
  exact k
/-- A struct that came in as an argument. -/
theorem open_structz {fs : Array Field} {ps : List (Value → Prop)} {H : Type} {enc : TypeId × Value → H} {r : Reach} {b0 : Nat} {v : Value} {d : DataW H} {q : List MemPlace} (ht : P.underlying t = some (.struct fs)) (hf : FlatZ P w t ps)
    (hval : Value.okWide P w r b0 t v) (hd : DataW.Trod enc P w 0 (fun _ => true) true t v d q) (hz : ∀ n ∈ d.weights P t, n ≤ reachBytes) : ∃ cs : List Value, v = .agg cs.toArray ∧ Rel ps cs := by
  obtain ⟨cs, rfl, _⟩ := okWide_struct ht hval
  obtain ⟨fuel, h⟩ := hd
  exact ⟨cs.toList, by simp, by have := hf _ _ _ _ _ h hz; simpa [Value.cells] using this⟩
/-- One cell that came in as an argument: a slice. -/
theorem open_slcz {e : TypeId} {p : Value → Prop} {H : Type} {enc : TypeId × Value → H} {r : Reach} {b0 : Nat} {v : Value} {d : DataW H} {q : List MemPlace} (ht : P.underlying t = some (.slice e)) (hf : FlatZ P w t [p])
    (hval : Value.okWide P w r b0 t v) (hd : DataW.Trod enc P w 0 (fun _ => true) true t v d q) (hz : ∀ n ∈ d.weights P t, n ≤ reachBytes) : p v := by
  obtain ⟨a, len, cap, rfl⟩ := okWide_slice ht hval
  obtain ⟨fuel, h⟩ := hd
  have := hf _ _ _ _ _ h hz
  exact this.1
theorem sized_all {H : Type} {ts : List TypeId} {ds : List (DataW H)} (h : (DataW.weightsEach P ts ds).all (· ≤ reachBytes) = true) {j : Nat} {t : TypeId} {d : DataW H} (ht : ts[j]? = some t) (hd : ds[j]? = some d) : ∀ n ∈ d.weights P t, n ≤ reachBytes := by
  intro n hn
  have := List.all_eq_true.1 h _ (DataW.weights_mem_each ht hd n hn)
  simpa using this
end Go.Proofs.Ythbpcdoddcacdaa.Cells
