/- What the form grants of an argument, with the form's reach: texts and slices are no longer than an address space. One law a type former; no program in sight. No condition. -/
import Derived.Test.YtfbhdkkmcfnghaaGreatDoorSlice
import Derived.SizedLaws
namespace Go.Proofs.YtfbhdkkmcfnghaaGreatDoor.Cells
open Go.WideShapes

/-- A type's cells answer to 'ps' wherever the form reads them within its reach. -/
def FlatR (P : Program) (w : World) (t : TypeId) (ps : List (Value → Prop)) : Prop :=
  ∀ (H : Type) (enc : TypeId × Value → H) (fuel : Nat) (cs : List Value) (x : DataW H × List MemPlace), DataW.trod enc P w 0 (fun _ => true) true fuel t cs = some x → (∀ n ∈ x.1.weights P t, n ≤ reachBytes) → Rel ps cs

def pStrR (v : Value) : Prop := ∃ l, v = .string (bs l) ∧ l.length ≤ 140737488355328

variable {P : Program} {w : World} {t : TypeId}

theorem Flat.reach {ps : List (Value → Prop)} (h : Flat P w t ps) : FlatR P w t ps := fun H enc fuel cs x hx _ => h H enc fuel cs x hx

theorem flatR_string (ht : P.underlying t = some .string) : FlatR P w t [pStrR] := by
  intro H enc fuel cs x h hw
  obtain ⟨s, rfl, rfl, hs⟩ := DataW.trod_string ht h
  obtain ⟨l, rfl⟩ := bs_of s
  refine ⟨⟨l, rfl, ?_⟩, trivial⟩
  have := hw l.length (by simp [DataW.weights, bs])
  simp [reachBytes] at this
  omega

theorem weights_all {H : Type} {e : TypeId} : ∀ {ds : List (DataW H)} {d : DataW H}, d ∈ ds → ∀ n ∈ d.weights P e, n ∈ DataW.weightsAll P e ds
  | d0 :: ds, d, hd, n, hn => by
    simp only [DataW.weightsAll, List.mem_append]
    rcases List.mem_cons.1 hd with rfl | hd
    · exact .inl hn
    · exact .inr (weights_all hd n hn)

theorem flatR_slice {e : TypeId} {c : Nat} {ps : List (Value → Prop)} (ht : P.underlying t = some (.slice e)) (hc : P.cellsOf e = c) (he : FlatR P w e ps) : FlatR P w t [pSlice w c ps] := by
  intro H enc fuel cs x h hw
  subst hc
  rcases DataW.trod_slice ht h with ⟨rfl, _⟩ | ⟨a, len, cap, elems, rest, n, _, rfl, rfl, _, hl, hm, hel, hE, hR, _⟩
  · exact ⟨.inl rfl, trivial⟩
  · obtain ⟨hrl, hR⟩ := hR rfl
    have hin : ∀ y ∈ elems ++ rest, ∀ m ∈ y.1.weights P e, m ≤ reachBytes := by
      intro y hy m hm'
      refine hw m ?_
      simp only [DataW.weights, ht, List.mem_cons, List.mem_append]
      rcases List.mem_append.1 hy with hy | hy
      · exact .inr (.inl (weights_all (List.mem_map.2 ⟨y, hy, rfl⟩) m hm'))
      · exact .inr (.inr (weights_all (List.mem_map.2 ⟨y, hy, rfl⟩) m hm'))
    refine ⟨.inr ⟨a, len, cap, rfl, hl, hm, fun i hi => ?_⟩, trivial⟩
    by_cases hil : i < len
    · have h1 := hE i hil
      rw [List.getElem?_eq_getElem (by omega), Option.bind_eq_some_iff] at h1
      obtain ⟨cs, h2, h3⟩ := h1
      exact ⟨cs, h2, he _ _ _ _ _ h3 (hin _ (List.mem_append.2 (.inl (List.getElem_mem _))))⟩
    · have h1 := hR (i - len) (by omega)
      rw [show len + (i - len) = i from by omega, List.getElem?_eq_getElem (by omega), Option.bind_eq_some_iff] at h1
      obtain ⟨cs, h2, h3⟩ := h1
      exact ⟨cs, h2, he _ _ _ _ _ h3 (hin _ (List.mem_append.2 (.inr (List.getElem_mem _))))⟩

/-- Fields that lie one behind the other from a cell on. -/
inductive FlR (P : Program) (w : World) : Nat → List Field → Nat → List (Value → Prop) → Prop
  | nil (off : Nat) : FlR P w off [] 0 []
  | cons {f : Field} {fl : List Field} {off m k : Nat} {ls ps qs : List (Value → Prop)} (n : Nat) (ho : f.offset = off) (hc : P.cellsOf f.type = n) (h : FlatR P w f.type ls) (r : FlR P w (off + n) fl m ps) (hk : n + m = k) (hq : ls ++ ps = qs) :
      FlR P w off (f :: fl) k qs

theorem FlR.rel {off m : Nat} {fl : List Field} {ps : List (Value → Prop)} (h : FlR P w off fl m ps) {H : Type} {enc : TypeId × Value → H} {n : Nat} {cs : List Value}
    (hx : ∀ f ∈ fl, ∃ y, DataW.trod enc P w 0 (fun _ => true) true n f.type ((cs.drop f.offset).take (P.cellsOf f.type)) = some y ∧ ∀ m ∈ y.1.weights P f.type, m ≤ reachBytes) : Rel ps ((cs.drop off).take m) := by
  induction h with
  | nil off => simp [Rel]
  | @cons f fl off m k ls ps qs n ho hc h r hk hq ih =>
    subst ho hk hq
    rw [List.take_add, List.drop_drop]
    obtain ⟨y, hy, hyw⟩ := hx f (by simp)
    rw [hc] at hy
    exact (h _ _ _ _ _ hy hyw).append (ih fun g hg => hx g (by simp [hg]))

theorem flatR_struct {fs : Array Field} {m : Nat} {ps : List (Value → Prop)} (ht : P.underlying t = some (.struct fs)) (hm : P.cellsOf t = m) (h : FlR P w 0 fs.toList m ps) : FlatR P w t ps := by
  intro H enc fuel cs x hd hw
  obtain ⟨xs, n, _, rfl, hl, hxl, hg⟩ := DataW.trod_struct ht hd
  have k := h.rel (enc := enc) (n := n) (cs := cs) fun f hf => by
    obtain ⟨i, hi, rfl⟩ := List.getElem_of_mem hf
    have hi' : i < fs.size := by simpa using hi
    have := hg i fs[i] (Array.getElem?_eq_getElem hi')
    refine ⟨xs[i]'(by omega), ?_, fun m hm' => hw m ?_⟩
    · rw [List.getElem?_eq_getElem (by omega)] at this
      simpa using this
    · simp only [DataW.weights, ht]
      refine DataW.weights_mem_each (j := i) (t := fs[i].type) (d := (xs[i]'(by omega)).1) ?_ ?_ m (by simpa using hm')
      · simp [hi']
      · simp [List.getElem?_map, List.getElem?_eq_getElem (show i < xs.length by omega)]
  rw [List.drop_zero, List.take_of_length_le (by omega)] at k
  exact k

/-- A struct that came in as an argument. -/
theorem openR_struct {fs : Array Field} {ps : List (Value → Prop)} {H : Type} {enc : TypeId × Value → H} {r : Reach} {b0 : Nat} {v : Value} {d : DataW H} {q : List MemPlace} (ht : P.underlying t = some (.struct fs)) (hf : FlatR P w t ps)
    (hval : Value.okWide P w r b0 t v) (hd : DataW.Trod enc P w 0 (fun _ => true) true t v d q) (hw : ∀ n ∈ d.weights P t, n ≤ reachBytes) : ∃ cs : List Value, v = .agg cs.toArray ∧ Rel ps cs := by
  obtain ⟨cs, rfl, _⟩ := okWide_struct ht hval
  obtain ⟨fuel, h⟩ := hd
  exact ⟨cs.toList, by simp, by have := hf _ _ _ _ _ h hw; simpa [Value.cells] using this⟩
theorem openR_slc {e : TypeId} {c : Nat} {ps : List (Value → Prop)} {H : Type} {enc : TypeId × Value → H} {r : Reach} {b0 : Nat} {v : Value} {d : DataW H} {q : List MemPlace} (ht : P.underlying t = some (.slice e)) (hf : FlatR P w t [pSlice w c ps])
    (hval : Value.okWide P w r b0 t v) (hd : DataW.Trod enc P w 0 (fun _ => true) true t v d q) (hw : ∀ n ∈ d.weights P t, n ≤ reachBytes) : pSlice w c ps v := by
  obtain ⟨a0, len, cap, rfl⟩ := okWide_slice ht hval
  obtain ⟨fuel, h⟩ := hd
  have := hf _ _ _ _ _ h hw
  exact this.1
theorem reach_string {H : Type} {enc : TypeId × Value → H} {l : List UInt8} {d : DataW H} {q : List MemPlace} (ht : P.underlying t = some .string) (hd : DataW.Trod enc P w 0 (fun _ => true) true t (.string (bs l)) d q) (hw : ∀ n ∈ d.weights P t, n ≤ reachBytes) : l.length ≤ 140737488355328 := by
  obtain ⟨fuel, h⟩ := hd
  have := flatR_string ht _ _ _ _ _ h hw
  obtain ⟨v, h1, l', h2, h3⟩ := Rel.one this
  simp only [Value.cells, List.cons.injEq, and_true] at h1
  rw [← h1] at h2
  simp only [Value.string.injEq] at h2
  obtain rfl := bs_inj h2
  exact h3
/-- One argument's share of the reach. -/
theorem reach_at {H : Type} {ts : List TypeId} {ds : List (DataW H)} (h : (DataW.weightsEach P ts ds).all (· ≤ reachBytes) = true) {j : Nat} {t : TypeId} {d : DataW H} (ht : ts[j]? = some t) (hd : ds[j]? = some d) : ∀ n ∈ d.weights P t, n ≤ reachBytes := fun n hn => by
  simpa using List.all_eq_true.1 h n (DataW.weights_mem_each ht hd n hn)
end Go.Proofs.YtfbhdkkmcfnghaaGreatDoor.Cells
