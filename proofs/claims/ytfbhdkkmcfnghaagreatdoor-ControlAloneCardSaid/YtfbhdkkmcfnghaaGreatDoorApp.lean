/- 'append(own, s...)': a slice of elements of several cells behind a row of the call's own; the rest of a slice. No condition. -/
import Derived.Test.YtfbhdkkmcfnghaaGreatDoorSlice
import Derived.Laws.AppendOwnNone
namespace Go.Proofs.YtfbhdkkmcfnghaaGreatDoor
open Go.RowKit
set_option linter.unusedVariables false

/-- The last elements. -/
theorem SlR.drop {w : World} {c : Nat} {b off n cap : Nat} {L : List (List Value)} (h : SlR w c (.slice (some ⟨b, off, none⟩) n cap) L) (k : Nat) (hk : k ≤ L.length) : SlR w c (.slice (some ⟨b, off + k * c, none⟩) (n - k) (cap - k)) (L.drop k) ∧ n = L.length := by
  obtain ⟨A', cap', hv, h1, h2, h3⟩ := h
  simp only [Value.slice.injEq] at hv
  obtain ⟨rfl, rfl, rfl⟩ := hv
  refine ⟨⟨_, _, by rw [List.length_drop], by rw [List.length_drop]; omega, by omega, fun hL => ?_⟩, rfl⟩
  obtain ⟨b', off', hA, hlt, hc⟩ := h3 (by intro e; subst e; simp at hL)
  cases hA
  refine ⟨_, _, rfl, hlt, fun i x hx j u hu => ?_⟩
  rw [List.getElem?_drop] at hx
  have := hc (k + i) x hx j u hu
  rwa [Nat.add_mul, ← Nat.add_assoc] at this

theorem flat_len {L : List (List Value)} {c : Nat} (hL : ∀ x ∈ L, x.length = c) : L.flatten.length = L.length * c := by
  induction L with
  | nil => simp
  | cons y t ih => rw [List.flatten_cons, List.length_append, hL y (by simp), ih (fun x hx => hL x (by simp [hx])), List.length_cons, Nat.succ_mul]; omega

/-- 'append(own, s...)', the new slice as the walk writes it. -/
theorem wpList_append_slr {P : Program} {ops : Array Oper} {rest : List Oper} {o : Oper} {a : Act} {Q : Exit → Act → World → Prop} {w : World}
    {B : Nat} {e : TypeId} {size bytes : Nat} {z : Value} {v : Value} {n : Nat} {ys : List Value} (hown : w.ownsRow B e size v n ys)
    (L2 : List (List Value)) (A2 : Option Addr) (m c2 : Nat) (hsrc : SlR w size (.slice A2 m c2) L2) (hc0 : A2 = none → c2 = 0) (hL2 : ∀ x ∈ L2, x.length = size) (h1 : ∀ x ∈ L2, ∀ u ∈ x, u.oneCell' = true)
    (hgd : o.guard = none) (s x : Operand) (t : TypeId) (ho : o.op = .call { callee := .builtin .append, args := #[s, x], argTypes := #[t, t] }) (ht : P.underlying t = some (.slice e))
    (hinfo : (P.info? e).map (fun i => (i.zero, i.size, i.bytes)) = some (some z, size, bytes)) (hzc : z.cells.size = size) (hsz : 0 < size)
    (hs : a.eval s = v) (hx : a.eval x = .slice A2 m c2) (hn : n + m ≤ maxLen) (hbytes : (n + m) * bytes ≤ 140737488355328) (hB : B ≤ w.heap.size)
    (h : ∀ A cap w', w'.ownsRow B e size (.slice A (n + m) cap) (n + m) (ys ++ L2.flatten) → w.grownBy w' v.ownBlock → Below B w w' → wpList P ops Q rest (a.put o.dst (.slice A (n + m) cap)) w') : wpList P ops Q (o :: rest) a w := by
  obtain ⟨i, hi, hz, hsz', hby⟩ := info_parts hinfo
  have hml : m = L2.length := by
    obtain ⟨_, _, hv, _⟩ := hsrc
    simp only [Value.slice.injEq] at hv
    exact hv.2.1
  subst hml
  have key : ∀ ad, A2 = some ad → (∀ j u, L2.flatten[j]? = some u → w.cell? (ad.add j) = some u) → wpList P ops Q (o :: rest) a w := by
    intro ad hA hc
    subst hA
    refine wpList_append_own _ hgd s x t ho B e i _ size bytes ht hi hz hsz' hby hzc hsz v n _ hs hown ad L2.length c2 L2.flatten hx (flat_len hL2) hc (by intro u hu; obtain ⟨y, hy, hu⟩ := List.mem_flatten.1 hu; exact h1 y hy u hu) hn hbytes hB ?_
    intro v' w' h1 h2 _
    obtain ⟨A, c, rfl⟩ := own_form h1
    exact h A c w' h1 h2 ((Below.refl _ _).grown h2 hB fun k hk => (World.ownsRow.lt hown k hk).1)
  by_cases hE : L2 = []
  · subst hE
    rcases A2 with _ | ad
    · have hc2 := hc0 rfl
      subst hc2
      refine wpList_append_own_none hgd s x t ho B e i size ht hi v n _ hs hown hx ?_
      obtain ⟨A, cap, rfl⟩ := own_form hown
      have := h A cap w (by simpa using hown) (World.grownBy.refl w _) (Below.refl _ _)
      simpa using this
    · exact key ad rfl (by intro j u hj; simp at hj)
  · obtain ⟨b, off, rfl, hlt, hc⟩ := hsrc.open (by rcases L2 with _ | ⟨y, t⟩; exact absurd rfl hE; simp)
    refine key _ rfl fun j u hj => ?_
    rw [Addr.add_lit]
    have hjl : j < L2.length * size := by
      rw [← flat_len hL2]
      rcases Nat.lt_or_ge j L2.flatten.length with h | h
      · exact h
      · rw [List.getElem?_eq_none h] at hj; cases hj
    have hq : j / size < L2.length := by rw [Nat.div_lt_iff_lt_mul hsz]; exact hjl
    have hr : j % size < size := Nat.mod_lt _ hsz
    have hxl := hL2 _ (List.getElem_mem hq)
    have h2 := flat_at hL2 (j / size) _ (List.getElem?_eq_getElem hq) (j % size) _ (List.getElem?_eq_getElem (by rw [hxl]; exact hr))
    have e1 : j / size * size + j % size = j := by rw [Nat.mul_comm]; exact Nat.div_add_mod j size
    rw [e1, hj] at h2
    have h3 := hc (j / size) _ (List.getElem?_eq_getElem hq) (j % size) _ (List.getElem?_eq_getElem (by rw [hxl]; exact hr))
    rw [Nat.add_assoc, e1, ← h2] at h3
    exact h3
end Go.Proofs.YtfbhdkkmcfnghaaGreatDoor
