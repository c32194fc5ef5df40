/- Where a collector's lists lie. Conditions: the collector's memory. -/
import Derived.Test.YtfbhdkkmcfnghaaGreatM43
import Derived.Test.YtfbhdkkmcfnghaaGreatM37

section
namespace Go.Proofs.YtfbhdkkmcfnghaaGreat
open Go.RowKit
set_option linter.unusedVariables false

theorem InK.low {w : World} {A : Option Addr} {cap : Nat} {R : List Km} (h : KsR w A cap R) (hp : ∀ m ∈ R, 0 < m.k.L.length) : InK (fun k => k < w.heap.size) A R := by
  refine ⟨fun hne a ha => ?_, fun m hm a ha => km_block (h.each m hm) (hp m hm) a ha⟩
  obtain ⟨b, off, hA, hb, _⟩ := SlR.open h.row (by rw [List.length_map]; exact List.length_pos_iff.2 hne)
  rw [ha] at hA
  cases hA
  exact hb
/-- They lie in blocks that are there. -/
theorem CoM.low {w : World} {P : Nat → Prop} {g m : Nat} {c : Co} (h : CoM w P g c) (hc : c.Ok m) : CoM w (fun k => P k ∧ k < w.heap.size) g c := by
  obtain ⟨v, W, A, cap, R, h⟩ := h
  have hW : InW (fun k => k < w.heap.size) v W := InW.of_win h.row.win (fun p hp => by
    have hm : p.w ∈ c.D := by rw [← h.row.wis]; exact List.mem_map_of_mem hp
    have := (hc.dd.each _ hm).top
    intro e
    rw [e] at this
    cases this)
  have hK : InK (fun k => k < w.heap.size) A R := InK.low h.row.ks (fun m hm => by
    have : m.k ∈ c.K := by rw [← h.row.kk]; exact List.mem_map_of_mem hm
    exact (hc.fine.each _ this).1)
  exact ⟨v, W, A, cap, R, h.head, fun hg => h.gP hg.1, h.row.win, h.row.wis, ⟨fun a n c e => ⟨h.row.inw.1 a n c e, hW.1 a n c e⟩, fun p hp a e => ⟨h.row.inw.2 p hp a e, hW.2 p hp a e⟩⟩, ⟨fun hne a e => ⟨h.row.ink.1 hne a e, hK.1 hne a e⟩, fun p hp a e => ⟨h.row.ink.2 p hp a e, hK.2 p hp a e⟩⟩, h.row.ks, h.row.kk⟩
/-- The collector lies off a row of the call's own. -/
def offO (g : Nat) (o : Value) (k : Nat) : Prop := k ≠ g ∧ o.ownBlock ≠ some k
/-- Behind an append to that row. -/
theorem CoM.appended {w W w' : World} {g m g' n cap : Nat} {o : Value} {c : Co} (h : CoM w (offO g o) g c) (hc : c.Ok m) (hb : Below w.heap.size w W) (hgr : W.grownBy w' o.ownBlock) (ho : ∀ k, o.ownBlock = some k → k ≠ g) (hat : o.ownBlock = some g' ∨ w.heap.size ≤ g') :
    CoM w' (offO g (.slice (some ⟨g', 0, none⟩) n cap)) g c := by
  have h1 := (h.low hc).keep hb
  have h2 : CoM w' (fun k => offO g o k ∧ k < w.heap.size) g c := by
    refine h1.other (F := fun k => o.ownBlock = some k) ⟨hgr.os, hgr.tape, hgr.output, hgr.size, fun k hk hn => hgr.block k hk (fun e => hn e.symm)⟩ (fun i hi hP => hP.1.2 hi) (fun e => ho g e rfl)
  refine h2.said (fun k hk => ⟨hk.1.1, fun e => ?_⟩) (fun hg => hg.1 rfl)
  have e' : g' = k := by simpa [Value.ownBlock] using e
  subst e'
  rcases hat with h | h
  · exact hk.1.2 h
  · have := hk.2
    omega
/-- 'append(out, x)': the row, and where it lies. -/
theorem wpList_append_elem_lies {P : Program} {ops : Array Oper} {rest : List Oper} {o : Oper} {a : Act} {Q : Exit → Act → World → Prop}
    (wr : World) (xs : List Value) (eo : TypeId) (hgd : o.guard = none) (s y : Operand) (t : TypeId)
    (ho : o.op = Op.call { callee := Callee.builtin Builtin.append, args := #[s, y], argTypes := #[t, t] })
    (B : Nat) (e : TypeId) (z : Value) (size bytes : Nat) (ht : P.underlying t = some (.slice e))
    (hinfo : (P.info? e).map (fun i => (i.zero, i.size, i.bytes)) = some (some z, size, bytes))
    (v : Value) (n : Nat) (ys : List Value) (hown : wr.ownsRow B e size v n ys)
    (hs : a.eval s = v) (g : Nat) (hx : a.eval y = .slice (some ⟨g, 0, none⟩) 1 1) (hgs : g = wr.heap.size)
    (hzc : z.cells.size = size) (hsz : 0 < size) (hlen : xs.length = size) (h1 : ∀ u ∈ xs, u.oneCell' = true) (hbytes : (n + 1) * bytes ≤ 140737488355328) (hn : n + 1 ≤ maxLen) (hB : B ≤ wr.heap.size)
    (h : ∀ g' cap w', w'.ownsRow B e size (.slice (some ⟨g', 0, none⟩) (n + 1) cap) (n + 1) (ys ++ xs) → (wr.alloc (.cells xs.toArray eo)).grownBy w' v.ownBlock → Below B wr w' → wr.heap.size < w'.heap.size → (v.ownBlock = some g' ∨ wr.heap.size ≤ g') →
      wpList P ops Q rest (a.put o.dst (.slice (some ⟨g', 0, none⟩) (n + 1) cap)) w') :
    wpList P ops Q (o :: rest) a (wr.alloc (.cells xs.toArray eo)) := by
  subst hgs
  obtain ⟨i, hi, hz, hsz', hby⟩ := info_parts hinfo
  refine wpList_append_lies _ hgd s y t ho B e i z size bytes ht hi hz hsz' hby hzc hsz v n ys hs (hown.alloc _) ⟨wr.heap.size, 0, none⟩ 1 1 xs hx (by rw [hlen, Nat.one_mul]) ?_ h1 (by decide) hn hbytes (by simp; omega) (wr.heap.size + 1) (by simp) ?_
  · intro j u hj
    rw [Addr.add_lit, Nat.zero_add]
    have : (wr.alloc (.cells xs.toArray eo)).cell? ⟨wr.heap.size, j, none⟩ = xs[j]? := by simp
    rw [this, hj]
  · intro g' cap w' ho' hg hat hlt
    have hb : Below B wr (wr.alloc (.cells xs.toArray eo)) := (Below.refl _ _).alloc hB _
    refine h g' cap w' ho' hg (hb.grown hg (by simp; omega) fun k hk => (hown.lt k hk).1) ?_ (hat.imp id (by omega))
    have := hg.size
    simp at this; omega
/-- A row of one's own grows: where it lay it is another block's rows no more. -/
theorem km_grown {W w' : World} {o : Value} {m : Km} (h : KmR W m) (hgr : W.grownBy w' o.ownBlock) (hne : ∀ a, m.A = some a → o.ownBlock ≠ some a.block) : KmR w' m := by
  refine slrTurn (F := fun k => o.ownBlock = some k) h ⟨hgr.os, hgr.tape, hgr.output, hgr.size, fun k hk hn => hgr.block k hk (fun e => hn e.symm)⟩ (fun ad had hf => hne ad had hf)
theorem Co.get_fine {K : List Kp} {k : Kp} (hf : St.Fine K) (h : k ∈ K) : 0 < (St.get K k.hi k.lo).1.L.length ∧ (St.get K k.hi k.lo).1.L.length ≤ 64 := by
  have h2 := Co.get_mem h
  unfold St.get at h2 ⊢
  cases ho : St.at_ K k.hi k.lo with
  | none => rw [ho] at h2; cases h2
  | some i =>
    obtain ⟨hi, _⟩ := St.find_at ho
    simp only [List.getD_eq_getElem?_getD, List.getElem?_eq_getElem hi, Option.getD_some]
    exact hf.each _ (List.getElem_mem hi)
/-- Elements of a row that grows, which lie beside it. -/
structure BesideK (w : World) (D : Nat) (o : Value) (R : List Km) : Prop where
  each : ∀ m ∈ R, KmR w m
  far : ∀ m ∈ R, ∀ a, m.A = some a → D ≤ a.block ∧ a.block < w.heap.size ∧ o.ownBlock ≠ some a.block
theorem BesideK.nil (w : World) (D : Nat) (o : Value) : BesideK w D o [] := ⟨by simp, by simp⟩
theorem BesideK.keep {w w' : World} {D : Nat} {o : Value} {R : List Km} (h : BesideK w D o R) (hb : Below w.heap.size w w') : BesideK w' D o R :=
  ⟨fun m hm => (h.each m hm).keep hb, fun m hm a ha => by obtain ⟨h1, h2, h3⟩ := h.far m hm a ha; exact ⟨h1, Nat.lt_of_lt_of_le h2 hb.size, h3⟩⟩
/-- One element more: its rows are newer than the row. -/
theorem BesideK.more {w0 w W w' : World} {D g' n cap : Nat} {o : Value} {R : List Km} {m : Km} (h : BesideK w0 D o R) (hb0 : Below w0.heap.size w0 w) (hD : D ≤ w0.heap.size) (hm : KmR w m) (hpos : 0 < m.k.L.length) (hnew : ∀ a, m.A = some a → w0.heap.size ≤ a.block)
    (ho : ∀ k, o.ownBlock = some k → k < w0.heap.size) (hb : Below w.heap.size w W) (hgr : W.grownBy w' o.ownBlock) (hat : o.ownBlock = some g' ∨ w.heap.size ≤ g') : BesideK w' D (.slice (some ⟨g', 0, none⟩) n cap) (R ++ [m]) := by
  have h1 := h.keep hb0
  have hmb := km_block hm hpos
  have hsz := Nat.le_trans hb.size hgr.size
  refine ⟨fun x hx => ?_, fun x hx a ha => ?_⟩
  · rcases List.mem_append.1 hx with hx | hx
    · exact km_grown ((h1.each x hx).keep hb) hgr (fun a ha => (h1.far x hx a ha).2.2)
    · obtain rfl : x = m := by simpa using hx
      exact km_grown (hm.keep hb) hgr (fun a ha e => by have := ho _ e; have := hnew a ha; omega)
  · have key : D ≤ a.block ∧ a.block < w.heap.size ∧ o.ownBlock ≠ some a.block := by
      rcases List.mem_append.1 hx with hx | hx
      · exact h1.far x hx a ha
      · obtain rfl : x = m := by simpa using hx
        exact ⟨Nat.le_trans hD (hnew a ha), hmb a ha, fun e => by have := ho _ e; have := hnew a ha; omega⟩
    refine ⟨key.1, Nat.lt_of_lt_of_le key.2.1 hsz, fun e => ?_⟩
    have e' : g' = a.block := by simpa [Value.ownBlock] using e
    rcases hat with h | h
    · rw [e'] at h; exact key.2.2 h
    · omega
end Go.Proofs.YtfbhdkkmcfnghaaGreat
end
