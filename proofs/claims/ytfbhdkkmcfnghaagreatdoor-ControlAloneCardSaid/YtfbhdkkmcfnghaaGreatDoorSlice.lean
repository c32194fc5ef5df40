/- Slices of elements of several cells, read as lists. No condition. -/
import Derived.Test.YtfbhdkkmcfnghaaGreatDoorKit
import Derived.Test.YtfbhdkkmcfnghaaGreatDoorData
import Derived.Laws.OwnMore
import Derived.Maps.AppendAt
import Derived.Deep.RegionLaw
namespace Go.Proofs.YtfbhdkkmcfnghaaGreatDoor
open Go.RowKit

/-- The slice value v reads as the elements L, each of c cells. -/
def SlR (w : World) (c : Nat) (v : Value) (L : List (List Value)) : Prop :=
  ∃ A cap, v = .slice A L.length cap ∧ L.length ≤ cap ∧ cap ≤ maxLen ∧
    (L ≠ [] → ∃ b off, A = some ⟨b, off, none⟩ ∧ b < w.heap.size ∧ ∀ i x, L[i]? = some x → ∀ j u, x[j]? = some u → w.cell? ⟨b, off + i * c + j, none⟩ = some u)

section
variable {w w' : World} {c : Nat} {v : Value} {L : List (List Value)}

theorem SlR.nil (w : World) (c : Nat) : SlR w c (.slice none 0 0) [] := ⟨none, 0, rfl, Nat.le_refl _, by unfold maxLen; omega, fun h => absurd rfl h⟩
theorem SlR.keep (h : SlR w c v L) (hb : Below w.heap.size w w') : SlR w' c v L := by
  obtain ⟨A, cap, hv, h1, h2, h3⟩ := h
  refine ⟨A, cap, hv, h1, h2, fun hL => ?_⟩
  obtain ⟨b, off, hA, hlt, hc⟩ := h3 hL
  exact ⟨b, off, hA, Nat.lt_of_lt_of_le hlt hb.size, fun i x hx j u hu => (hb.cell (p := ⟨b, _, none⟩) hlt).trans (hc i x hx j u hu)⟩
theorem SlR.alloc (h : SlR w c v L) (o : Obj) : SlR (w.alloc o) c v L := h.keep (Below.alloc' (Below.self w) o)
theorem SlR.drewN (h : SlR w c v L) (n : Nat) : SlR (w.drewN n) c v L := h
theorem SlR.drew (h : SlR w c v L) : SlR w.drew c v L := h
/-- Its shape. -/
theorem SlR.form (h : SlR w c v L) : ∃ A cap, v = .slice A L.length cap ∧ L.length ≤ cap ∧ cap ≤ maxLen := let ⟨A, cap, a, b, d, _⟩ := h; ⟨A, cap, a, b, d⟩
theorem SlR.len (h : SlR w c v L) : L.length ≤ 9223372036854775807 := by
  obtain ⟨A, cap, _, h1, h2, _⟩ := h
  unfold maxLen at h2; omega
/-- Where there is an element: its cells. -/
theorem SlR.open {A : Option Addr} {n cap : Nat} (h : SlR w c (.slice A n cap) L) (hL : 0 < L.length) :
    ∃ b off, A = some ⟨b, off, none⟩ ∧ b < w.heap.size ∧ ∀ i x, L[i]? = some x → ∀ j u, x[j]? = some u → w.cell? ⟨b, off + i * c + j, none⟩ = some u := by
  obtain ⟨A', cap', hv, _, _, h3⟩ := h
  simp only [Value.slice.injEq] at hv
  obtain ⟨rfl, rfl, rfl⟩ := hv
  exact h3 (by intro h; subst h; simp at hL)
/-- The first elements. -/
theorem SlR.take {A : Option Addr} {n cap : Nat} (h : SlR w c (.slice A n cap) L) (k : Nat) (hk : k ≤ L.length) : SlR w c (.slice A k cap) (L.take k) := by
  obtain ⟨A', cap', hv, h1, h2, h3⟩ := h
  simp only [Value.slice.injEq] at hv
  obtain ⟨rfl, rfl, rfl⟩ := hv
  have e : (L.take k).length = k := by simp; omega
  refine ⟨A, cap, by rw [e], by rw [e]; omega, h2, fun hL => ?_⟩
  obtain ⟨b, off, hA, hlt, hc⟩ := h3 (by intro h; subst h; simp at hL)
  refine ⟨b, off, hA, hlt, fun i x hx => hc i x ?_⟩
  rw [List.getElem?_take] at hx
  split at hx
  · exact hx
  · cases hx
/-- What a call made itself. -/
theorem SlR.of_own {base : Nat} {e : TypeId} {n : Nat} {xs : List Value} (h : w.ownsRow base e c v n xs) (hL : L.length = n) (hx : ∀ i x, L[i]? = some x → ∀ j u, x[j]? = some u → xs[i * c + j]? = some u) : SlR w c v L := by
  have h0 := h
  rcases h.2 with ⟨rfl, rfl⟩ | ⟨g, cap, cur, rfl, _, hg, h1, h2, _, _⟩
  · obtain rfl := List.eq_nil_of_length_eq_zero hL
    exact SlR.nil w c
  · subst hL
    refine ⟨_, cap, rfl, h1, h2, fun _ => ⟨g, 0, rfl, (Array.getElem?_eq_some_iff.1 hg).1, fun i x hi j u hu => ?_⟩⟩
    have := World.ownsRow.cells h0 rfl (i * c + j) u (hx i x hi j u hu)
    rwa [Addr.add_lit, ← Nat.add_assoc] at this
end

/-- Cells of elements one behind the other. -/
theorem flat_at {L : List (List Value)} {c : Nat} (hL : ∀ x ∈ L, x.length = c) : ∀ i x, L[i]? = some x → ∀ j u, x[j]? = some u → L.flatten[i * c + j]? = some u := by
  induction L with
  | nil => intro i x h; simp at h
  | cons y t ih =>
    intro i x hi j u hu
    have hy := hL y (by simp)
    cases i with
    | zero =>
      simp at hi; subst hi
      have hj : j < y.length := by rcases Nat.lt_or_ge j y.length with h | h; exact h; simp [List.getElem?_eq_none h] at hu
      simp only [List.flatten_cons, Nat.zero_mul, Nat.zero_add]
      rw [List.getElem?_append_left hj]; exact hu
    | succ i =>
      simp at hi
      simp only [List.flatten_cons]
      rw [List.getElem?_append_right (by rw [hy, Nat.succ_mul]; omega), hy, show (i + 1) * c + j - c = i * c + j by rw [Nat.succ_mul]; omega]
      exact ih (fun x hx => hL x (by simp [hx])) i x hi j u hu

/-! What the form grants of a slice that comes in. -/
open Go.WideShapes Cells in
/-- A slice that came in. -/
theorem open_slc {P : Program} {w : World} {t e : TypeId} {c : Nat} {ps : List (Value → Prop)} {H : Type} {enc : TypeId × Value → H} {r : Reach} {b0 : Nat} {v : Value} {d : DataW H} {q : List MemPlace} (ht : P.underlying t = some (.slice e)) (hf : Flat P w t [pSlice w c ps])
    (hval : Value.okWide P w r b0 t v) (hd : DataW.Trod enc P w 0 (fun _ => true) true t v d q) : pSlice w c ps v := by
  obtain ⟨a0, len, cap, rfl⟩ := okWide_slice ht hval
  obtain ⟨fuel, h⟩ := hd
  have := hf _ _ _ _ _ h
  exact this.1

open Cells in
theorem slr_of {w : World} {c : Nat} {ps : List (Value → Prop)} {v : Value} {α : Type} (enc : α → List Value) (ok : α → Prop) (hr : ∀ cs, Rel ps cs → ∃ x, cs = enc x ∧ ok x) (hc : ∀ x, (enc x).length = c) (hc0 : 0 < c) (h : pSlice w c ps v) :
    ∃ L : List α, SlR w c v (L.map enc) ∧ ∀ x ∈ L, ok x := by
  rcases h with rfl | ⟨a, len, cap, rfl, hl, hm, hE⟩
  · exact ⟨[], SlR.nil w c, by simp⟩
  · have hx : ∀ i, i < len → ∃ x, w.cells? 0 (a.add (i * c)) c = some (enc x) ∧ ok x := by
      intro i hi
      obtain ⟨cs, h1, h2⟩ := hE i (by omega)
      obtain ⟨x, rfl, h3⟩ := hr cs h2
      exact ⟨x, h1, h3⟩
    have hL : ∃ L : List α, L.length = len ∧ ∀ i x, L[i]? = some x → w.cells? 0 (a.add (i * c)) c = some (enc x) ∧ ok x := by
      clear hE hl hm
      induction len with
      | zero => exact ⟨[], rfl, by intro i x h; simp at h⟩
      | succ n ih =>
        obtain ⟨L, h1, h2⟩ := ih fun i hi => hx i (by omega)
        obtain ⟨x, h3⟩ := hx n (by omega)
        refine ⟨L ++ [x], by simp [h1], fun i y hy => ?_⟩
        rcases Nat.lt_or_ge i L.length with h | h
        · rw [List.getElem?_append_left h] at hy; exact h2 i y hy
        · have hi : i = n := by
            have : i < (L ++ [x]).length := by rcases Nat.lt_or_ge i (L ++ [x]).length with g | g; exact g; simp [List.getElem?_eq_none g] at hy
            simp at this; omega
          subst hi
          rw [List.getElem?_append_right h, h1, Nat.sub_self] at hy
          simp at hy; subst hy; exact h3
    obtain ⟨L, h1, h2⟩ := hL
    refine ⟨L, ⟨some a, cap, by simp [h1], by simp; omega, hm, fun hne => ?_⟩, fun x hx => ?_⟩
    · have h0 : 0 < len := by rcases L with _ | ⟨y, t⟩; exact absurd rfl hne; simp at h1; omega
      have hc1 : ∀ i x, L[i]? = some x → ∀ j, j < c → w.cell? ((a.add (i * c)).add j) = (enc x)[j]? := fun i x hi => (World.cells?_some (h2 i x hi).1).2.2
      obtain ⟨y, hy⟩ : ∃ y, L[0]? = some y := ⟨L[0]'(by omega), List.getElem?_eq_getElem _⟩
      obtain ⟨b, off, spot⟩ := a
      have hk := hc1 0 y hy 0 hc0
      obtain ⟨u, hu⟩ : ∃ u, (enc y)[0]? = some u := ⟨_, List.getElem?_eq_getElem (by rw [hc]; exact hc0)⟩
      rw [hu] at hk
      have hspot : spot = none := by simpa [Addr.add] using World.cell?_spot hk
      subst hspot
      have hb : b < w.heap.size := by
        rcases Nat.lt_or_ge b w.heap.size with h | h
        · exact h
        · simp [World.cell?, Addr.add, Array.getElem?_eq_none h] at hk
      refine ⟨b, off, rfl, hb, fun i x hi j u hu => ?_⟩
      rw [List.getElem?_map] at hi
      obtain ⟨z, hz, rfl⟩ := Option.map_eq_some_iff.1 hi
      have hj : j < c := by rw [← hc z]; rcases Nat.lt_or_ge j (enc z).length with h | h; exact h; simp [List.getElem?_eq_none h] at hu
      have := hc1 i z hz j hj
      rw [Addr.add_lit, Addr.add_lit, hu] at this
      exact this
    · obtain ⟨i, hi, rfl⟩ := List.getElem_of_mem hx
      exact (h2 i _ (List.getElem?_eq_getElem hi)).2

/-- What a call owns stays, where nothing old turns. -/
theorem own_kept {w w' : World} {base : Nat} {e : TypeId} {size : Nat} {v : Value} {n : Nat} {xs : List Value} (h : w.ownsRow base e size v n xs) (hb : Below w.heap.size w w') : w'.ownsRow base e size v n xs :=
  h.kept (row := none) ⟨hb.os, hb.tape, hb.output, hb.size, fun i hi _ => hb.block i hi⟩ (by cases hv : v.ownBlock <;> simp)

/-- 'append(out, x)', x of several cells: they lie in the block that was just laid. -/
theorem wpList_append_elem {P : Program} {ops : Array Oper} {rest : List Oper} {o : Oper} {a : Act} {Q : Exit → Act → World → Prop}
    (wr : World) (xs : List Value) (eo : TypeId) (hgd : o.guard = none) (s y : Operand) (t : TypeId)
    (ho : o.op = Op.call { callee := Callee.builtin Builtin.append, args := #[s, y], argTypes := #[t, t] })
    (B : Nat) (e : TypeId) (z : Value) (size bytes : Nat) (ht : P.underlying t = some (.slice e))
    (hinfo : (P.info? e).map (fun i => (i.zero, i.size, i.bytes)) = some (some z, size, bytes))
    (v : Value) (n : Nat) (ys : List Value) (hown : wr.ownsRow B e size v n ys)
    (hs : a.eval s = v) (g : Nat) (hx : a.eval y = .slice (some ⟨g, 0, none⟩) 1 1) (hgs : g = wr.heap.size)
    (hzc : z.cells.size = size) (hsz : 0 < size) (hlen : xs.length = size) (h1 : ∀ u ∈ xs, u.oneCell' = true) (hbytes : (n + 1) * bytes ≤ 140737488355328) (hn : n + 1 ≤ maxLen) (hB : B ≤ wr.heap.size)
    (h : ∀ v' w', w'.ownsRow B e size v' (n + 1) (ys ++ xs) → (wr.alloc (.cells xs.toArray eo)).grownBy w' v.ownBlock → Below B wr w' → wr.heap.size < w'.heap.size →
      wpList P ops Q rest (a.put o.dst v') w') :
    wpList P ops Q (o :: rest) a (wr.alloc (.cells xs.toArray eo)) := by
  subst hgs
  obtain ⟨i, hi, hz, hsz', hby⟩ := info_parts hinfo
  refine wpList_append_own _ hgd s y t ho B e i z size bytes ht hi hz hsz' hby hzc hsz v n ys hs (hown.alloc _) ⟨wr.heap.size, 0, none⟩ 1 1 xs hx (by rw [hlen, Nat.one_mul]) ?_ h1 hn hbytes ?_ ?_
  · intro j u hj
    rw [Addr.add_lit, Nat.zero_add]
    have : (wr.alloc (.cells xs.toArray eo)).cell? ⟨wr.heap.size, j, none⟩ = xs[j]? := by simp
    rw [this, hj]
  · simp; omega
  · intro v' w' ho' hg _
    have hb : Below B wr (wr.alloc (.cells xs.toArray eo)) := (Below.refl _ _).alloc hB _
    refine h v' w' ho' hg (hb.grown hg (by simp; omega) fun k hk => (hown.lt k hk).1) ?_
    have := hg.size
    simp at this; omega

theorem own_form {w : World} {B : Nat} {e : TypeId} {size : Nat} {v : Value} {n : Nat} {xs : List Value} (h : w.ownsRow B e size v n xs) : ∃ A cap, v = .slice A n cap := by
  rcases h.2 with ⟨rfl, rfl⟩ | ⟨g, cap, cur, rfl, _⟩
  · exact ⟨_, _, rfl⟩
  · exact ⟨_, _, rfl⟩

/-- The same; the new slice as the walk writes it. -/
theorem wpList_append_elem_form {P : Program} {ops : Array Oper} {rest : List Oper} {o : Oper} {a : Act} {Q : Exit → Act → World → Prop}
    (wr : World) (xs : List Value) (eo : TypeId) (hgd : o.guard = none) (s y : Operand) (t : TypeId)
    (ho : o.op = Op.call { callee := Callee.builtin Builtin.append, args := #[s, y], argTypes := #[t, t] })
    (B : Nat) (e : TypeId) (z : Value) (size bytes : Nat) (ht : P.underlying t = some (.slice e))
    (hinfo : (P.info? e).map (fun i => (i.zero, i.size, i.bytes)) = some (some z, size, bytes))
    (v : Value) (n : Nat) (ys : List Value) (hown : wr.ownsRow B e size v n ys)
    (hs : a.eval s = v) (g : Nat) (hx : a.eval y = .slice (some ⟨g, 0, none⟩) 1 1) (hgs : g = wr.heap.size)
    (hzc : z.cells.size = size) (hsz : 0 < size) (hlen : xs.length = size) (h1 : ∀ u ∈ xs, u.oneCell' = true) (hbytes : (n + 1) * bytes ≤ 140737488355328) (hn : n + 1 ≤ maxLen) (hB : B ≤ wr.heap.size)
    (h : ∀ A cap w', w'.ownsRow B e size (.slice A (n + 1) cap) (n + 1) (ys ++ xs) → (wr.alloc (.cells xs.toArray eo)).grownBy w' v.ownBlock → Below B wr w' → wr.heap.size < w'.heap.size →
      wpList P ops Q rest (a.put o.dst (.slice A (n + 1) cap)) w') :
    wpList P ops Q (o :: rest) a (wr.alloc (.cells xs.toArray eo)) := by
  refine wpList_append_elem wr xs eo hgd s y t ho B e z size bytes ht hinfo v n ys hown hs g hx hgs hzc hsz hlen h1 hbytes hn hB ?_
  intro v' w' h1 h2 h3 h4
  obtain ⟨A, cap, rfl⟩ := own_form h1
  exact h A cap w' h1 h2 h3 h4

theorem results_tmp4 {fn : Func} {t u v x : Tmp} (h : fn.results = #[.tmp t, .tmp u, .tmp v, .tmp x]) (tmps : Array Value) (P : Program) (w : World) :
    (results fn tmps).run P w = .ok (.tuple #[tmps.getD t undef, tmps.getD u undef, tmps.getD v undef, tmps.getD x undef]) w := by simp [results, h]

/-- 'append(out, a, b, ..)', bytes: they lie in the block that was just laid. -/
theorem wpList_append_bytes {P : Program} {ops : Array Oper} {rest : List Oper} {o : Oper} {a : Act} {Q : Exit → Act → World → Prop}
    {wr : World} (xs : List Value) {eo : TypeId} {B : Nat} {e : TypeId} {v : Value} {l : List UInt8} (hown : BRow wr B e v l) (news : List UInt8) (hxs : xs = news.map fun b => Value.int .u8 (b.toNat : Int))
    (hgd : o.guard = none) (s y : Operand) (t : TypeId)
    (ho : o.op = Op.call { callee := Callee.builtin Builtin.append, args := #[s, y], argTypes := #[t, t] })
    (ht : P.underlying t = some (.slice e))
    (hinfo : (P.info? e).map (fun i => (i.zero, i.size, i.bytes)) = some (some (.int .u8 0), 1, 1))
    (hs : a.eval s = v) (m : Nat) (hx : a.eval y = .slice (some ⟨wr.heap.size, 0, none⟩) m m) (hm : m = news.length)
    (hbytes : l.length + news.length ≤ 140737488355328) (hB : B ≤ wr.heap.size)
    (h : ∀ v' w', BRow w' B e v' (l ++ news) → Below B wr w' → wr.heap.size < w'.heap.size → wpList P ops Q rest (a.put o.dst v') w') :
    wpList P ops Q (o :: rest) a (wr.alloc (.cells xs.toArray eo)) := by
  subst hxs hm
  obtain ⟨i, hi, hz, hsz, hby⟩ := info_parts hinfo
  refine wpList_append_own _ hgd s y t ho B e i _ 1 1 ht hi hz hsz hby rfl (by decide) v _ _ hs (World.ownsRow.alloc hown _) ⟨wr.heap.size, 0, none⟩ _ _ (news.map fun b => Value.int .u8 (b.toNat : Int)) hx (by simp) ?_ ?_ ?_ (by omega) ?_ ?_
  · intro j u hj
    rw [Addr.add_lit, Nat.zero_add]
    have : (wr.alloc (.cells (news.map fun b => Value.int .u8 (b.toNat : Int)).toArray eo)).cell? ⟨wr.heap.size, j, none⟩ = (news.map fun b => Value.int .u8 (b.toNat : Int))[j]? := by simp
    rw [this, hj]
  · intro u hu
    obtain ⟨b, _, rfl⟩ := List.mem_map.1 hu
    rfl
  · unfold maxLen; omega
  · simp; omega
  · intro v' w' ho' hg _
    have hb : Below B wr (wr.alloc (.cells (news.map fun b => Value.int .u8 (b.toNat : Int)).toArray eo)) := (Below.refl _ _).alloc hB _
    refine h v' w' ?_ (hb.grown hg (by simp; omega) fun k hk => (World.ownsRow.lt hown k hk).1) ?_
    · unfold BRow; simpa using ho'
    · have := hg.size
      simp at this; omega

/-- The same as one step of a region that draws its order. -/
theorem step_append_bytes {P : Program} {ops : Array Oper} {o : Oper} {a : Act} {K : Act → World → Prop} {Q : Exit → Act → World → Prop} {E : Prop}
    {wr : World} (xs : List Value) {eo : TypeId} {B : Nat} {e : TypeId} {v : Value} {l : List UInt8} (hown : BRow wr B e v l) (news : List UInt8) (hxs : xs = news.map fun b => Value.int .u8 (b.toNat : Int))
    (hgd : o.guard = none) (s y : Operand) (t : TypeId)
    (ho : o.op = Op.call { callee := Callee.builtin Builtin.append, args := #[s, y], argTypes := #[t, t] })
    (ht : P.underlying t = some (.slice e))
    (hinfo : (P.info? e).map (fun i => (i.zero, i.size, i.bytes)) = some (some (.int .u8 0), 1, 1))
    (hs : a.eval s = v) (m : Nat) (hx : a.eval y = .slice (some ⟨wr.heap.size, 0, none⟩) m m) (hm : m = news.length)
    (hbytes : l.length + news.length ≤ 140737488355328) (hB : B ≤ wr.heap.size)
    (h : ∀ v' w', BRow w' B e v' (l ++ news) → Below B wr w' → wr.heap.size < w'.heap.size → K (a.put o.dst v') w') :
    if Region.wanted o (yielded ops a.tmps) = true then Oper.wp P o a (wr.alloc (.cells xs.toArray eo)) K Q else E := by
  have hw : Region.wanted o (yielded ops a.tmps) = true := by simp [Region.wanted, hgd]
  rw [if_pos hw]
  subst hxs hm
  obtain ⟨i, hi, hz, hsz, hby⟩ := info_parts hinfo
  obtain ⟨v', w', hrun, h2, h3, _, _⟩ := run_append_own_at (P := P) (wr.alloc (.cells (news.map fun b => Value.int .u8 (b.toNat : Int)).toArray eo)) B t o.type e i _ 1 1 ht hi hz hsz hby rfl (by decide) v _ _ (World.ownsRow.alloc hown _)
    ⟨wr.heap.size, 0, none⟩ news.length news.length (news.map fun b => Value.int .u8 (b.toNat : Int)) (by simp) (fun j u hj => by
      rw [Addr.add_lit, Nat.zero_add]
      have : (wr.alloc (.cells (news.map fun b => Value.int .u8 (b.toNat : Int)).toArray eo)).cell? ⟨wr.heap.size, j, none⟩ = (news.map fun b => Value.int .u8 (b.toNat : Int))[j]? := by simp
      rw [this, hj]) (fun u hu => by obtain ⟨b, _, rfl⟩ := List.mem_map.1 hu; rfl) (by unfold maxLen; omega) (by omega) (by simp; omega)
  unfold Oper.wp execOp
  simp only [ho, resolve, invoke, builtin, Sem.run_bind, Sem.run_pure, Result.andThen_ok, List.map_toArray, List.map_cons, List.map_nil, hs, hx, hrun]
  have hb : Below B wr (wr.alloc (.cells (news.map fun b => Value.int .u8 (b.toNat : Int)).toArray eo)) := (Below.refl _ _).alloc hB _
  refine h v' w' ?_ (hb.grown h3 (by simp; omega) fun k hk => (World.ownsRow.lt hown k hk).1) ?_
  · unfold BRow; simpa using h2
  · have := h3.size
    simp at this; omega

/-- The cells of an element of a slice. -/
theorem SlR.cells {w : World} {c b off n cap : Nat} {L : List (List Value)} (h : SlR w c (.slice (some ⟨b, off, none⟩) n cap) L) {i : Nat} {x : List Value} (hi : L[i]? = some x) :
    b < w.heap.size ∧ ∀ j u, x[j]? = some u → w.cell? ⟨b, off + i * c + j, none⟩ = some u := by
  have hlt : i < L.length := by rcases Nat.lt_or_ge i L.length with h | h; exact h; simp [List.getElem?_eq_none h] at hi
  obtain ⟨b', off', hA, hb, hc⟩ := h.open (by omega)
  simp only [Option.some.injEq, Addr.mk.injEq] at hA
  obtain ⟨rfl, rfl, _⟩ := hA
  exact ⟨hb, hc i x hi⟩

end Go.Proofs.YtfbhdkkmcfnghaaGreatDoor
