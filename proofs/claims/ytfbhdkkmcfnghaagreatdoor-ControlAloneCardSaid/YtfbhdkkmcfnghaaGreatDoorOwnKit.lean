/- Rows of the call's own, blocks known whole, worlds in which some blocks turned: small laws. No condition. -/
import Derived.Test.YtfbhdkkmcfnghaaGreatDoorApp
import Derived.Test.YtfbhdkkmcfnghaaGreatDoorProg
import Derived.Deep.MidRow
import Derived.Lib.SliceRun
import Derived.Deep.RegionHeld3
import Derived.Deep.Onto
import Derived.Deep.AppendLies
namespace Go.Proofs.YtfbhdkkmcfnghaaGreatDoor
open Go.RowKit
set_option linter.unusedVariables false

theorem own_undr {w w' : World} {B : Nat} {e : TypeId} {size n : Nat} {v : Value} {xs : List Value} (h : w.ownsRow B e size v n xs) {g : Nat} (ho : Only g w w') (hg : g < B) : w'.ownsRow B e size v n xs := by
  refine World.ownsRow.kept h ho ?_
  cases hv : v.ownBlock with
  | none => exact .inl rfl
  | some k =>
    right
    have := (World.ownsRow.lt h k hv).1
    intro e; cases e; omega
theorem own_of_cells {w : World} {B : Nat} {e : TypeId} {c n cap : Nat} {A : Option Addr} {α : Type} {L : List α} {enc : α → List Value} (hc : ∀ x, (enc x).length = c) (h : w.ownsRow B e c (.slice A n cap) n (L.flatMap enc)) (hn : n = L.length) : SlR w c (.slice A n cap) (L.map enc) := by
  refine SlR.of_own h (by simp [hn]) ?_
  rw [List.flatMap_def]
  exact flat_at (fun x hx => by obtain ⟨y, _, rfl⟩ := List.mem_map.1 hx; exact hc y)
theorem wpList_store_hx {P : Program} {ops : Array Oper} {rest : List Oper} {op : Oper} {a : Act} {w : World} {Q : Exit → Act → World → Prop} (hgd : op.guard = none) (ty : TypeId) (x y : Operand) (ho : op.op = .store ty x y) (hdst : op.dst = none)
    (b o : Nat) (cells : List Value) (hx : a.eval x = .pointer (some ⟨b, o, none⟩)) (hy : a.eval y = .agg cells.toArray)
    (ht : w.there b o cells.length) (hi : (P.info? ty).map (·.size) = some cells.length) (h1 : ∀ u ∈ cells, u.oneCell' = true)
    (h : wpList P ops Q rest a (w.setCells b o cells)) : wpList P ops Q (op :: rest) a w := by
  refine wpList_store_mid hgd ty x y ho b o cells.toArray hx hy (by simpa using ht) (by simpa using hi) (all_oneCell_toArray h1) ?_
  rw [hdst]
  simpa [Act.put] using h
/-- The same, at the operation as it is written: fails at once at another. -/
theorem wpList_store_lit {P : Program} {ops : Array Oper} {rest : List Oper} {a : Act} {w : World} {Q : Exit → Act → World → Prop} {t' : TypeId} {pos : String} {af : Array Edge} (ty : TypeId) (x y : Operand)
    (b o : Nat) (cells : List Value) (hx : a.eval x = .pointer (some ⟨b, o, none⟩)) (hy : a.eval y = .agg cells.toArray)
    (ht : w.there b o cells.length) (hi : (P.info? ty).map (·.size) = some cells.length) (h1 : ∀ u ∈ cells, u.oneCell' = true)
    (h : wpList P ops Q rest a (w.setCells b o cells)) : wpList P ops Q ({ dst := none, op := .store ty x y, type := t', pos := pos, after := af, guard := none } :: rest) a w :=
  wpList_store_hx rfl ty x y rfl rfl b o cells hx hy ht hi h1 h
theorem only_all {g : Nat} : ∀ (cs : List Value) (w : World) (i : Nat), Only g w (w.setCells g i cs)
  | [], w, _ => Only.refl g w
  | v :: t, w, i => (Only.set g w i v).trans (only_all t _ (i + 1))
theorem held_all {g : Nat} : ∀ (cs' : List Value) (cs pre : List Value) (W : World), Held W g (pre ++ cs) → cs.length = cs'.length → Held (W.setCells g pre.length cs') g (pre ++ cs')
  | [], cs, pre, W, h, hl => by
    obtain rfl := List.eq_nil_of_length_eq_zero hl
    exact h
  | v :: t, cs, pre, W, h, hl => by
    rcases cs with _ | ⟨u, r⟩
    · cases hl
    · have h1 := h.set pre.length v
      rw [List.set_append_right _ _ (Nat.le_refl _), Nat.sub_self, List.set_cons_zero] at h1
      have h2 := held_all t r (pre ++ [v]) _ (by simpa using h1) (by simpa using hl)
      rw [List.length_append] at h2
      have h3 : Held ((W.setCell ⟨g, pre.length, none⟩ v).setCells g (pre.length + 1) t) g (pre ++ v :: t) := by simpa using h2
      exact h3
/-- A whole block is written over. -/
theorem Held.over {W : World} {g : Nat} {cs : List Value} (h : Held W g cs) (cs' : List Value) (hl : cs.length = cs'.length) : Held (W.setCells g 0 cs') g cs' := held_all cs' cs [] W h hl
theorem Held.there {W : World} {g : Nat} {cs : List Value} (h : Held W g cs) : W.there g 0 cs.length := fun j hj => by
  rw [Nat.zero_add]
  exact ⟨by rw [h.cell (List.getElem?_eq_getElem hj)]; rfl, h.free j⟩
theorem Held.range {W : World} {g : Nat} {cs : List Value} (h : Held W g cs) : W.rangeAt g 0 cs := fun j v hj => by rw [Nat.zero_add]; exact h.cell hj
theorem Held.offO {w w' : World} {g ga : Nat} {cs : List Value} (h : Held w g cs) (ho : Only ga w w') (hne : g ≠ ga) : Held w' g cs := by
  have := h.lt
  obtain ⟨t, h⟩ := h
  exact ⟨t, (ho.block g this (by simpa using hne)).trans h⟩
theorem slr_only {w w' : World} {g c n cap : Nat} {A : Option Addr} {L : List (List Value)} (h : SlR w c (.slice A n cap) L) (ho : Only g w w') (hA : ∀ ad, A = some ad → ad.block ≠ g) : SlR w' c (.slice A n cap) L := by
  obtain ⟨A', cap', hv, h1, h2, h3⟩ := h
  simp only [Value.slice.injEq] at hv
  obtain ⟨rfl, rfl, rfl⟩ := hv
  refine ⟨_, _, rfl, h1, h2, fun hL => ?_⟩
  obtain ⟨b, off, rfl, hlt, hc⟩ := h3 hL
  refine ⟨b, off, rfl, Nat.lt_of_lt_of_le hlt ho.size, fun i x hx j u hu => ?_⟩
  have hb := ho.block b hlt (by have := hA _ rfl; simpa using this)
  have : w'.cell? ⟨b, off + i * c + j, none⟩ = w.cell? ⟨b, off + i * c + j, none⟩ := World.cell?_of_block (w := w) hb
  rw [this]
  exact hc i x hx j u hu
def putL : List Value → Nat → List Value → List Value
  | xs, _, [] => xs
  | xs, i, v :: t => putL (xs.set i v) (i + 1) t
theorem own_putAll {B : Nat} {e : TypeId} {c g n cap : Nat} : ∀ (cs : List Value) (w : World) (i : Nat) (xs : List Value), w.ownsRow B e c (.slice (some ⟨g, 0, none⟩) n cap) n xs → (w.setCells g i cs).ownsRow B e c (.slice (some ⟨g, 0, none⟩) n cap) n (putL xs i cs)
  | [], _, _, _, h => h
  | v :: t, w, i, xs, h => own_putAll t _ (i + 1) _ (World.ownsRow.stored h i v).1
theorem putL_mid : ∀ (cs pre old post : List Value), cs.length = old.length → putL (pre ++ (old ++ post)) pre.length cs = pre ++ (cs ++ post)
  | [], pre, old, post, h => by
    obtain rfl := List.eq_nil_of_length_eq_zero h.symm
    rfl
  | v :: t, pre, old, post, h => by
    rcases old with _ | ⟨u, r⟩
    · cases h
    · unfold putL
      rw [List.set_append_right _ _ (Nat.le_refl _), Nat.sub_self]
      have h1 := putL_mid t (pre ++ [v]) r post (by simpa using h)
      rw [List.length_append] at h1
      simpa using h1
theorem own_there {w : World} {B : Nat} {e : TypeId} {c g n cap k : Nat} {xs : List Value} (h : w.ownsRow B e c (.slice (some ⟨g, 0, none⟩) n cap) n xs) (hk : k < n) : w.there g (k * c) c := fun j hj => by
  have hlt : k * c + j < n * c := by
    have : (k + 1) * c ≤ n * c := Nat.mul_le_mul_right c hk
    rw [Nat.succ_mul] at this; omega
  refine ⟨?_, h.frozenAt _⟩
  have hl := h.1
  rw [h.cellAt (k * c + j) hlt, List.getElem?_eq_getElem (by rw [hl]; exact hlt)]
  rfl
/-- Only blocks of F may have turned. -/
structure Turn (F : Nat → Prop) (w w' : World) : Prop where
  os : w'.os = w.os
  tape : w'.tape = w.tape
  output : w'.output = w.output
  size : w.heap.size ≤ w'.heap.size
  block : ∀ k, k < w.heap.size → ¬ F k → w'.heap[k]? = w.heap[k]?
theorem Turn.refl (F : Nat → Prop) (w : World) : Turn F w w := ⟨rfl, rfl, rfl, Nat.le_refl _, fun _ _ _ => rfl⟩
theorem Turn.of_below {F : Nat → Prop} {w w' : World} (h : Below w.heap.size w w') : Turn F w w' := ⟨h.os, h.tape, h.output, h.size, fun k hk _ => h.block k hk⟩
theorem Turn.of_grown {F : Nat → Prop} {w w' : World} {b : Nat} (h : w.grownBy w' (some b)) (hb : F b ∨ w.heap.size ≤ b) : Turn F w w' :=
  ⟨h.os, h.tape, h.output, h.size, fun k hk hn => h.block k hk (by intro e; cases e; rcases hb with hb | hb; exact hn hb; omega)⟩
theorem Turn.trans {F F' : Nat → Prop} {a b c : World} (h : Turn F a b) (k : Turn F' b c) (hF : ∀ i, F' i → F i ∨ a.heap.size ≤ i) : Turn F a c :=
  ⟨k.os.trans h.os, k.tape.trans h.tape, k.output.trans h.output, Nat.le_trans h.size k.size, fun i hi hn => (k.block i (Nat.lt_of_lt_of_le hi h.size) (fun hf => by rcases hF i hf with h' | h'; exact hn h'; omega)).trans (h.block i hi hn)⟩
theorem Turn.below {F : Nat → Prop} {B : Nat} {w w' : World} (h : Turn F w w') (hF : ∀ i, F i → B ≤ i) (hB : B ≤ w.heap.size) : Below B w w' :=
  ⟨h.os, h.tape, h.output, h.size, fun k hk => h.block k (by omega) (fun hf => by have := hF k hf; omega)⟩
theorem slrTurn {w w' : World} {F : Nat → Prop} {c : Nat} {A : Option Addr} {n cap : Nat} {L : List (List Value)} (h : SlR w c (.slice A n cap) L) (ht : Turn F w w') (hF : ∀ ad, A = some ad → ¬ F ad.block) : SlR w' c (.slice A n cap) L := by
  obtain ⟨A', cap', hv, h1, h2, h3⟩ := h
  simp only [Value.slice.injEq] at hv
  obtain ⟨rfl, rfl, rfl⟩ := hv
  refine ⟨_, _, rfl, h1, h2, fun hL => ?_⟩
  obtain ⟨b, off, rfl, hlt, hc⟩ := h3 hL
  exact ⟨b, off, rfl, Nat.lt_of_lt_of_le hlt ht.size, fun i x hx j u hu => (World.cell?_of_block (w := w) (ht.block b hlt (hF _ rfl))).trans (hc i x hx j u hu)⟩
theorem slr_len {w : World} {c n cap : Nat} {A : Option Addr} {L : List (List Value)} (h : SlR w c (.slice A n cap) L) : n = L.length := by
  obtain ⟨_, _, hv, _⟩ := h
  simp only [Value.slice.injEq] at hv
  exact hv.2.1
theorem slr_none {w : World} {c n cap : Nat} {L : List (List Value)} (h : SlR w c (.slice none n cap) L) : L = [] := by
  obtain ⟨A, cap', hv, _, _, h3⟩ := h
  simp only [Value.slice.injEq] at hv
  obtain ⟨rfl, _, rfl⟩ := hv
  rcases L with _ | ⟨y, t⟩
  · rfl
  · obtain ⟨b, off, hA, _⟩ := h3 (by simp)
    cases hA
/-- A whole struct is loaded behind a guard. -/
theorem wpList_load_guarded {P : Program} {ops : Array Oper} {rest : List Oper} {op : Oper} {a : Act} {w : World} {Q : Exit → Act → World → Prop} (hw : Region.wanted op (yielded ops a.tmps) = true) (ty : TypeId) (x : Operand) (ho : op.op = .load ty x)
    (b o : Nat) (hx : a.eval x = .pointer (some ⟨b, o, none⟩)) (cs : List Value) (d : TypeDesc) (hc : w.rangeAt b o cs)
    (hu : P.underlying ty = some d) (hd : d.isRow = true) (hi : (P.info? ty).map (·.size) = some cs.length)
    (h : wpList P ops Q rest (a.put op.dst (.agg cs.toArray)) w) : wpList P ops Q (op :: rest) a w :=
  wpList_step fun K hK => by
    rw [if_pos hw]
    exact wp_load_mid ty x ho b o hx cs d hc hu hd hi (hK _ _ h)
theorem Held.turn {w w' : World} {g : Nat} {F : Nat → Prop} {cs : List Value} (h : Held w g cs) (ht : Turn F w w') (hF : ¬ F g) : Held w' g cs := by
  have hl := h.lt
  obtain ⟨t, h0⟩ := h
  exact ⟨t, by rw [ht.block g hl hF]; exact h0⟩
end Go.Proofs.YtfbhdkkmcfnghaaGreatDoor
