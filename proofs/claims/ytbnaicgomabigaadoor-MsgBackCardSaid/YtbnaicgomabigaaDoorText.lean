/- '[]byte(s)', 'append(b, t...)', 'string(b)': bytes in a block that the call made, whatever marks stand behind its cells. No condition. -/
import Derived.Test.YtbnaicgomabigaaDoorKit
import Derived.Lib.AppendStr
import Derived.Lib.ConvBytes
import Derived.Deep.MidRow
namespace Go.Proofs.YtbnaicgomabigaaDoor
open Go.RowKit
set_option linter.unusedVariables false

/-- A slice value holds a list of bytes in a block of the call's own; all its room is there. -/
def FRow (w : World) (B : Nat) (v : Value) (l : List UInt8) : Prop :=
  ∃ g cap, v = .slice (some ⟨g, 0, none⟩) l.length cap ∧ B ≤ g ∧ g < w.heap.size ∧ l.length ≤ cap ∧ cap ≤ maxLen ∧
    (∀ j (hj : j < l.length), w.cell? ⟨g, j, none⟩ = some (.int .u8 (l[j].toNat : Int))) ∧ w.there g 0 cap

theorem FRow.keep {w w' : World} {B : Nat} {v : Value} {l : List UInt8} (h : FRow w B v l) (hb : Below w.heap.size w w') : FRow w' B v l := by
  obtain ⟨g, cap, hv, h1, h2, h3, h4, h5, h6⟩ := h
  refine ⟨g, cap, hv, h1, Nat.lt_of_lt_of_le h2 hb.size, h3, h4, fun j hj => (hb.cell (p := ⟨g, j, none⟩) h2).trans (h5 j hj), fun j hj => ?_⟩
  have e := hb.block g h2
  obtain ⟨a, b⟩ := h6 j hj
  constructor
  · rw [World.cell?_of_block (a := ⟨g, 0 + j, none⟩) e]; exact a
  · rw [World.frozen?_of_block (a := ⟨g, 0 + j, none⟩) e]; exact b
theorem FRow.form {w : World} {B : Nat} {v : Value} {l : List UInt8} (h : FRow w B v l) : ∃ g cap, v = .slice (some ⟨g, 0, none⟩) l.length cap := let ⟨g, cap, h, _⟩ := h; ⟨g, cap, h⟩

theorem below_setCells {B : Nat} {w : World} {b : Nat} (hb : B ≤ b) : ∀ (vs : List Value) (o : Nat) (w' : World), Below B w w' → Below B w (w'.setCells b o vs)
  | [], _, _, h => h
  | v :: vs, o, w', h => below_setCells hb vs (o + 1) _ (h.setCell (p := ⟨b, o, none⟩) hb v)

theorem size_setCells (b : Nat) : ∀ (vs : List Value) (o : Nat) (w : World), (w.setCells b o vs).heap.size = w.heap.size
  | [], _, _ => rfl
  | v :: vs, o, w => by
    show ((w.setCell ⟨b, o, none⟩ v).setCells b (o + 1) vs).heap.size = _
    rw [size_setCells b vs (o + 1) _]
    simp [World.setCell]

theorem strCells_get (s : List UInt8) (j : Nat) (hj : j < s.length) : (Lib.strCells (bs s))[j]? = some (.int .u8 (s[j].toNat : Int)) := by
  unfold Lib.strCells
  simp [hj]

/-- '[]byte(s)'. -/
theorem wpList_bytes_frow {P : Program} {ops : Array Oper} {rest : List Oper} {o : Oper} {a : Act} {Q : Exit → Act → World → Prop} (w : World) (B : Nat)
    (hgd : o.guard = none) (s : Operand) (src dst e : TypeId) (ho : o.op = Op.convert src dst s) (l : List UInt8) (hs : P.underlying src = some .string) (hd : P.underlying dst = some (.slice e)) (he : P.underlying e = some (.int .u8))
    (hv : a.eval s = .string (bs l)) (hl : l.length ≤ 140737488355328) (hB : B ≤ w.heap.size)
    (h : ∀ v' w', FRow w' B v' l → Below B w w' → wpList P ops Q rest (a.put o.dst v') w') : wpList P ops Q (o :: rest) a w := by
  refine wpList_plain hgd fun K hK' => ?_
  unfold Oper.wp
  simp only [execOp, ho, hv]
  rw [Sem.run_bind, Lib.run_convert_string_bytes w src dst e (bs l) hs hd he]
  have hge := grownCap_ge w (bs l).size 0 e
  have hcm : grownCap w (bs l).size 0 e ≤ maxLen := grownCap_le_maxLen w (bs l).size 0 e (by rw [bs_size]; unfold maxLen; omega)
  rw [bs_size] at hge
  have hcs : (Lib.bytesCells w e (bs l)).size = grownCap w (bs l).size 0 e := by
    unfold Lib.bytesCells
    rw [Array.size_append, Array.size_map, Array.size_replicate, show (bs l).data.size = l.length from rfl, show (bs l).size = l.length from rfl]
    rw [show (bs l).size = l.length from rfl] at *
    omega
  refine hK' _ _ (h _ _ ⟨w.heap.size, _, rfl, hB, by rw [Lib.bytesWorld_size]; omega, hge, hcm, fun j hj => ?_, fun j hj => ?_⟩ ⟨rfl, rfl, rfl, ?_, fun k hk => Lib.bytesWorld_at_old w e (bs l) k (Nat.lt_of_lt_of_le hk hB)⟩)
  · rw [Lib.bytesWorld_cell w e (bs l) j hj]
    simp [hj]
  · have hn := Lib.bytesWorld_at_new w e (bs l)
    rw [Nat.zero_add]
    constructor
    · rw [show (Lib.bytesWorld w e (bs l)).cell? ⟨w.heap.size, j, none⟩ = (Lib.bytesCells w e (bs l))[j]? by simp [World.cell?, hn], Array.getElem?_eq_getElem (by omega)]
      rfl
    · simp [World.frozen?, hn]
      omega
  · rw [Lib.bytesWorld_size]; omega

/-- 'append(b, s...)'. -/
theorem run_append_frow {P : Program} (w : World) (B : Nat) (t u ty e : TypeId) (i : TypeInfo) (ht : P.underlying t = some (.slice e)) (hu : P.underlying u = some .string) (hi : P.info? e = some i) (hz : i.zero = some (.int .u8 0))
    (hsize : i.size = 1) (hby : i.bytes = 1) (v : Value) (l : List UInt8) (hrow : FRow w B v l) (s : List UInt8) (hbytes : l.length + s.length ≤ 140737488355328) (hB : B ≤ w.heap.size) :
    ∃ v' w', (Builtin.append_ #[t, u] ty #[v, .string (bs s)]).run P w = .ok v' w' ∧ FRow w' B v' (l ++ s) ∧ Below B w w' := by
  obtain ⟨g, cap, rfl, h1, h2, h3, h4, h5, h6⟩ := hrow
  by_cases hroom : l.length + s.length ≤ cap
  · have hf := Lib.run_firstCells_string (P := P) w 1 (bs s)
    rw [bs_size] at hf
    have hst := run_storeCells_cells (P := P) g l.length (Lib.strCells (bs s)) 0 w (fun j hj => by
      have := (h6 (l.length + 0 + j) (by rw [Lib.strCells_length, bs_size] at hj; omega)).1
      simpa using this) (fun j hj => by
      have := (h6 (l.length + 0 + j) (by rw [Lib.strCells_length, bs_size] at hj; omega)).2
      simpa using this) (Lib.strCells_oneCell (bs s))
    simp only [Nat.add_zero] at hst
    refine ⟨.slice (some ⟨g, 0, none⟩) (l.length + s.length) cap, w.setCells g l.length (Lib.strCells (bs s)), ?_, ⟨g, cap, by rw [List.length_append], h1, by rw [size_setCells]; exact h2, by rw [List.length_append]; exact hroom, h4, fun j hj => ?_, World.there_setCells h6 _ _ _⟩, below_setCells h1 _ _ _ (Below.refl _ _)⟩
    · simp [Builtin.append_, run_underlying ht, run_underlying hu, sizeOf, typeInfo, hi, hsize, Builtin.lenOf, hroom, hf, Addr.add_lit, hst]
    · rcases Nat.lt_or_ge j l.length with hj1 | hj1
      · rw [World.cell?_setCells_out _ _ _ _ _ (fun _ _ => .inl hj1), h5 j hj1]
        simp [List.getElem_append_left hj1]
      · have hj2 : j - l.length < s.length := by rw [List.length_append] at hj; omega
        have := World.cell?_setCells_in g (Lib.strCells (bs s)) l.length w (fun k hk => by
          have := (h6 (l.length + k) (by rw [Lib.strCells_length, bs_size] at hk; omega)).1
          simpa using this) (j - l.length) (by rw [Lib.strCells_length, bs_size]; exact hj2)
        rw [show l.length + (j - l.length) = j by omega] at this
        rw [this]
        have hg := strCells_get s (j - l.length) hj2
        rw [List.getElem?_eq_getElem (by rw [Lib.strCells_length, bs_size]; exact hj2)] at hg
        rw [hg]
        simp [List.getElem_append_right hj1]
  · have hol : ∀ j u, (l.map fun b : UInt8 => Value.int .u8 (b.toNat : Int))[j]? = some u → w.cell? ((⟨g, 0, none⟩ : Addr).add j) = some u := by
      intro j u hj
      rw [List.getElem?_map] at hj
      obtain ⟨b, hb, rfl⟩ := Option.map_eq_some_iff.1 hj
      obtain ⟨hjl, rfl⟩ := List.getElem?_eq_some_iff.1 hb
      rw [Addr.add_lit, Nat.zero_add]
      exact h5 j hjl
    have hr := Lib.run_append_grow_string (P := P) w t u ty e i (.int .u8 0) ht hu hi hz ⟨g, 0, none⟩ l.length cap (l.map fun b : UInt8 => Value.int .u8 (b.toNat : Int)) (by rw [hsize]; simp) hol (bs s) (by rw [bs_size]; omega) (by rw [bs_size]; omega) (by rw [hby, bs_size]; exact growslice_fits (by omega) (by omega))
    rw [bs_size] at hr
    have hge := grownCap_ge w (l.length + s.length) cap e
    have hcm : grownCap w (l.length + s.length) cap e ≤ maxLen := grownCap_le_maxLen w (l.length + s.length) cap e (by unfold maxLen; omega)
    generalize grownCap w (l.length + s.length) cap e = G at hr hge hcm
    refine ⟨_, _, hr, ⟨w.heap.size, G, by rw [List.length_append], hB, by simp, by rw [List.length_append]; exact hge, hcm, fun j hj => ?_, fun j hj => ?_⟩, (Below.drew (Below.refl B w)).alloc hB _⟩
    · have hc := World.cell?_alloc_at (w := w.drew) ((l.map fun b : UInt8 => Value.int .u8 (b.toNat : Int)).toArray ++ (Lib.strCells (bs s)).toArray ++ Builtin.zeroCells (Value.int .u8 0).cells (G - (l.length + s.length))) e w.heap.size j rfl
      rw [hc]
      rw [List.length_append] at hj
      rw [Array.getElem?_append_left (by simp [Lib.strCells_length]; omega)]
      rcases Nat.lt_or_ge j l.length with hj1 | hj1
      · rw [Array.getElem?_append_left (by simpa using hj1)]
        simp [hj1, List.getElem_append_left hj1]
      · rw [Array.getElem?_append_right (by simpa using hj1)]
        have hg := strCells_get s (j - l.length) (by omega)
        simp only [List.size_toArray, List.length_map, List.getElem?_toArray]
        rw [hg]
        simp [List.getElem_append_right hj1]
    · rw [Nat.zero_add]
      have hc := World.cell?_alloc_at (w := w.drew) ((l.map fun b : UInt8 => Value.int .u8 (b.toNat : Int)).toArray ++ (Lib.strCells (bs s)).toArray ++ Builtin.zeroCells (Value.int .u8 0).cells (G - (l.length + s.length))) e w.heap.size j rfl
      constructor
      · rw [hc, Array.getElem?_eq_getElem (by simp [Lib.strCells_length, size_zeroCells, Value.cells]; omega)]
        rfl
      · have hn : (w.drew.alloc (.cells ((l.map fun b : UInt8 => Value.int .u8 (b.toNat : Int)).toArray ++ (Lib.strCells (bs s)).toArray ++ Builtin.zeroCells (Value.int .u8 0).cells (G - (l.length + s.length))) e)).heap[w.heap.size]? = _ := heap_alloc_new w.drew _
        simp only [World.frozen?]
        rw [hn]
        simp

theorem wpList_append_frow {P : Program} {ops : Array Oper} {rest : List Oper} {o : Oper} {a : Act} {Q : Exit → Act → World → Prop} {w : World} {B : Nat} {v : Value} {l : List UInt8} (hrow : FRow w B v l) (s : List UInt8)
    (hgd : o.guard = none) (sl x : Operand) (t u e : TypeId)
    (ho : o.op = Op.call { callee := Callee.builtin Builtin.append, args := #[sl, x], argTypes := #[t, u] })
    (ht : P.underlying t = some (.slice e)) (hu : P.underlying u = some .string)
    (hinfo : (P.info? e).map (fun i => (i.zero, i.size, i.bytes)) = some (some (.int .u8 0), 1, 1))
    (hs : a.eval sl = v) (hx : a.eval x = .string (bs s)) (hbytes : l.length + s.length ≤ 140737488355328) (hB : B ≤ w.heap.size)
    (h : ∀ v' w', FRow w' B v' (l ++ s) → Below B w w' → wpList P ops Q rest (a.put o.dst v') w') :
    wpList P ops Q (o :: rest) a w := by
  obtain ⟨i, hi, hz, hsz, hby⟩ := info_parts hinfo
  obtain ⟨v', w', hr, h1, h2⟩ := run_append_frow w B t u o.type e i ht hu hi hz hsz hby v l hrow s hbytes hB
  refine wpList_plain hgd fun K hK' => ?_
  unfold Oper.wp execOp
  simp only [ho, resolve, invoke, builtin, Sem.run_bind, Sem.run_pure, Result.andThen_ok, List.map_toArray, List.map_cons, List.map_nil, hs, hx, hr]
  exact hK' _ _ (h v' w' h1 h2)

/-- 'string(b)'. -/
theorem wpList_string_frow {P : Program} {ops : Array Oper} {rest : List Oper} {o : Oper} {a : Act} {Q : Exit → Act → World → Prop} {w : World} {B : Nat} {v : Value} {l : List UInt8} (hrow : FRow w B v l)
    (hgd : o.guard = none) (s : Operand) (src dst e : TypeId) (ho : o.op = Op.convert src dst s)
    (hs : P.underlying src = some (.slice e)) (he : P.underlying e = some (.int .u8)) (hd : P.underlying dst = some .string)
    (hv : a.eval s = v) (h : wpList P ops Q rest (a.put o.dst (.string (bs l))) w) : wpList P ops Q (o :: rest) a w := by
  obtain ⟨g, cap, rfl, _, _, _, _, h5, _⟩ := hrow
  have hrun : (convert src dst (.slice (some ⟨g, 0, none⟩) l.length cap)).run P w = .ok (.string (bs l)) w :=
    run_convert_bytes_back w src dst e ⟨g, 0, none⟩ cap l hs he hd fun j hj => by rw [Addr.add_lit, Nat.zero_add]; exact h5 j hj
  refine wpList_plain hgd fun K hK' => ?_
  unfold Oper.wp
  simp [execOp, ho, hv, hrun, Result.andThen]
  exact hK' _ _ h
end Go.Proofs.YtbnaicgomabigaaDoor
