/- Small laws that all the walks of this seat use: appending to a slice that the call owns, bytes as a list, texts. No condition. -/
import Derived.WalkKit
import Derived.WalkSpells
import Derived.WalkLawsBesides
import Derived.Lib.Hide
import Derived.Deep.DeepCutAuto
import Derived.Deep.QuietTactic
import Derived.BigQuiet
namespace Go.Proofs.YtfbhdkkmcfnghaaGreatDoor
open Go.RowKit

/-- A text of bytes. -/
def bs (l : List UInt8) : ByteArray := ⟨l.toArray⟩
theorem bs_of (s : ByteArray) : ∃ l, s = bs l := ⟨s.data.toList, rfl⟩
@[simp, go_sem] theorem bs_size (l : List UInt8) : (bs l).size = l.length := rfl
@[simp, go_sem] theorem bs_toList (l : List UInt8) : (bs l).toList = l := ByteArray.toList_mk l
@[simp] theorem bs_data (l : List UInt8) : (bs l).data.toList = l := rfl
@[simp, go_sem] theorem bs_append (a b : List UInt8) : bs a ++ bs b = bs (a ++ b) := ByteArray.mk_append_mk a b
@[simp, go_sem] theorem bs_extract (l : List UInt8) (a b : Nat) : (bs l).extract a b = bs ((l.drop a).take (b - a)) := ByteArray.extract_mk l a b
@[simp, go_sem] theorem bs_get (l : List UInt8) (i : Nat) (h : i < (bs l).size) : (bs l)[i] = l[i]'h := rfl
@[simp, go_sem] theorem take_rest (l : List UInt8) (k : Nat) : List.take (l.length - k) (l.drop k) = l.drop k := List.take_of_length_le (by simp)
theorem bs_inj {a b : List UInt8} (h : bs a = bs b) : a = b := by simpa using congrArg ByteArray.toList h
theorem bs_lit (a : Array UInt8) : (⟨a⟩ : ByteArray) = bs a.toList := rfl

/-- A slice value owns a list of bytes in the call's own memory. -/
def BRow (w : World) (B : Nat) (e : TypeId) (v : Value) (l : List UInt8) : Prop :=
  w.ownsRow B e 1 v l.length (l.map fun b => Value.int .u8 (b.toNat : Int))

theorem BRow.nil (w : World) (B : Nat) (e : TypeId) : BRow w B e (.slice none 0 0) [] := World.ownsRow_nil _ _ _ _

/-! Bits of bytes, in numbers. -/
theorem bits_or_u8 (a b : Nat) (ha : a < 256) (hb : b < 256) : bits .or .u8 (a : Int) (b : Int) = ((a ||| b : Nat) : Int) := by
  have h : a ||| b < 2 ^ 8 := Nat.or_lt_two_pow (by omega) (by omega)
  have h1 : (BitVec.ofInt 8 (a : Int)).toNat = a := by rw [BitVec.ofInt_natCast, BitVec.toNat_ofNat]; exact Nat.mod_eq_of_lt (by omega)
  have h2 : (BitVec.ofInt 8 (b : Int)).toNat = b := by rw [BitVec.ofInt_natCast, BitVec.toNat_ofNat]; exact Nat.mod_eq_of_lt (by omega)
  show IntKind.u8.wrap ((BitVec.ofInt 8 (a : Int) ||| BitVec.ofInt 8 (b : Int)).toNat : Int) = _
  rw [BitVec.toNat_or, h1, h2]
  simp [IntKind.wrap, IntKind.bits, IntKind.signed]
  omega
theorem bits_and_u8 (a b : Nat) (ha : a < 256) (hb : b < 256) : bits .and .u8 (a : Int) (b : Int) = ((a &&& b : Nat) : Int) := by
  have h : a &&& b < 2 ^ 8 := Nat.and_lt_two_pow _ (by omega)
  have h1 : (BitVec.ofInt 8 (a : Int)).toNat = a := by rw [BitVec.ofInt_natCast, BitVec.toNat_ofNat]; exact Nat.mod_eq_of_lt (by omega)
  have h2 : (BitVec.ofInt 8 (b : Int)).toNat = b := by rw [BitVec.ofInt_natCast, BitVec.toNat_ofNat]; exact Nat.mod_eq_of_lt (by omega)
  show IntKind.u8.wrap ((BitVec.ofInt 8 (a : Int) &&& BitVec.ofInt 8 (b : Int)).toNat : Int) = _
  rw [BitVec.toNat_and, h1, h2]
  simp [IntKind.wrap, IntKind.bits, IntKind.signed]
  omega
theorem bits_and_255 (q : Nat) : bits .and .u8 ((q : Int) % 256) 255 = ((UInt8.ofNat (q % 256)).toNat : Int) := by
  have h := bits_and_u8 (q % 256) 255 (by omega) (by omega)
  rw [show (((q % 256 : Nat) : Int)) = (q : Int) % 256 by omega, show ((255 : Nat) : Int) = 255 from rfl] at h
  rw [h, show (q % 256) &&& 255 = q % 256 % 2 ^ 8 from Nat.and_two_pow_sub_one_eq_mod _ 8]
  simp
theorem bits_and_15 (q : Nat) : bits .and .u8 ((q : Int) % 256) 15 = ((UInt8.ofNat (q % 16)).toNat : Int) := by
  have h := bits_and_u8 (q % 256) 15 (by omega) (by omega)
  rw [show (((q % 256 : Nat) : Int)) = (q : Int) % 256 by omega, show ((15 : Nat) : Int) = 15 from rfl] at h
  rw [h, show (q % 256) &&& 15 = q % 256 % 2 ^ 4 from Nat.and_two_pow_sub_one_eq_mod _ 4]
  simp
  omega
theorem or_128 : ∀ x, x < 256 → x ||| 128 = 128 + x % 128 := by decide +kernel
theorem and_127 (x : Nat) : x &&& 127 = x % 128 := Nat.and_two_pow_sub_one_eq_mod x 7
theorem bits_or_128 (a : Nat) : bits .or .u8 ((a : Int) % 256) 128 = ((UInt8.ofNat (128 + a % 128)).toNat : Int) := by
  have h := bits_or_u8 (a % 256) 128 (by omega) (by omega)
  have e := or_128 (a % 256) (by omega)
  rw [show (((a % 256 : Nat) : Int)) = (a : Int) % 256 by omega] at h
  rw [show ((128 : Nat) : Int) = 128 from rfl] at h
  rw [h, e]
  simp
  omega

theorem wrap_u64_nat (a : Nat) (h : a < 18446744073709551616) : IntKind.u64.wrap (a : Int) = a := by
  simp [IntKind.wrap, IntKind.bits, IntKind.signed]; omega
@[simp, go_sem] theorem wrap_u64_byte (b : UInt8) : IntKind.u64.wrap (b.toNat : Int) = b.toNat := wrap_u64_nat _ (by have := UInt8.toNat_lt b; omega)
@[simp, go_sem] theorem wrap_i64_byte (b : UInt8) : IntKind.i64.wrap (b.toNat : Int) = b.toNat := by
  have := UInt8.toNat_lt b
  simp [IntKind.wrap, IntKind.bits, IntKind.signed]; omega
@[simp, go_sem] theorem wrap_u8_byte (b : UInt8) : IntKind.u8.wrap (b.toNat : Int) = b.toNat := by
  have := UInt8.toNat_lt b
  simp [IntKind.wrap, IntKind.bits, IntKind.signed]; omega
theorem wrap_mul_add (v q b : Nat) (h : v + q * b < 18446744073709551616) : IntKind.u64.wrap ((v : Int) + IntKind.u64.wrap ((q : Int) * (b : Int))) = ((v + q * b : Nat) : Int) := by
  rw [show ((q : Int) * (b : Int)) = ((q * b : Nat) : Int) by simp, wrap_u64_nat _ (by omega), show ((v : Int) + ((q * b : Nat) : Int)) = ((v + q * b : Nat) : Int) by simp, wrap_u64_nat _ h]
theorem wrap_mul_add_less (v q b : Nat) (hb : 128 ≤ b) (h : v + q * (b - 128) < 18446744073709551616) :
    IntKind.u64.wrap ((v : Int) + IntKind.u64.wrap ((q : Int) * ((b : Int) - 128))) = ((v + q * (b - 128) : Nat) : Int) := by
  rw [show ((b : Int) - 128) = ((b - 128 : Nat) : Int) by omega, wrap_mul_add _ _ _ h]

/-- 'v<<7 | uint64(b&127)'. -/
theorem or_shift7 (v b : Nat) (hv : v * 128 < 18446744073709551616) (hb : b < 256) :
    bits .or .u64 (IntKind.u64.wrap ((v : Int) * 128)) (IntKind.u64.wrap (bits .and .u8 (b : Int) 127)) = ((b % 128 + 128 * v : Nat) : Int) := by
  have h1 := bits_and_u8 b 127 hb (by omega)
  rw [show ((127 : Nat) : Int) = 127 from rfl] at h1
  rw [h1, and_127, wrap_u64_nat _ (by omega), show ((v : Int) * 128) = ((v * 128 : Nat) : Int) by omega, wrap_u64_nat _ hv, bits_or_u64_nat _ _ hv (by omega)]
  have := Nat.two_pow_add_eq_or_of_lt (i := 7) (b := b % 128) (by omega) v
  rw [show v * 128 = 2 ^ 7 * v by omega, ← this]
  omega

/-- 'v<<8 | uint64(b)'. -/
theorem or_shift8 (v b : Nat) (hv : v * 256 < 18446744073709551616) (hb : b < 256) :
    bits .or .u64 (IntKind.u64.wrap ((v : Int) * 256)) (b : Int) = ((256 * v + b : Nat) : Int) := by
  rw [show ((v : Int) * 256) = ((v * 256 : Nat) : Int) by omega, wrap_u64_nat _ hv, bits_or_u64_nat _ _ hv (by omega)]
  have := Nat.two_pow_add_eq_or_of_lt (i := 8) (b := b) (by omega) v
  rw [show v * 256 = 2 ^ 8 * v by omega, ← this]
theorem wrap_times256 (v b : Nat) (h : 256 * v + b < 18446744073709551616) : IntKind.u64.wrap (IntKind.u64.wrap (256 * (v : Int)) + (b : Int)) = ((256 * v + b : Nat) : Int) := by
  rw [show (256 * (v : Int)) = ((256 * v : Nat) : Int) by omega, wrap_u64_nat _ (by omega), show (((256 * v : Nat) : Int) + (b : Int)) = ((256 * v + b : Nat) : Int) by omega, wrap_u64_nat _ h]

/-- 'append(out, x)', one element of one cell: the new element lies in the block that was just laid. -/
theorem wpList_append1 {P : Program} {ops : Array Oper} {rest : List Oper} {o : Oper} {a : Act} {Q : Exit → Act → World → Prop}
    (wr : World) (x : Value) (eo : TypeId) (hgd : o.guard = none) (s y : Operand) (t : TypeId)
    (ho : o.op = Op.call { callee := Callee.builtin Builtin.append, args := #[s, y], argTypes := #[t, t] })
    (B : Nat) (e : TypeId) (z : Value) (bytes : Nat) (ht : P.underlying t = some (.slice e))
    (hinfo : (P.info? e).map (fun i => (i.zero, i.size, i.bytes)) = some (some z, 1, bytes))
    (v : Value) (n : Nat) (xs : List Value) (hown : wr.ownsRow B e 1 v n xs)
    (hs : a.eval s = v) (hx : a.eval y = .slice (some ⟨wr.heap.size, 0, none⟩) 1 1)
    (hzc : z.cells.size = 1) (h1 : x.oneCell' = true) (hbytes : (n + 1) * bytes ≤ 140737488355328) (hb0 : 0 < bytes) (hB : B ≤ wr.heap.size)
    (h : ∀ v' w', w'.ownsRow B e 1 v' (n + 1) (xs ++ [x]) → (wr.alloc (.cells #[x] eo)).grownBy w' v.ownBlock → Below B wr w' → wr.heap.size < w'.heap.size →
      wpList P ops Q rest (a.put o.dst v') w') :
    wpList P ops Q (o :: rest) a (wr.alloc (.cells #[x] eo)) := by
  obtain ⟨i, hi, hz, hsz, hby⟩ := info_parts hinfo
  refine wpList_append_own _ hgd s y t ho B e i z 1 bytes ht hi hz hsz hby hzc (by decide) v n xs hs (hown.alloc _) ⟨wr.heap.size, 0, none⟩ 1 1 [x] hx rfl ?_ ?_ ?_ hbytes ?_ ?_
  · intro j u hj
    match j, hj with
    | 0, hj => simp at hj; subst hj; simp [Addr.add]
  · intro u hu; simp at hu; subst hu; exact h1
  · have : (n + 1) ≤ (n + 1) * bytes := Nat.le_mul_of_pos_right _ hb0
    unfold maxLen; omega
  · simp; omega
  · intro v' w' ho' hg _
    have hb : Below B wr (wr.alloc (.cells #[x] eo)) := (Below.refl _ _).alloc hB _
    refine h v' w' ho' hg (hb.grown hg (by simp; omega) fun k hk => (hown.lt k hk).1) ?_
    have := hg.size
    simp at this; omega

/-- 'append(out, b)', bytes. -/
theorem wpList_append_byte {P : Program} {ops : Array Oper} {rest : List Oper} {o : Oper} {a : Act} {Q : Exit → Act → World → Prop}
    {wr : World} {x : Value} {eo : TypeId} {B : Nat} {e : TypeId} {v : Value} {l : List UInt8} (hown : BRow wr B e v l) (b : UInt8) (hxb : x = .int .u8 (b.toNat : Int))
    (hgd : o.guard = none) (s y : Operand) (t : TypeId)
    (ho : o.op = Op.call { callee := Callee.builtin Builtin.append, args := #[s, y], argTypes := #[t, t] })
    (ht : P.underlying t = some (.slice e))
    (hinfo : (P.info? e).map (fun i => (i.zero, i.size, i.bytes)) = some (some (.int .u8 0), 1, 1))
    (hs : a.eval s = v) (hx : a.eval y = .slice (some ⟨wr.heap.size, 0, none⟩) 1 1)
    (hbytes : l.length + 1 ≤ 140737488355328) (hB : B ≤ wr.heap.size)
    (h : ∀ v' w', BRow w' B e v' (l ++ [b]) → (wr.alloc (.cells #[x] eo)).grownBy w' v.ownBlock → Below B wr w' → wr.heap.size < w'.heap.size →
      wpList P ops Q rest (a.put o.dst v') w') :
    wpList P ops Q (o :: rest) a (wr.alloc (.cells #[x] eo)) := by
  subst hxb
  refine wpList_append1 wr _ eo hgd s y t ho B e _ 1 ht hinfo v _ _ hown hs hx rfl rfl (by omega) (by decide) hB ?_
  intro v' w' h1 h2 h3 h4
  exact h v' w' (by unfold BRow; simpa using h1) h2 h3 h4

/-! A row of bytes that the call owns: a cell of it, and a store into it. -/
theorem BRow.cell {w : World} {B : Nat} {e : TypeId} {g n cap : Nat} {l : List UInt8} (h : BRow w B e (.slice (some ⟨g, 0, none⟩) n cap) l) (j : Nat) (hj : j < l.length) :
    w.cell? ⟨g, j, none⟩ = some (.int .u8 (l[j].toNat : Int)) := by
  have := World.ownsRow.cells h rfl j (.int .u8 (l[j].toNat : Int)) (by simp [hj])
  rwa [Addr.add_lit, Nat.zero_add] at this
theorem BRow.frozen {w : World} {B : Nat} {e : TypeId} {g n cap : Nat} {l : List UInt8} (h : BRow w B e (.slice (some ⟨g, 0, none⟩) n cap) l) (hn : n = l.length) (j : Nat) :
    w.frozen? ⟨g, j, none⟩ = false := by
  subst hn; exact World.ownsRow.frozenAt h j
theorem BRow.store {w : World} {B : Nat} {e : TypeId} {g n cap : Nat} {l : List UInt8} (h : BRow w B e (.slice (some ⟨g, 0, none⟩) n cap) l) (hn : n = l.length) (j : Nat) (b : UInt8) :
    BRow (w.setCell ⟨g, j, none⟩ (.int .u8 (b.toNat : Int))) B e (.slice (some ⟨g, 0, none⟩) n cap) (l.set j b) := by
  subst hn
  have := (World.ownsRow.stored h j (.int .u8 (b.toNat : Int))).1
  unfold BRow
  rw [List.length_set, List.map_set]
  exact this
/-- 'make([]byte, n)'. -/
theorem wpList_make_bytes {P : Program} (w : World) {ops : Array Oper} {rest : List Oper} {o : Oper} {a : Act} {Q : Exit → Act → World → Prop}
    (hg : o.guard = none) (l c : Operand) (t : TypeId) (hop : o.op = Op.makeSlice t l c) (B : Nat) (e : TypeId) (h1 : P.underlying t = some (.slice e))
    (hinfo : (P.info? e).map (fun i => (i.zero, i.size, i.bytes)) = some (some (.int .u8 0), 1, 1))
    (n : Nat) (hl : a.eval l = .int .i64 (n : Int)) (hc : a.eval c = .int .i64 (n : Int)) (b2 : n ≤ 281474976710656) (b4 : B ≤ w.heap.size)
    (hK : ∀ w', BRow w' B e (.slice (some ⟨w.heap.size, 0, none⟩) n n) (List.replicate n 0) → Below B w w' → wpList P ops Q rest (a.put o.dst (.slice (some ⟨w.heap.size, 0, none⟩) n n)) w') :
    wpList P ops Q (o :: rest) a w := by
  obtain ⟨i, hi, hz, hsz, hby⟩ := info_parts hinfo
  refine wpList_make_full w hg l c t hop B e i (.int .u8 0) 1 h1 hi hz hsz .i64 .i64 _ _ n hl hc rfl rfl (by rw [hby]; omega) (by unfold maxLen; omega) b4 ?_
  intro w' ho hgr
  refine hK w' ?_ ((Below.refl _ _).grown hgr b4 (by intro k hk; cases hk))
  have e1 : (madeCells (Value.int .u8 0).cells (n * 1)).toList = (List.replicate n (0 : UInt8)).map fun b => Value.int .u8 (b.toNat : Int) := by
    apply List.ext_getElem
    · simp [madeCells]
    · intro j h1 h2; simp [madeCells, Value.cells, Nat.mod_one]
  unfold BRow
  rw [e1] at ho
  simpa using ho

/-- What 'string(b)' gives of bytes that the call owns. -/
theorem run_string_row {P : Program} {w : World} {B : Nat} {e : TypeId} {v : Value} {l : List UInt8} (h : BRow w B e v l) (src dst : TypeId)
    (hs : P.underlying src = some (.slice e)) (he : P.underlying e = some (.int .u8)) (hd : P.underlying dst = some .string) :
    (convert src dst v).run P w = .ok (.string (bs l)) w := by
  rcases h.2 with ⟨rfl, h0⟩ | ⟨g, cap, cur, rfl, _, _⟩
  · have : l = [] := List.eq_nil_of_length_eq_zero h0
    subst this
    exact run_convert_bytes_nil w src e hs he 0 0 dst hd
  · refine run_convert_bytes_back w src dst e _ cap l hs he hd fun j hj => ?_
    exact World.ownsRow.cells h rfl j _ (by simp [hj])

/-- The same, as a law of the walk. -/
theorem wpList_string_row {P : Program} {ops : Array Oper} {rest : List Oper} {o : Oper} {a : Act} {Q : Exit → Act → World → Prop} {w : World}
    (hgd : o.guard = none) (s : Operand) (src dst : TypeId) (ho : o.op = Op.convert src dst s) (B : Nat) (e : TypeId) (v : Value) (l : List UInt8)
    (hrow : BRow w B e v l) (hs : P.underlying src = some (.slice e)) (he : P.underlying e = some (.int .u8)) (hd : P.underlying dst = some .string)
    (hv : a.eval s = v) (h : wpList P ops Q rest (a.put o.dst (.string (bs l))) w) : wpList P ops Q (o :: rest) a w := by
  refine wpList_plain hgd fun K hK' => ?_
  unfold Oper.wp
  simp [execOp, ho, hv, run_string_row hrow src dst hs he hd, Result.andThen]
  exact hK' _ _ h

/-- 'string([]byte{x})': the byte lies in the block that was just laid. -/
theorem run_string_one {P : Program} (w : World) (x : Int) (b : UInt8) (src dst e eo : TypeId) (hx : x = (b.toNat : Int))
    (hs : P.underlying src = some (.slice e)) (he : P.underlying e = some (.int .u8)) (hd : P.underlying dst = some .string) :
    (convert src dst (.slice (some ⟨w.heap.size, 0, none⟩) 1 1)).run P (w.alloc (.cells #[.int .u8 x] eo)) = .ok (.string (bs [b])) (w.alloc (.cells #[.int .u8 x] eo)) := by
  subst hx
  refine run_convert_bytes_back (P := P) (w.alloc (.cells #[.int .u8 (b.toNat : Int)] eo)) src dst e ⟨w.heap.size, 0, none⟩ 1 [b] hs he hd fun j hj => ?_
  match j, hj with
  | 0, _ => simp [Addr.add]

/-- A function that has a body is entered: for a function value whose function is a variable. -/
theorem enters_of {P : Program} {f : FuncId} {fn : Func} {c : Code} (hf : P.funcs[f]? = some fn) (hname : (fn.name == "runtime.NumGoroutine") = false) (hb : fn.body = some c) :
    ∀ (args : Array Value) (w : World), (callFunc f args).run P w = .ok (.enter f args) w := by
  intro args w
  have h1 : fn.name ≠ "runtime.NumGoroutine" := by simpa using hname
  simp [callFunc, hf, h1, hb]

/-- Behind a call that only makes: the cells that were there read as they did (two rules that the walk uses by itself). -/
theorem bcell {W w1 : World} (hb : Below W.heap.size W w1) : (∀ b o, b < W.heap.size → w1.cell? ⟨b, o, none⟩ = W.cell? ⟨b, o, none⟩) ∧ (∀ b o, b < W.heap.size → w1.frozen? ⟨b, o, none⟩ = W.frozen? ⟨b, o, none⟩) :=
  ⟨fun b o h => hb.cell (p := ⟨b, o, none⟩) h, fun b o h => hb.frozen (p := ⟨b, o, none⟩) h⟩

/-- A row of numbers in memory. -/
def Row (k : IntKind) (w : World) (g : Nat) (L : List Nat) : Prop := ∀ j, j < L.length → w.cell? ⟨g, j, none⟩ = some (.int k ((L.getD j 0 : Nat) : Int))
theorem Row.made (k : IntKind) (w : World) (L : List Nat) (e : TypeId) : Row k (w.alloc (.cells (L.map fun n : Nat => Value.int k (n : Int)).toArray e)) w.heap.size L := by
  intro j hj
  have : (w.alloc (.cells (L.map fun n : Nat => Value.int k (n : Int)).toArray e)).cell? ⟨w.heap.size, j, none⟩ = (L.map fun n : Nat => Value.int k (n : Int))[j]? := by
    simp
  rw [this]
  simp [hj]
theorem Row.kept {k : IntKind} {w w' : World} {g : Nat} {L : List Nat} (h : Row k w g L) (hb : Below w.heap.size w w') (hg : g < w.heap.size) : Row k w' g L :=
  fun j hj => (hb.cell (p := ⟨g, j, none⟩) hg).trans (h j hj)

/-! A slice of numbers that the call owns. -/
def NRow (k : IntKind) (w : World) (B : Nat) (e : TypeId) (v : Value) (L : List Nat) : Prop := w.ownsRow B e 1 v L.length (L.map fun n : Nat => Value.int k (n : Int))
theorem NRow.nil (k : IntKind) (w : World) (B : Nat) (e : TypeId) : NRow k w B e (.slice none 0 0) [] := World.ownsRow_nil _ _ _ _
theorem wpList_append_num {P : Program} {ops : Array Oper} {rest : List Oper} {o : Oper} {a : Act} {Q : Exit → Act → World → Prop} {k : IntKind}
    {wr : World} {x : Value} {eo : TypeId} {B : Nat} {e : TypeId} {v : Value} {L : List Nat} (hown : NRow k wr B e v L) (n : Nat) (hx : x = .int k (n : Int))
    (hgd : o.guard = none) (s y : Operand) (t : TypeId)
    (ho : o.op = Op.call { callee := Callee.builtin Builtin.append, args := #[s, y], argTypes := #[t, t] })
    (ht : P.underlying t = some (.slice e)) (bytes : Nat)
    (hinfo : (P.info? e).map (fun i => (i.zero, i.size, i.bytes)) = some (some (.int k 0), 1, bytes))
    (hs : a.eval s = v) (hy : a.eval y = .slice (some ⟨wr.heap.size, 0, none⟩) 1 1)
    (hbytes : (L.length + 1) * bytes ≤ 140737488355328) (hb0 : 0 < bytes) (hB : B ≤ wr.heap.size)
    (h : ∀ v' w', NRow k w' B e v' (L ++ [n]) → (wr.alloc (.cells #[x] eo)).grownBy w' v.ownBlock → Below B wr w' → wr.heap.size < w'.heap.size →
      wpList P ops Q rest (a.put o.dst v') w') :
    wpList P ops Q (o :: rest) a (wr.alloc (.cells #[x] eo)) := by
  subst hx
  refine wpList_append1 wr _ eo hgd s y t ho B e _ bytes ht hinfo v _ _ hown hs hy rfl rfl hbytes hb0 hB ?_
  intro v' w' h1 h2 h3 h4
  exact h v' w' (by unfold NRow; simpa using h1) h2 h3 h4
/-- What such a slice is, where it holds something: its cells. -/
theorem NRow.open {k : IntKind} {w : World} {B : Nat} {e : TypeId} {v : Value} {L : List Nat} (h : NRow k w B e v L) (hL : L ≠ []) :
    ∃ g cap, v = .slice (some ⟨g, 0, none⟩) L.length cap ∧ B ≤ g ∧ g < w.heap.size ∧ Row k w g L := by
  have h0 := h
  rcases h.2 with ⟨_, h1⟩ | ⟨g, cap, cur, rfl, hb, hg, _⟩
  · exact absurd (List.eq_nil_of_length_eq_zero h1) hL
  · refine ⟨g, cap, rfl, hb, (Array.getElem?_eq_some_iff.1 hg).1, fun j hj => ?_⟩
    have := World.ownsRow.cells h0 rfl j (.int k ((L.getD j 0 : Nat) : Int)) (by simp [hj])
    rwa [Addr.add_lit, Nat.zero_add] at this

/-! A block of memory that is known whole. -/
/-- Block g holds just these cells; none is frozen. -/
def Held (w : World) (g : Nat) (cs : List Value) : Prop := ∃ t, w.heap[g]? = some (.cells cs.toArray t (0, 0))
theorem Held.lt {w : World} {g : Nat} {cs : List Value} (h : Held w g cs) : g < w.heap.size := by
  obtain ⟨t, h⟩ := h
  rcases Nat.lt_or_ge g w.heap.size with h' | h'
  · exact h'
  · simp [Array.getElem?_eq_none h'] at h
theorem Held.cell {w : World} {g : Nat} {cs : List Value} (h : Held w g cs) {i : Nat} {v : Value} (hv : cs[i]? = some v) : w.cell? ⟨g, i, none⟩ = some v := by
  obtain ⟨t, h⟩ := h
  rw [cell_of_row w g i _ t (0, 0) h]
  simpa using hv
theorem Held.free {w : World} {g : Nat} {cs : List Value} (h : Held w g cs) (i : Nat) : w.frozen? ⟨g, i, none⟩ = false := by
  obtain ⟨t, h⟩ := h
  simp [World.frozen?, h]
theorem Held.drewN {w : World} {g : Nat} {cs : List Value} (h : Held w g cs) (n : Nat) : Held (w.drewN n) g cs := h
theorem Held.drew {w : World} {g : Nat} {cs : List Value} (h : Held w g cs) : Held w.drew g cs := h
theorem Held.set {w : World} {g : Nat} {cs : List Value} (h : Held w g cs) (i : Nat) (v : Value) : Held (w.setCell ⟨g, i, none⟩ v) g (cs.set i v) := by
  have hlt := h.lt
  obtain ⟨t, h⟩ := h
  refine ⟨t, ?_⟩
  have h' : w.heap[g] = .cells cs.toArray t (0, 0) := by simpa [Array.getElem?_eq_getElem hlt] using h
  show (w.heap.modify g _)[g]? = _
  rw [Array.getElem?_eq_getElem (by simpa using hlt), Array.getElem_modify_self, h']
  simp
theorem Held.kept {w w' : World} {g : Nat} {cs : List Value} (h : Held w g cs) (hb : Below w.heap.size w w') : Held w' g cs := by
  have := h.lt
  obtain ⟨t, h⟩ := h
  exact ⟨t, (hb.block g this).trans h⟩
theorem Held.made (w : World) (cs : List Value) (t : TypeId) : Held (w.alloc (.cells cs.toArray t)) w.heap.size cs := ⟨t, heap_alloc_new w _⟩
/-- Only block g may have turned. -/
def Only (g : Nat) (w w' : World) : Prop := w.grownBy w' (some g)
theorem Only.refl (g : Nat) (w : World) : Only g w w := ⟨rfl, rfl, rfl, Nat.le_refl _, fun _ _ _ => rfl⟩
theorem Only.trans {g : Nat} {a b c : World} (h : Only g a b) (k : Only g b c) : Only g a c :=
  ⟨k.os.trans h.os, k.tape.trans h.tape, k.output.trans h.output, Nat.le_trans h.size k.size, fun i hi hne => (k.block i (Nat.lt_of_lt_of_le hi h.size) hne).trans (h.block i hi hne)⟩
theorem Only.drewN (g : Nat) (w : World) (n : Nat) : Only g w (w.drewN n) := ⟨rfl, rfl, rfl, Nat.le_refl _, fun _ _ _ => rfl⟩
theorem Only.set (g : Nat) (w : World) (i : Nat) (v : Value) : Only g w (w.setCell ⟨g, i, none⟩ v) :=
  ⟨rfl, rfl, rfl, by simp [World.setCell], fun k _ hne => Below.heap_setCell _ _ _ _ (fun e => hne (by simp [e]))⟩
theorem Only.of_below {g : Nat} {w w' : World} (h : Below w.heap.size w w') : Only g w w' := ⟨h.os, h.tape, h.output, h.size, fun k hk _ => h.block k hk⟩
theorem Only.below {g B : Nat} {w w' : World} (h : Only g w w') (hg : B ≤ g) (hB : B ≤ w.heap.size) : Below B w w' :=
  ⟨h.os, h.tape, h.output, h.size, fun k hk => h.block k (by omega) (by simp; omega)⟩

/-! A region that draws its order, whose operations and calls give one value in whatever world that keeps what was there. -/
/-- A world in which all that was there below B is as it was. -/
def Later (B : Nat) (w : World) : Type := { w' : World // Below B w w' }
instance (B : Nat) (w : World) : Nonempty (Later B w) := ⟨⟨w, Below.refl B w⟩⟩
theorem Later.cell {B : Nat} {w : World} (x : Later B w) {p : Addr} {v : Value} (h : w.cell? p = some v) (hp : p.block < B) : x.1.cell? p = some v := (x.2.cell hp).trans h
theorem Calls.later {P : Program} {f : FuncId} {args : Array Value} {B : Nat} {w : World} {x : Later B w} {v : Value} (hB : B ≤ w.heap.size)
    (h : Calls P f args x.1 fun e w' => e = .returned v ∧ Below x.1.heap.size x.1 w') : Calls P f args x.1 fun e w'' => e = .returned v ∧ ∃ y : Later B w, w'' = y.1 :=
  h.mono fun _ w'' ⟨he, hb⟩ => ⟨he, ⟨w'', x.2.trans (hb.mono (Nat.le_trans hB x.2.size))⟩, rfl⟩
theorem Calls.later_same {P : Program} {f : FuncId} {args : Array Value} {B : Nat} {w : World} {x : Later B w} {v : Value}
    (h : Calls P f args x.1 fun e w' => e = .returned v ∧ w' = x.1) : Calls P f args x.1 fun e w'' => e = .returned v ∧ ∃ y : Later B w, w'' = y.1 :=
  h.mono fun _ _ ⟨he, hb⟩ => ⟨he, x, hb⟩
theorem wp_region_later {P : Program} {id : Nat} {Q : Exit → Act → World → Prop} {a : Act} {w : World} {l : List Oper} (B : Nat) (hm : P.follows .mixedOrders = true) (hB : Region.lexB .any l.toArray = true)
    (h : wpQuiet P l.toArray (fun w' => ∃ x : Later B w, w' = x.1) (fun a' => ∀ x : Later B w, Q .normal a' x.1) l a) : (Code.region id l.toArray true).wp P Q a w :=
  wp_region_quiet (C := fun w' => ∃ x : Later B w, w' = x.1) hm hB ⟨⟨_, (Below.refl B w).drew⟩, rfl⟩ (by
    have e : (fun a' => ∀ w', (∃ x : Later B w, w' = x.1) → Q .normal a' w') = fun a' => ∀ x : Later B w, Q .normal a' x.1 := by
      funext a'; exact propext ⟨fun h x => h _ ⟨x, rfl⟩, fun h w' ⟨x, hx⟩ => hx ▸ h x⟩
    rw [e]; simpa using h)

end Go.Proofs.YtfbhdkkmcfnghaaGreatDoor
