/- Small laws that all the walks of this seat use: appending to a slice that the call owns, bytes as a list, texts. No condition. -/
import Derived.WalkKit
import Derived.WalkSpells
import Derived.WalkLawsBesides
import Derived.Lib.Hide
import Derived.Deep.DeepCutAuto
import Derived.Deep.QuietTactic
import Derived.BigQuiet
namespace Go.Proofs.Ytpfcipllfdallaa
open Go.RowKit

/-- A text of bytes. -/
def bs (l : List UInt8) : ByteArray := ⟨l.toArray⟩
theorem bs_of (s : ByteArray) : ∃ l, s = bs l := ⟨s.data.toList, rfl⟩
@[simp, go_sem] theorem bs_size (l : List UInt8) : (bs l).size = l.length := rfl
@[simp, go_sem] theorem bs_toList (l : List UInt8) : (bs l).toList = l := ByteArray.toList_mk l
@[simp] theorem bs_data (l : List UInt8) : (bs l).data.toList = l := rfl
@[simp, go_sem] theorem bs_append (a b : List UInt8) : bs a ++ bs b = bs (a ++ b) := ByteArray.mk_append_mk a b
@[simp, go_sem] theorem bs_extract (l : List UInt8) (a b : Nat) : (bs l).extract a b = bs ((l.drop a).take (b - a)) := ByteArray.extract_mk l a b
@[simp, go_sem] theorem bs_get (l : List UInt8) (i : Nat) (h : i < (bs l).size) : (bs l)[i] = l[i]'h := rfl
@[simp, go_sem] theorem take_rest (l : List UInt8) (k : Nat) : List.take (l.length - k) (l.drop k) = l.drop k := List.take_of_length_le (by simp)
theorem bs_inj {a b : List UInt8} (h : bs a = bs b) : a = b := by simpa using congrArg ByteArray.toList h
theorem bs_lit (a : Array UInt8) : (⟨a⟩ : ByteArray) = bs a.toList := rfl

/-- A slice value owns a list of bytes in the call's own memory. -/
def BRow (w : World) (B : Nat) (e : TypeId) (v : Value) (l : List UInt8) : Prop :=
  w.ownsRow B e 1 v l.length (l.map fun b => Value.int .u8 (b.toNat : Int))

theorem BRow.nil (w : World) (B : Nat) (e : TypeId) : BRow w B e (.slice none 0 0) [] := World.ownsRow_nil _ _ _ _

/-! Bits of bytes, in numbers. -/
theorem bits_or_u8 (a b : Nat) (ha : a < 256) (hb : b < 256) : bits .or .u8 (a : Int) (b : Int) = ((a ||| b : Nat) : Int) := by
  have h : a ||| b < 2 ^ 8 := Nat.or_lt_two_pow (by omega) (by omega)
  have h1 : (BitVec.ofInt 8 (a : Int)).toNat = a := by rw [BitVec.ofInt_natCast, BitVec.toNat_ofNat]; exact Nat.mod_eq_of_lt (by omega)
  have h2 : (BitVec.ofInt 8 (b : Int)).toNat = b := by rw [BitVec.ofInt_natCast, BitVec.toNat_ofNat]; exact Nat.mod_eq_of_lt (by omega)
  show IntKind.u8.wrap ((BitVec.ofInt 8 (a : Int) ||| BitVec.ofInt 8 (b : Int)).toNat : Int) = _
  rw [BitVec.toNat_or, h1, h2]
  simp [IntKind.wrap, IntKind.bits, IntKind.signed]
  omega
theorem bits_and_u8 (a b : Nat) (ha : a < 256) (hb : b < 256) : bits .and .u8 (a : Int) (b : Int) = ((a &&& b : Nat) : Int) := by
  have h : a &&& b < 2 ^ 8 := Nat.and_lt_two_pow _ (by omega)
  have h1 : (BitVec.ofInt 8 (a : Int)).toNat = a := by rw [BitVec.ofInt_natCast, BitVec.toNat_ofNat]; exact Nat.mod_eq_of_lt (by omega)
  have h2 : (BitVec.ofInt 8 (b : Int)).toNat = b := by rw [BitVec.ofInt_natCast, BitVec.toNat_ofNat]; exact Nat.mod_eq_of_lt (by omega)
  show IntKind.u8.wrap ((BitVec.ofInt 8 (a : Int) &&& BitVec.ofInt 8 (b : Int)).toNat : Int) = _
  rw [BitVec.toNat_and, h1, h2]
  simp [IntKind.wrap, IntKind.bits, IntKind.signed]
  omega
theorem or_128 : ∀ x, x < 256 → x ||| 128 = 128 + x % 128 := by decide +kernel
theorem and_127 (x : Nat) : x &&& 127 = x % 128 := Nat.and_two_pow_sub_one_eq_mod x 7
theorem bits_or_128 (a : Nat) : bits .or .u8 ((a : Int) % 256) 128 = ((UInt8.ofNat (128 + a % 128)).toNat : Int) := by
  have h := bits_or_u8 (a % 256) 128 (by omega) (by omega)
  have e := or_128 (a % 256) (by omega)
  rw [show (((a % 256 : Nat) : Int)) = (a : Int) % 256 by omega] at h
  rw [show ((128 : Nat) : Int) = 128 from rfl] at h
  rw [h, e]
  simp
  omega

theorem wrap_u64_nat (a : Nat) (h : a < 18446744073709551616) : IntKind.u64.wrap (a : Int) = a := by
  simp [IntKind.wrap, IntKind.bits, IntKind.signed]; omega
@[simp, go_sem] theorem wrap_u64_byte (b : UInt8) : IntKind.u64.wrap (b.toNat : Int) = b.toNat := wrap_u64_nat _ (by have := UInt8.toNat_lt b; omega)
@[simp, go_sem] theorem wrap_i64_byte (b : UInt8) : IntKind.i64.wrap (b.toNat : Int) = b.toNat := by
  have := UInt8.toNat_lt b
  simp [IntKind.wrap, IntKind.bits, IntKind.signed]; omega
@[simp, go_sem] theorem wrap_u8_byte (b : UInt8) : IntKind.u8.wrap (b.toNat : Int) = b.toNat := by
  have := UInt8.toNat_lt b
  simp [IntKind.wrap, IntKind.bits, IntKind.signed]; omega
theorem wrap_mul_add (v q b : Nat) (h : v + q * b < 18446744073709551616) : IntKind.u64.wrap ((v : Int) + IntKind.u64.wrap ((q : Int) * (b : Int))) = ((v + q * b : Nat) : Int) := by
  rw [show ((q : Int) * (b : Int)) = ((q * b : Nat) : Int) by simp, wrap_u64_nat _ (by omega), show ((v : Int) + ((q * b : Nat) : Int)) = ((v + q * b : Nat) : Int) by simp, wrap_u64_nat _ h]
theorem wrap_mul_add_less (v q b : Nat) (hb : 128 ≤ b) (h : v + q * (b - 128) < 18446744073709551616) :
    IntKind.u64.wrap ((v : Int) + IntKind.u64.wrap ((q : Int) * ((b : Int) - 128))) = ((v + q * (b - 128) : Nat) : Int) := by
  rw [show ((b : Int) - 128) = ((b - 128 : Nat) : Int) by omega, wrap_mul_add _ _ _ h]

/-- 'v<<7 | uint64(b&127)'. -/
theorem or_shift7 (v b : Nat) (hv : v * 128 < 18446744073709551616) (hb : b < 256) :
    bits .or .u64 (IntKind.u64.wrap ((v : Int) * 128)) (IntKind.u64.wrap (bits .and .u8 (b : Int) 127)) = ((b % 128 + 128 * v : Nat) : Int) := by
  have h1 := bits_and_u8 b 127 hb (by omega)
  rw [show ((127 : Nat) : Int) = 127 from rfl] at h1
  rw [h1, and_127, wrap_u64_nat _ (by omega), show ((v : Int) * 128) = ((v * 128 : Nat) : Int) by omega, wrap_u64_nat _ hv, bits_or_u64_nat _ _ hv (by omega)]
  have := Nat.two_pow_add_eq_or_of_lt (i := 7) (b := b % 128) (by omega) v
  rw [show v * 128 = 2 ^ 7 * v by omega, ← this]
  omega

/-- 'append(out, x)', one element of one cell: the new element lies in the block that was just laid. -/
theorem wpList_append1 {P : Program} {ops : Array Oper} {rest : List Oper} {o : Oper} {a : Act} {Q : Exit → Act → World → Prop}
    (wr : World) (x : Value) (eo : TypeId) (hgd : o.guard = none) (s y : Operand) (t : TypeId)
    (ho : o.op = Op.call { callee := Callee.builtin Builtin.append, args := #[s, y], argTypes := #[t, t] })
    (B : Nat) (e : TypeId) (z : Value) (bytes : Nat) (ht : P.underlying t = some (.slice e))
    (hinfo : (P.info? e).map (fun i => (i.zero, i.size, i.bytes)) = some (some z, 1, bytes))
    (v : Value) (n : Nat) (xs : List Value) (hown : wr.ownsRow B e 1 v n xs)
    (hs : a.eval s = v) (hx : a.eval y = .slice (some ⟨wr.heap.size, 0, none⟩) 1 1)
    (hzc : z.cells.size = 1) (h1 : x.oneCell' = true) (hbytes : (n + 1) * bytes ≤ 140737488355328) (hb0 : 0 < bytes) (hB : B ≤ wr.heap.size)
    (h : ∀ v' w', w'.ownsRow B e 1 v' (n + 1) (xs ++ [x]) → (wr.alloc (.cells #[x] eo)).grownBy w' v.ownBlock → Below B wr w' → wr.heap.size < w'.heap.size →
      wpList P ops Q rest (a.put o.dst v') w') :
    wpList P ops Q (o :: rest) a (wr.alloc (.cells #[x] eo)) := by
  obtain ⟨i, hi, hz, hsz, hby⟩ := info_parts hinfo
  refine wpList_append_own _ hgd s y t ho B e i z 1 bytes ht hi hz hsz hby hzc (by decide) v n xs hs (hown.alloc _) ⟨wr.heap.size, 0, none⟩ 1 1 [x] hx rfl ?_ ?_ ?_ hbytes ?_ ?_
  · intro j u hj
    match j, hj with
    | 0, hj => simp at hj; subst hj; simp [Addr.add]
  · intro u hu; simp at hu; subst hu; exact h1
  · have : (n + 1) ≤ (n + 1) * bytes := Nat.le_mul_of_pos_right _ hb0
    unfold maxLen; omega
  · simp; omega
  · intro v' w' ho' hg _
    have hb : Below B wr (wr.alloc (.cells #[x] eo)) := (Below.refl _ _).alloc hB _
    refine h v' w' ho' hg (hb.grown hg (by simp; omega) fun k hk => (hown.lt k hk).1) ?_
    have := hg.size
    simp at this; omega

/-- 'append(out, b)', bytes. -/
theorem wpList_append_byte {P : Program} {ops : Array Oper} {rest : List Oper} {o : Oper} {a : Act} {Q : Exit → Act → World → Prop}
    {wr : World} {x : Value} {eo : TypeId} {B : Nat} {e : TypeId} {v : Value} {l : List UInt8} (hown : BRow wr B e v l) (b : UInt8) (hxb : x = .int .u8 (b.toNat : Int))
    (hgd : o.guard = none) (s y : Operand) (t : TypeId)
    (ho : o.op = Op.call { callee := Callee.builtin Builtin.append, args := #[s, y], argTypes := #[t, t] })
    (ht : P.underlying t = some (.slice e))
    (hinfo : (P.info? e).map (fun i => (i.zero, i.size, i.bytes)) = some (some (.int .u8 0), 1, 1))
    (hs : a.eval s = v) (hx : a.eval y = .slice (some ⟨wr.heap.size, 0, none⟩) 1 1)
    (hbytes : l.length + 1 ≤ 140737488355328) (hB : B ≤ wr.heap.size)
    (h : ∀ v' w', BRow w' B e v' (l ++ [b]) → (wr.alloc (.cells #[x] eo)).grownBy w' v.ownBlock → Below B wr w' → wr.heap.size < w'.heap.size →
      wpList P ops Q rest (a.put o.dst v') w') :
    wpList P ops Q (o :: rest) a (wr.alloc (.cells #[x] eo)) := by
  subst hxb
  refine wpList_append1 wr _ eo hgd s y t ho B e _ 1 ht hinfo v _ _ hown hs hx rfl rfl (by omega) (by decide) hB ?_
  intro v' w' h1 h2 h3 h4
  exact h v' w' (by unfold BRow; simpa using h1) h2 h3 h4

/-- What 'string(b)' gives of bytes that the call owns. -/
theorem run_string_row {P : Program} {w : World} {B : Nat} {e : TypeId} {v : Value} {l : List UInt8} (h : BRow w B e v l) (src dst : TypeId)
    (hs : P.underlying src = some (.slice e)) (he : P.underlying e = some (.int .u8)) (hd : P.underlying dst = some .string) :
    (convert src dst v).run P w = .ok (.string (bs l)) w := by
  rcases h.2 with ⟨rfl, h0⟩ | ⟨g, cap, cur, rfl, _, _⟩
  · have : l = [] := List.eq_nil_of_length_eq_zero h0
    subst this
    exact run_convert_bytes_nil w src e hs he 0 0 dst hd
  · refine run_convert_bytes_back w src dst e _ cap l hs he hd fun j hj => ?_
    exact World.ownsRow.cells h rfl j _ (by simp [hj])

/-- The same, as a law of the walk. -/
theorem wpList_string_row {P : Program} {ops : Array Oper} {rest : List Oper} {o : Oper} {a : Act} {Q : Exit → Act → World → Prop} {w : World}
    (hgd : o.guard = none) (s : Operand) (src dst : TypeId) (ho : o.op = Op.convert src dst s) (B : Nat) (e : TypeId) (v : Value) (l : List UInt8)
    (hrow : BRow w B e v l) (hs : P.underlying src = some (.slice e)) (he : P.underlying e = some (.int .u8)) (hd : P.underlying dst = some .string)
    (hv : a.eval s = v) (h : wpList P ops Q rest (a.put o.dst (.string (bs l))) w) : wpList P ops Q (o :: rest) a w := by
  refine wpList_plain hgd fun K hK' => ?_
  unfold Oper.wp
  simp [execOp, ho, hv, run_string_row hrow src dst hs he hd, Result.andThen]
  exact hK' _ _ h

/-- 'string([]byte{x})': the byte lies in the block that was just laid. -/
theorem run_string_one {P : Program} (w : World) (x : Int) (b : UInt8) (src dst e eo : TypeId) (hx : x = (b.toNat : Int))
    (hs : P.underlying src = some (.slice e)) (he : P.underlying e = some (.int .u8)) (hd : P.underlying dst = some .string) :
    (convert src dst (.slice (some ⟨w.heap.size, 0, none⟩) 1 1)).run P (w.alloc (.cells #[.int .u8 x] eo)) = .ok (.string (bs [b])) (w.alloc (.cells #[.int .u8 x] eo)) := by
  subst hx
  refine run_convert_bytes_back (P := P) (w.alloc (.cells #[.int .u8 (b.toNat : Int)] eo)) src dst e ⟨w.heap.size, 0, none⟩ 1 [b] hs he hd fun j hj => ?_
  match j, hj with
  | 0, _ => simp [Addr.add]

/-! A region that draws its order, whose operations and calls give one value in whatever world that keeps what was there. -/
/-- A world in which all that was there below B is as it was. -/
def Later (B : Nat) (w : World) : Type := { w' : World // Below B w w' }
instance (B : Nat) (w : World) : Nonempty (Later B w) := ⟨⟨w, Below.refl B w⟩⟩
theorem Later.cell {B : Nat} {w : World} (x : Later B w) {p : Addr} {v : Value} (h : w.cell? p = some v) (hp : p.block < B) : x.1.cell? p = some v := (x.2.cell hp).trans h
theorem Calls.later {P : Program} {f : FuncId} {args : Array Value} {B : Nat} {w : World} {x : Later B w} {v : Value} (hB : B ≤ w.heap.size)
    (h : Calls P f args x.1 fun e w' => e = .returned v ∧ Below x.1.heap.size x.1 w') : Calls P f args x.1 fun e w'' => e = .returned v ∧ ∃ y : Later B w, w'' = y.1 :=
  h.mono fun _ w'' ⟨he, hb⟩ => ⟨he, ⟨w'', x.2.trans (hb.mono (Nat.le_trans hB x.2.size))⟩, rfl⟩
theorem Calls.later_same {P : Program} {f : FuncId} {args : Array Value} {B : Nat} {w : World} {x : Later B w} {v : Value}
    (h : Calls P f args x.1 fun e w' => e = .returned v ∧ w' = x.1) : Calls P f args x.1 fun e w'' => e = .returned v ∧ ∃ y : Later B w, w'' = y.1 :=
  h.mono fun _ _ ⟨he, hb⟩ => ⟨he, x, hb⟩
theorem wp_region_later {P : Program} {id : Nat} {Q : Exit → Act → World → Prop} {a : Act} {w : World} {l : List Oper} (B : Nat) (hm : P.follows .mixedOrders = true) (hB : Region.lexB .any l.toArray = true)
    (h : wpQuiet P l.toArray (fun w' => ∃ x : Later B w, w' = x.1) (fun a' => ∀ x : Later B w, Q .normal a' x.1) l a) : (Code.region id l.toArray true).wp P Q a w :=
  wp_region_quiet (C := fun w' => ∃ x : Later B w, w' = x.1) hm hB ⟨⟨_, (Below.refl B w).drew⟩, rfl⟩ (by
    have e : (fun a' => ∀ w', (∃ x : Later B w, w' = x.1) → Q .normal a' w') = fun a' => ∀ x : Later B w, Q .normal a' x.1 := by
      funext a'; exact propext ⟨fun h x => h _ ⟨x, rfl⟩, fun h w' ⟨x, hx⟩ => hx ▸ h x⟩
    rw [e]; simpa using h)

end Go.Proofs.Ytpfcipllfdallaa
