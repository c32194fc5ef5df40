/- Records and lines in plain Lean; the walk of line.took. No condition but an int's range. -/
import Derived.Test.YtkhepehgafijfaaDoorLineRef
import Derived.Test.YtkhepehgafijfaaDoorHeadRef
import Derived.Test.YtkhepehgafijfaaDoorItoa
namespace Go.Proofs.YtkhepehgafijfaaDoor
open Go.RowKit
set_option linter.unusedVariables false

/-- A record; a part is its kind and its text. -/
structure Rc where
  m : List UInt8
  h : List UInt8
  p : List UInt8
  hs : List Hd
  b : List UInt8
  tg : List UInt8
  st : Int
  ve : Int
  tr : List UInt8
  t0 : Int
  t1 : Int
abbrev I64 (x : Int) : Prop := -9223372036854775808 ≤ x ∧ x ≤ 9223372036854775807
structure Rc.fits (r : Rc) : Prop where
  m : r.m.length ≤ 1099511627776
  h : r.h.length ≤ 1099511627776
  p : r.p.length ≤ 1099511627776
  tg : r.tg.length ≤ 1099511627776
  tr : r.tr.length ≤ 1099511627776
  n : r.hs.length ≤ 1099511627776
  v : ∀ x ∈ r.hs, x.2.length ≤ 1099511627776
  st : I64 r.st
  ve : I64 r.ve
  t0 : I64 r.t0
  t1 : I64 r.t1
def tookOf (t0 t1 : Int) : Int := max 0 (max t1 0 - max t0 0)
theorem tookOf_fits {t0 t1 : Int} (h0 : I64 t0) (h1 : I64 t1) : I64 (tookOf t0 t1) := by
  unfold tookOf I64 at *
  omega
def valueOf (k : Int) (t : List UInt8) (r : Rc) : List UInt8 :=
  if k = 0 then t else if k = 1 then Ln.esc r.m else if k = 2 then Ln.esc r.h else if k = 3 then Ln.esc r.p else if k = 4 then Ln.esc r.tg
  else if k = 7 then Ln.esc r.tr else if k = 5 then Lib.itoa r.st else if k = 6 then Lib.itoa r.ve else if k = 8 then Lib.itoa (tookOf r.t0 r.t1)
  else if k = 9 then Ln.esc ((hdGet r.hs t).getD []) else []
theorem hdGet_len {L : List Hd} {t : List UInt8} {m : Nat} (h : ∀ x ∈ L, x.2.length ≤ m) : ((hdGet L t).getD []).length ≤ m := by
  unfold hdGet
  cases hf : L.find? fun h => h.1 == t with
  | none => simp
  | some x => simpa using h x (List.mem_of_find?_eq_some hf)
theorem i64_max {x : Int} (h : I64 x) : 0 ≤ max x 0 ∧ max x 0 ≤ 9223372036854775807 := by unfold I64 at h; omega

set_option maxHeartbeats 400000 in
set_option maxRecDepth 100000 in
theorem took_any (r : Rc) (v : Value) (hv : v.oneCell' = true) (w : World) (h0 : I64 r.t0) (h1 : I64 r.t1) :
    Calls Tryd.prog 35 #[.agg #[.string (bs r.m), .string (bs r.h), .string (bs r.p), v, .string (bs r.b), .string (bs r.tg), .int .i64 r.st, .int .i64 r.ve, .string (bs r.tr), .int .i64 r.t0, .int .i64 r.t1]] w fun e w' => e = .returned (.int .i64 (tookOf r.t0 r.t1)) ∧ Below w.heap.size w w' := by
  obtain ⟨m, h, p, hs, b, tg, st, ve, tr, t0, t1⟩ := r
  simp only at h0 h1 ⊢
  have m0 := i64_max h0
  have m1 := i64_max h1
  obtain ⟨m00, m01⟩ := m0
  obtain ⟨m10, m11⟩ := m1
  go_enter Tryd.func35, Tryd.ntmps35
  go_wp2_with fail
  go_ret
  refine ⟨rfl, ?_⟩
  (repeat (first | exact Below.self _ | refine Below.alloc' ?_ _ | refine Below.drew ?_ | refine Below.drewN' ?_ _ | (refine Below.call ?_ (by assumption))))
end Go.Proofs.YtkhepehgafijfaaDoor
