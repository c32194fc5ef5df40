/- What the form, with its reach, grants of a part, of parts and of a record. No condition. -/
import Derived.Test.YtkhepehgafijfaaDoorReach
import Derived.Test.YtkhepehgafijfaaDoorFewR
import Derived.Test.YtkhepehgafijfaaDoorLineValues
namespace Go.Proofs.YtkhepehgafijfaaDoor
open Go.RowKit Cells
set_option linter.unusedVariables false

def partCells : List (Value → Prop) := [pInt .i64, pStrR]
def headCells : List (Value → Prop) := [pStrR, pStrR]
theorem flat_part (w : World) : FlatR Tryd.prog w 26 partCells :=
  flatR_struct Tryd.underlying26 (by kernel_rfl) (.cons 1 rfl (by kernel_rfl) (flat_int Tryd.underlying3).reach (.cons 1 rfl (by kernel_rfl) (flatR_string Tryd.underlying9) (.nil _) rfl rfl) rfl rfl)
theorem flat_head (w : World) : FlatR Tryd.prog w 56 headCells :=
  flatR_struct Tryd.underlying56 (by kernel_rfl) (.cons 1 rfl (by kernel_rfl) (flatR_string Tryd.underlying9) (.cons 1 rfl (by kernel_rfl) (flatR_string Tryd.underlying9) (.nil _) rfl rfl) rfl rfl)
theorem flat_parts (w : World) : FlatR Tryd.prog w 27 [pSlice w 2 partCells] := flatR_slice Tryd.underlying27 (by kernel_rfl) (flat_part w)
theorem flat_heads (w : World) : FlatR Tryd.prog w 28 [pSlice w 2 headCells] := flatR_slice Tryd.underlying28 (by kernel_rfl) (flat_head w)
def requestCells (w : World) : List (Value → Prop) := [pStrR, pStrR, pStrR, pSlice w 2 headCells, pStrR]
theorem flat_request (w : World) : FlatR Tryd.prog w 30 (requestCells w) :=
  flatR_struct Tryd.underlying30 (by kernel_rfl) (.cons 1 rfl (by kernel_rfl) (flatR_string Tryd.underlying9) (.cons 1 rfl (by kernel_rfl) (flatR_string Tryd.underlying9) (.cons 1 rfl (by kernel_rfl) (flatR_string Tryd.underlying9)
    (.cons 1 rfl (by kernel_rfl) (flat_heads w) (.cons 1 rfl (by kernel_rfl) (flatR_string Tryd.underlying9) (.nil _) rfl rfl) rfl rfl) rfl rfl) rfl rfl) rfl rfl)
def recordCells (w : World) : List (Value → Prop) := requestCells w ++ [pStrR, pInt .i64, pInt .i64, pStrR, pInt .i64, pInt .i64]
theorem flat_record (w : World) : FlatR Tryd.prog w 32 (recordCells w) :=
  flatR_struct Tryd.underlying32 (by kernel_rfl) (.cons 5 rfl (by kernel_rfl) (flat_request w) (.cons 1 rfl (by kernel_rfl) (flatR_string Tryd.underlying9) (.cons 1 rfl (by kernel_rfl) (flat_int Tryd.underlying3).reach (.cons 1 rfl (by kernel_rfl) (flat_int Tryd.underlying3).reach
    (.cons 1 rfl (by kernel_rfl) (flatR_string Tryd.underlying9) (.cons 1 rfl (by kernel_rfl) (flat_int Tryd.underlying3).reach (.cons 1 rfl (by kernel_rfl) (flat_int Tryd.underlying3).reach (.nil _) rfl rfl) rfl rfl) rfl rfl) rfl rfl) rfl rfl) rfl rfl) rfl rfl)

/-- A part that comes in. -/
theorem part_of_cells {cs : List Value} (h : Rel partCells cs) : ∃ p : Pt, cs = p.cells ∧ p.2.length ≤ 140737488355328 := by
  obtain ⟨v0, _, rfl, ⟨n, rfl, _⟩, ha0⟩ := h.cons_inv
  obtain ⟨v1, _, rfl, ⟨l, rfl, hl⟩, ha1⟩ := ha0.cons_inv
  obtain rfl := ha1.nil_inv
  exact ⟨(n, l), rfl, hl⟩
theorem head_of_cells {cs : List Value} (h : Rel headCells cs) : ∃ p : Hd, cs = p.cells ∧ (p.1.length ≤ 140737488355328 ∧ p.2.length ≤ 140737488355328) := by
  obtain ⟨v0, _, rfl, ⟨n, rfl, hn⟩, ha2⟩ := h.cons_inv
  obtain ⟨v1, _, rfl, ⟨l, rfl, hl⟩, ha3⟩ := ha2.cons_inv
  obtain rfl := ha3.nil_inv
  exact ⟨(n, l), rfl, hn, hl⟩
structure PtArg where
  k : Int
  t : List UInt8
def PtArg.val (p : PtArg) : Value := .agg #[.int .i64 p.k, .string (bs p.t)]
theorem part_of_arg {cs : List Value} (h : Rel partCells cs) : ∃ p : PtArg, (.agg cs.toArray : Value) = p.val ∧ p.t.length ≤ 140737488355328 := by
  obtain ⟨p, rfl, hp⟩ := part_of_cells h
  exact ⟨⟨p.1, p.2⟩, rfl, hp⟩
theorem parts_of {w : World} {v : Value} (h : pSlice w 2 partCells v) : ∃ (L : List Pt) (B : Option Addr) (cap : Nat), v = .slice B L.length cap ∧ SlR w 2 (.slice B L.length cap) (L.map Pt.cells) ∧ ∀ p ∈ L, p.2.length ≤ 140737488355328 := by
  obtain ⟨L, hL, hf⟩ := slr_of Pt.cells _ (fun cs hc => part_of_cells hc) (fun _ => rfl) (by omega) h
  obtain ⟨A, cap, rfl, _⟩ := hL.form
  simp only [List.length_map] at hL ⊢
  exact ⟨L, A, cap, rfl, hL, hf⟩
structure RcArg where
  r : Rc
  A : Option Addr
  cap : Nat
def RcArg.val (x : RcArg) : Value := .agg #[.string (bs x.r.m), .string (bs x.r.h), .string (bs x.r.p), .slice x.A x.r.hs.length x.cap, .string (bs x.r.b), .string (bs x.r.tg), .int .i64 x.r.st, .int .i64 x.r.ve, .string (bs x.r.tr), .int .i64 x.r.t0, .int .i64 x.r.t1]
structure RcArg.ok (w : World) (x : RcArg) : Prop where
  heads : SlR w 2 (.slice x.A x.r.hs.length x.cap) (x.r.hs.map Hd.cells)
  reach : x.r.reach
  ints : x.r.ints
theorem i64_wf {n : Int} (h : (Lit.int .i64 n).wf = true) : I64 n := bounds_i64 h
theorem record_of_cells {w : World} {cs : List Value} (h : Rel (recordCells w) cs) : ∃ x : RcArg, (.agg cs.toArray : Value) = x.val ∧ x.ok w := by
  unfold recordCells requestCells at h
  simp only [List.cons_append, List.nil_append] at h
  obtain ⟨_, _, rfl, ⟨m, rfl, hm⟩, ha4⟩ := h.cons_inv
  obtain ⟨_, _, rfl, ⟨ho, rfl, hh⟩, ha5⟩ := ha4.cons_inv
  obtain ⟨_, _, rfl, ⟨p, rfl, hp⟩, ha6⟩ := ha5.cons_inv
  obtain ⟨v3, _, rfl, h3, ha7⟩ := ha6.cons_inv
  obtain ⟨_, _, rfl, ⟨b, rfl, hb⟩, ha8⟩ := ha7.cons_inv
  obtain ⟨_, _, rfl, ⟨tg, rfl, htg⟩, ha9⟩ := ha8.cons_inv
  obtain ⟨_, _, rfl, ⟨st, rfl, hst⟩, ha10⟩ := ha9.cons_inv
  obtain ⟨_, _, rfl, ⟨ve, rfl, hve⟩, ha11⟩ := ha10.cons_inv
  obtain ⟨_, _, rfl, ⟨tr, rfl, htr⟩, ha12⟩ := ha11.cons_inv
  obtain ⟨_, _, rfl, ⟨t0, rfl, ht0⟩, ha13⟩ := ha12.cons_inv
  obtain ⟨_, _, rfl, ⟨t1, rfl, ht1⟩, ha14⟩ := ha13.cons_inv
  obtain rfl := ha14.nil_inv
  obtain ⟨hs, hL, hf⟩ := slr_of Hd.cells _ (fun cs hc => head_of_cells hc) (fun _ => rfl) (by omega) h3
  obtain ⟨A, cap, rfl, _⟩ := hL.form
  simp only [List.length_map] at hL ⊢
  exact ⟨⟨⟨m, ho, p, hs, b, tg, st, ve, tr, t0, t1⟩, A, cap⟩, rfl, hL, ⟨hm, hh, hp, hb, htg, htr, hf⟩, ⟨i64_wf hst, i64_wf hve, i64_wf ht0, i64_wf ht1⟩⟩

theorem values20 (p : PtArg) (v : Value) (x : RcArg) (w : World) (hv : pSlice w 2 partCells v) (hx : x.ok w) (hp : Pow10 w) : Calls Tryd.prog 4 #[p.val, v, x.val] w fun e w' => e = .returned (.bool true) ∧ Below w.heap.size w w' := by
  obtain ⟨L, B, cap, rfl, hT, hL⟩ := parts_of hv
  exact lineValues_any p.k p.t L B cap x.r x.A x.cap w hT hx.heads hx.reach hx.ints hL hp
end Go.Proofs.YtkhepehgafijfaaDoor
