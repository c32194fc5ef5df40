/- What the form, with its reach, grants of requests and responses; the laws' walks at it. Condition: what the library's variables hold. -/
import Derived.Test.YtbnaicgomabigaaDoorReach
import Derived.Test.YtbnaicgomabigaaDoorMsBack
namespace Go.Proofs.YtbnaicgomabigaaDoor
open Go.RowKit Cells
set_option linter.unusedVariables false

def headCells : List (Value → Prop) := [pStrR, pStrR]
theorem flat_head (w : World) : FlatR Tryd.prog w 90 headCells :=
  flatR_struct Tryd.underlying90 (by kernel_rfl) (.cons 1 rfl (by kernel_rfl) (flatR_string Tryd.underlying9) (.cons 1 rfl (by kernel_rfl) (flatR_string Tryd.underlying9) (.nil _) rfl rfl) rfl rfl)
theorem flat_heads (w : World) : FlatR Tryd.prog w 37 [pSlice w 2 headCells] := flatR_slice Tryd.underlying37 (by kernel_rfl) (flat_head w)
def requestCells (w : World) : List (Value → Prop) := [pStrR, pStrR, pStrR, pSlice w 2 headCells, pStrR]
theorem flat_request (w : World) : FlatR Tryd.prog w 58 (requestCells w) :=
  flatR_struct Tryd.underlying58 (by kernel_rfl) (.cons 1 rfl (by kernel_rfl) (flatR_string Tryd.underlying9) (.cons 1 rfl (by kernel_rfl) (flatR_string Tryd.underlying9) (.cons 1 rfl (by kernel_rfl) (flatR_string Tryd.underlying9)
    (.cons 1 rfl (by kernel_rfl) (flat_heads w) (.cons 1 rfl (by kernel_rfl) (flatR_string Tryd.underlying9) (.nil _) rfl rfl) rfl rfl) rfl rfl) rfl rfl) rfl rfl)
def responseCells (w : World) : List (Value → Prop) := [pInt .i64, pSlice w 2 headCells, pStrR]
theorem flat_response (w : World) : FlatR Tryd.prog w 63 (responseCells w) :=
  flatR_struct Tryd.underlying63 (by kernel_rfl) (.cons 1 rfl (by kernel_rfl) (flat_int Tryd.underlying3).reach (.cons 1 rfl (by kernel_rfl) (flat_heads w) (.cons 1 rfl (by kernel_rfl) (flatR_string Tryd.underlying9) (.nil _) rfl rfl) rfl rfl) rfl rfl)
theorem head_of_cells {cs : List Value} (h : Rel headCells cs) : ∃ p : Hd, cs = p.cells ∧ (p.1.length ≤ 140737488355328 ∧ p.2.length ≤ 140737488355328) := by
  obtain ⟨v0, _, rfl, ⟨n, rfl, hn⟩, h1⟩ := h.cons_inv
  obtain ⟨v1, _, rfl, ⟨l, rfl, hl⟩, h2⟩ := h1.cons_inv
  obtain rfl := h2.nil_inv
  exact ⟨(n, l), rfl, hn, hl⟩
theorem heads_of {w : World} {v : Value} (h : pSlice w 2 headCells v) : ∃ (L : List Hd) (B : Option Addr) (cap : Nat), v = .slice B L.length cap ∧ HdR w B cap L := by
  obtain ⟨L, hL, hf⟩ := slr_of Hd.cells _ (fun cs hc => head_of_cells hc) (fun _ => rfl) (by omega) h
  obtain ⟨A, cap, rfl, _⟩ := hL.form
  simp only [List.length_map] at hL ⊢
  exact ⟨L, A, cap, rfl, hL, hf⟩
structure RqArg where
  q : Rq
  A : Option Addr
  cap : Nat
structure RqArg.ok (w : World) (x : RqArg) : Prop where
  heads : HdR w x.A x.cap x.q.hs
  fits : x.q.fits
theorem request_of_cells {w : World} {cs : List Value} (h : Rel (requestCells w) cs) : ∃ x : RqArg, (.agg cs.toArray : Value) = x.q.val x.A x.cap ∧ x.ok w := by
  unfold requestCells at h
  obtain ⟨_, _, rfl, ⟨m, rfl, hm⟩, ha4⟩ := h.cons_inv
  obtain ⟨_, _, rfl, ⟨ho, rfl, hh⟩, ha5⟩ := ha4.cons_inv
  obtain ⟨_, _, rfl, ⟨p, rfl, hp⟩, ha6⟩ := ha5.cons_inv
  obtain ⟨v3, _, rfl, h3, ha7⟩ := ha6.cons_inv
  obtain ⟨_, _, rfl, ⟨b, rfl, hb⟩, ha8⟩ := ha7.cons_inv
  obtain rfl := ha8.nil_inv
  obtain ⟨L, A, cap, rfl, hL⟩ := heads_of h3
  exact ⟨⟨⟨m, ho, p, L, b⟩, A, cap⟩, rfl, hL, ⟨hm, hh, hp, hb⟩⟩
structure RsArg where
  q : Rs
  A : Option Addr
  cap : Nat
structure RsArg.ok (w : World) (x : RsArg) : Prop where
  heads : HdR w x.A x.cap x.q.hs
  fits : x.q.b.length ≤ 140737488355328
theorem response_of_cells {w : World} {cs : List Value} (h : Rel (responseCells w) cs) : ∃ x : RsArg, (.agg cs.toArray : Value) = x.q.val x.A x.cap ∧ x.ok w := by
  unfold responseCells at h
  obtain ⟨_, _, rfl, ⟨st, rfl, _⟩, ha4⟩ := h.cons_inv
  obtain ⟨v3, _, rfl, h3, ha7⟩ := ha4.cons_inv
  obtain ⟨_, _, rfl, ⟨b, rfl, hb⟩, ha8⟩ := ha7.cons_inv
  obtain rfl := ha8.nil_inv
  obtain ⟨L, A, cap, rfl, hL⟩ := heads_of h3
  exact ⟨⟨⟨st, L, b⟩, A, cap⟩, rfl, hL, hb⟩
theorem writes05_at (x : RqArg) (w : World) (h : x.ok w) (hm : PgEnv w) : Calls Tryd.prog 8 #[x.q.val x.A x.cap] w fun e w' => e = .returned (.bool true) ∧ Below w.heap.size w w' :=
  writes05 x.q x.A x.cap w h.heads h.fits hm
theorem answers05_at (x : RsArg) (w : World) (h : x.ok w) (hm : PgEnv w) : Calls Tryd.prog 9 #[x.q.val x.A x.cap] w fun e w' => e = .returned (.bool true) ∧ Below w.heap.size w w' :=
  answers05 x.q x.A x.cap w h.heads h.fits hm
theorem back05_at (x : RqArg) (y : RsArg) (s : List UInt8) (w : World) (h : x.ok w) (h' : y.ok w) (hl : s.length ≤ 140737488355328) (hm : PgEnv w) : Calls Tryd.prog 11 #[x.q.val x.A x.cap, y.q.val y.A y.cap, .string (bs s)] w fun e w' => e = .returned (.bool true) ∧ Below w.heap.size w w' :=
  back05 x.q y.q x.A y.A x.cap y.cap s w h.heads h'.heads h.fits h'.fits hl hm
end Go.Proofs.YtbnaicgomabigaaDoor
