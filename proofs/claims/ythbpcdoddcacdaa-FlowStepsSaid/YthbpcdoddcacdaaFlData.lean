/- What the form grants of flows, frames, responses; the statement's walk at it. No condition. -/
import Derived.Test.YthbpcdoddcacdaaData
import Derived.Test.YthbpcdoddcacdaaFlSteps
namespace Go.Proofs.Ythbpcdoddcacdaa
open Go.RowKit Cells
set_option linter.unusedVariables false

def opCells : List (Value → Prop) := [pInt .i64, pStr, pStr, pInt .i64]
def headCells : List (Value → Prop) := [pStr, pStr]
def frameCells (w : World) : List (Value → Prop) := [pInt .i64, pSlice w 4 opCells, pInt .i64, pInt .i64, pStr, pStr, pStr, pStr, pSlice w 2 headCells, pStr, pInt .i64, pInt .i64, pInt .i64]
def flowCells (w : World) : List (Value → Prop) := [pSlice w 13 (frameCells w), pInt .i64]
def respCells (w : World) : List (Value → Prop) := [pInt .i64, pSlice w 2 headCells, pStr]
theorem flat_op (w : World) : Flat Try.prog w 106 opCells :=
  flat_struct Try.underlying106 (by kernel_rfl) (.cons 1 rfl (by kernel_rfl) (flat_int Try.underlying3) (.cons 1 rfl (by kernel_rfl) (flat_string Try.underlying9) (.cons 1 rfl (by kernel_rfl) (flat_string Try.underlying9) (.cons 1 rfl (by kernel_rfl) (flat_int Try.underlying3) (.nil _) rfl rfl) rfl rfl) rfl rfl) rfl rfl)
theorem flat_head (w : World) : Flat Try.prog w 158 headCells :=
  flat_struct Try.underlying158 (by kernel_rfl) (.cons 1 rfl (by kernel_rfl) (flat_string Try.underlying9) (.cons 1 rfl (by kernel_rfl) (flat_string Try.underlying9) (.nil _) rfl rfl) rfl rfl)
theorem flat_ops (w : World) : Flat Try.prog w 25 [pSlice w 4 opCells] := flat_slice Try.underlying25 (by kernel_rfl) (flat_op w)
theorem flat_heads (w : World) : Flat Try.prog w 26 [pSlice w 2 headCells] := flat_slice Try.underlying26 (by kernel_rfl) (flat_head w)
theorem flat_request (w : World) : Flat Try.prog w 28 [pStr, pStr, pStr, pSlice w 2 headCells, pStr] :=
  flat_struct Try.underlying28 (by kernel_rfl) (.cons 1 rfl (by kernel_rfl) (flat_string Try.underlying9) (.cons 1 rfl (by kernel_rfl) (flat_string Try.underlying9) (.cons 1 rfl (by kernel_rfl) (flat_string Try.underlying9)
    (.cons 1 rfl (by kernel_rfl) (flat_heads w) (.cons 1 rfl (by kernel_rfl) (flat_string Try.underlying9) (.nil _) rfl rfl) rfl rfl) rfl rfl) rfl rfl) rfl rfl)
theorem flat_frame (w : World) : Flat Try.prog w 30 (frameCells w) :=
  flat_struct Try.underlying30 (by kernel_rfl) (.cons 1 rfl (by kernel_rfl) (flat_int Try.underlying3) (.cons 1 rfl (by kernel_rfl) (flat_ops w) (.cons 1 rfl (by kernel_rfl) (flat_int Try.underlying3) (.cons 1 rfl (by kernel_rfl) (flat_int Try.underlying3) (.cons 1 rfl (by kernel_rfl) (flat_string Try.underlying9)
    (.cons 5 rfl (by kernel_rfl) (flat_request w) (.cons 1 rfl (by kernel_rfl) (flat_int Try.underlying3) (.cons 1 rfl (by kernel_rfl) (flat_int Try.underlying3) (.cons 1 rfl (by kernel_rfl) (flat_int Try.underlying3) (.nil _) rfl rfl) rfl rfl) rfl rfl) rfl rfl) rfl rfl) rfl rfl) rfl rfl) rfl rfl) rfl rfl)
theorem flat_frames (w : World) : Flat Try.prog w 22 [pSlice w 13 (frameCells w)] := flat_slice Try.underlying22 (by kernel_rfl) (flat_frame w)
theorem flat_flow (w : World) : Flat Try.prog w 24 (flowCells w) :=
  flat_struct Try.underlying24 (by kernel_rfl) (.cons 1 rfl (by kernel_rfl) (flat_frames w) (.cons 1 rfl (by kernel_rfl) (flat_int Try.underlying3) (.nil _) rfl rfl) rfl rfl)
theorem flat_resp (w : World) : Flat Try.prog w 32 (respCells w) :=
  flat_struct Try.underlying32 (by kernel_rfl) (.cons 1 rfl (by kernel_rfl) (flat_int Try.underlying3) (.cons 1 rfl (by kernel_rfl) (flat_heads w) (.cons 1 rfl (by kernel_rfl) (flat_string Try.underlying9) (.nil _) rfl rfl) rfl rfl) rfl rfl)
theorem op_of_cells {cs : List Value} (h : Rel opCells cs) : ∃ o : Ox, cs = o.cells ∧ o.a.length ≤ maxLen ∧ o.b.length ≤ maxLen := by
  obtain ⟨_, _, rfl, ⟨k, rfl, _⟩, g1⟩ := h.cons_inv
  obtain ⟨_, _, rfl, ⟨a, rfl, ha⟩, g2⟩ := g1.cons_inv
  obtain ⟨_, _, rfl, ⟨b, rfl, hb⟩, g3⟩ := g2.cons_inv
  obtain ⟨_, _, rfl, ⟨n, rfl, _⟩, g4⟩ := g3.cons_inv
  obtain rfl := g4.nil_inv
  exact ⟨⟨k, a, b, n⟩, rfl, by simpa using ha, by simpa using hb⟩
theorem head_of_cells {cs : List Value} (h : Rel headCells cs) : ∃ p : Hd, cs = p.cells ∧ p.1.length ≤ maxLen ∧ p.2.length ≤ maxLen := by
  obtain ⟨_, _, rfl, ⟨a, rfl, ha⟩, g5⟩ := h.cons_inv
  obtain ⟨_, _, rfl, ⟨b, rfl, hb⟩, g6⟩ := g5.cons_inv
  obtain rfl := g6.nil_inv
  exact ⟨(a, b), rfl, by simpa using ha, by simpa using hb⟩
theorem ops_of {w : World} {v : Value} (h : pSlice w 4 opCells v) : ∃ (L : List Ox) (A : Option Addr) (cap : Nat), v = .slice A L.length cap ∧ SlR w 4 (.slice A L.length cap) (L.map Ox.cells) ∧ ∀ m ∈ L, m.a.length ≤ maxLen ∧ m.b.length ≤ maxLen := by
  obtain ⟨L, hL, hf⟩ := slr_of (c := 4) Ox.cells (fun o => o.a.length ≤ maxLen ∧ o.b.length ≤ maxLen) (fun cs hc => op_of_cells hc) (fun _ => rfl) (by omega) h
  obtain ⟨A, cap, rfl, _⟩ := hL.form
  simp only [List.length_map] at hL ⊢
  exact ⟨L, A, cap, rfl, hL, hf⟩
theorem heads_of {w : World} {v : Value} (h : pSlice w 2 headCells v) : ∃ (L : List Hd) (A : Option Addr) (cap : Nat), v = .slice A L.length cap ∧ SlR w 2 (.slice A L.length cap) (L.map Hd.cells) ∧ ∀ m ∈ L, m.1.length ≤ maxLen ∧ m.2.length ≤ maxLen := by
  obtain ⟨L, hL, hf⟩ := slr_of (c := 2) Hd.cells (fun o => o.1.length ≤ maxLen ∧ o.2.length ≤ maxLen) (fun cs hc => head_of_cells hc) (fun _ => rfl) (by omega) h
  obtain ⟨A, cap, rfl, _⟩ := hL.form
  simp only [List.length_map] at hL ⊢
  exact ⟨L, A, cap, rfl, hL, hf⟩
theorem frame_of_cells {w : World} {cs : List Value} (h : Rel (frameCells w) cs) : ∃ x : Fm, cs = x.cells ∧ FmR w x ∧ x.c.fits := by
  unfold frameCells at h
  obtain ⟨_, _, rfl, ⟨node, rfl, _⟩, g7⟩ := h.cons_inv
  obtain ⟨_, _, rfl, h1, g8⟩ := g7.cons_inv
  obtain ⟨_, _, rfl, ⟨at_, rfl, _⟩, g9⟩ := g8.cons_inv
  obtain ⟨_, _, rfl, ⟨st, rfl, _⟩, g10⟩ := g9.cons_inv
  obtain ⟨_, _, rfl, ⟨body, rfl, hbody⟩, g11⟩ := g10.cons_inv
  obtain ⟨_, _, rfl, ⟨m, rfl, hm⟩, g12⟩ := g11.cons_inv
  obtain ⟨_, _, rfl, ⟨ho, rfl, hho⟩, g13⟩ := g12.cons_inv
  obtain ⟨_, _, rfl, ⟨p, rfl, hp⟩, g14⟩ := g13.cons_inv
  obtain ⟨_, _, rfl, h2, g15⟩ := g14.cons_inv
  obtain ⟨_, _, rfl, ⟨b, rfl, hb⟩, g16⟩ := g15.cons_inv
  obtain ⟨_, _, rfl, ⟨kids, rfl, _⟩, g17⟩ := g16.cons_inv
  obtain ⟨_, _, rfl, ⟨home, rfl, _⟩, g18⟩ := g17.cons_inv
  obtain ⟨_, _, rfl, ⟨hop, rfl, _⟩, g19⟩ := g18.cons_inv
  obtain rfl := g19.nil_inv
  obtain ⟨ops, oa, oc, rfl, hO, hof⟩ := ops_of h1
  obtain ⟨hs, ha, hc, rfl, hH, hhf⟩ := heads_of h2
  exact ⟨⟨⟨node, ops, at_, st, body, m, ho, p, hs, b, kids, home, hop⟩, oa, oc, ha, hc⟩, rfl, ⟨hO, hH⟩, ⟨hof, hhf, by simpa using hbody, by simpa using hm, by simpa using hho, by simpa using hp, by simpa using hb⟩⟩
theorem frame_of_arg {w : World} {cs : List Value} (h : Rel (frameCells w) cs) : ∃ x : Fm, (.agg cs.toArray : Value) = x.val ∧ (FmR w x ∧ x.c.fits) := by
  obtain ⟨x, rfl, h1, h2⟩ := frame_of_cells h
  exact ⟨x, rfl, h1, h2⟩
structure FlArg where
  L : List Fm
  A : Option Addr
  cap : Nat
  hops : Int
def FlArg.val (x : FlArg) : Value := flv x.A x.L.length x.cap x.hops
structure FlArg.ok (w : World) (x : FlArg) : Prop where
  rd : FlR w x.A x.cap x.L
  fits : ∀ y ∈ x.L, y.c.fits
  nil : x.A = none → x.cap = 0
theorem flow_of_arg {w : World} {cs : List Value} (h : Rel (flowCells w) cs) : ∃ x : FlArg, (.agg cs.toArray : Value) = x.val ∧ x.ok w := by
  unfold flowCells at h
  obtain ⟨v, _, rfl, h1, g20⟩ := h.cons_inv
  obtain ⟨_, _, rfl, ⟨hops, rfl, _⟩, g21⟩ := g20.cons_inv
  obtain rfl := g21.nil_inv
  have hn : ∀ A n cap, v = .slice A n cap → A = none → cap = 0 := by
    rcases h1 with rfl | ⟨a, len, cap, rfl, _⟩
    · intro A n cap h2 _
      simp only [Value.slice.injEq] at h2
      exact h2.2.2.symm
    · intro A n cap' h2 h3
      simp only [Value.slice.injEq] at h2
      rw [h3] at h2
      cases h2.1
  obtain ⟨L, hL, hf⟩ := slr_of (c := 13) Fm.cells (fun x => FmR w x ∧ x.c.fits) (fun cs hc => frame_of_cells hc) (fun _ => rfl) (by omega) h1
  obtain ⟨A, cap, rfl, _⟩ := hL.form
  simp only [List.length_map] at hL hn
  exact ⟨⟨L, A, cap, hops⟩, by simp [FlArg.val], ⟨hL, fun y hy => (hf y hy).1⟩, fun y hy => (hf y hy).2, hn _ _ _ rfl⟩
structure RpArg where
  st : Int
  v : Value
  s : Txt
def RpArg.val (x : RpArg) : Value := .agg #[.int .i64 x.st, x.v, .string (bs x.s)]
theorem resp_of_arg {w : World} {cs : List Value} (h : Rel (respCells w) cs) : ∃ x : RpArg, (.agg cs.toArray : Value) = x.val ∧ x.s.length ≤ maxLen := by
  unfold respCells at h
  obtain ⟨_, _, rfl, ⟨st, rfl, _⟩, g22⟩ := h.cons_inv
  obtain ⟨v, _, rfl, h1, g23⟩ := g22.cons_inv
  obtain ⟨_, _, rfl, ⟨s, rfl, hs⟩, g24⟩ := g23.cons_inv
  obtain rfl := g24.nil_inv
  exact ⟨⟨st, v, s⟩, rfl, by simpa using hs⟩
theorem steps37_at (f : FlArg) (x : Fm) (p : RpArg) (w : World) (hf : f.ok w) (hx : FmR w x ∧ x.c.fits) (hp : p.s.length ≤ maxLen) :
    Calls Try.prog 3 #[f.val, x.val, p.val] w fun e w' => e = .returned (.bool true) ∧ Below w.heap.size w w' :=
  steps37 f.A f.cap f.L.length f.L f.hops p.st x p.v p.s w hf.rd rfl hf.fits hf.nil hx.1 hx.2 hp
end Go.Proofs.Ythbpcdoddcacdaa
