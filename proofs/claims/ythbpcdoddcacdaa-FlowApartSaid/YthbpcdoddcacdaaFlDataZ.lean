/- What the form grants of flows and entries, within its reach; the statement's walk at it. No condition. -/
import Derived.Test.YthbpcdoddcacdaaDataZ
import Derived.Test.YthbpcdoddcacdaaFlApart
namespace Go.Proofs.Ythbpcdoddcacdaa
open Go.RowKit Cells
set_option linter.unusedVariables false

theorem rm {n : Nat} (h : n ≤ reachBytes) : n ≤ maxLen := Nat.le_trans h (by decide)
def opCellsZ : List (Value → Prop) := [pInt .i64, pStrZ, pStrZ, pInt .i64]
def headCellsZ : List (Value → Prop) := [pStrZ, pStrZ]
def frameCellsZ (w : World) : List (Value → Prop) := [pInt .i64, pSlice w 4 opCellsZ, pInt .i64, pInt .i64, pStrZ, pStrZ, pStrZ, pStrZ, pSlice w 2 headCellsZ, pStrZ, pInt .i64, pInt .i64, pInt .i64]
def flowCellsZ (w : World) : List (Value → Prop) := [pSlice w 13 (frameCellsZ w), pInt .i64]
theorem flatz_op (w : World) : FlatZ Try.prog w 106 opCellsZ :=
  flatz_struct Try.underlying106 (by kernel_rfl) (.cons 1 rfl (by kernel_rfl) (flatz_of (flat_int Try.underlying3)) (.cons 1 rfl (by kernel_rfl) (flatz_string Try.underlying9) (.cons 1 rfl (by kernel_rfl) (flatz_string Try.underlying9) (.cons 1 rfl (by kernel_rfl) (flatz_of (flat_int Try.underlying3)) (.nil _) rfl rfl) rfl rfl) rfl rfl) rfl rfl)
theorem flatz_head (w : World) : FlatZ Try.prog w 158 headCellsZ :=
  flatz_struct Try.underlying158 (by kernel_rfl) (.cons 1 rfl (by kernel_rfl) (flatz_string Try.underlying9) (.cons 1 rfl (by kernel_rfl) (flatz_string Try.underlying9) (.nil _) rfl rfl) rfl rfl)
theorem flatz_ops (w : World) : FlatZ Try.prog w 25 [pSlice w 4 opCellsZ] := flatz_slice Try.underlying25 (by kernel_rfl) (flatz_op w)
theorem flatz_heads (w : World) : FlatZ Try.prog w 26 [pSlice w 2 headCellsZ] := flatz_slice Try.underlying26 (by kernel_rfl) (flatz_head w)
theorem flatz_request (w : World) : FlatZ Try.prog w 28 [pStrZ, pStrZ, pStrZ, pSlice w 2 headCellsZ, pStrZ] :=
  flatz_struct Try.underlying28 (by kernel_rfl) (.cons 1 rfl (by kernel_rfl) (flatz_string Try.underlying9) (.cons 1 rfl (by kernel_rfl) (flatz_string Try.underlying9) (.cons 1 rfl (by kernel_rfl) (flatz_string Try.underlying9)
    (.cons 1 rfl (by kernel_rfl) (flatz_heads w) (.cons 1 rfl (by kernel_rfl) (flatz_string Try.underlying9) (.nil _) rfl rfl) rfl rfl) rfl rfl) rfl rfl) rfl rfl)
theorem flatz_frame (w : World) : FlatZ Try.prog w 30 (frameCellsZ w) :=
  flatz_struct Try.underlying30 (by kernel_rfl) (.cons 1 rfl (by kernel_rfl) (flatz_of (flat_int Try.underlying3)) (.cons 1 rfl (by kernel_rfl) (flatz_ops w) (.cons 1 rfl (by kernel_rfl) (flatz_of (flat_int Try.underlying3)) (.cons 1 rfl (by kernel_rfl) (flatz_of (flat_int Try.underlying3)) (.cons 1 rfl (by kernel_rfl) (flatz_string Try.underlying9)
    (.cons 5 rfl (by kernel_rfl) (flatz_request w) (.cons 1 rfl (by kernel_rfl) (flatz_of (flat_int Try.underlying3)) (.cons 1 rfl (by kernel_rfl) (flatz_of (flat_int Try.underlying3)) (.cons 1 rfl (by kernel_rfl) (flatz_of (flat_int Try.underlying3)) (.nil _) rfl rfl) rfl rfl) rfl rfl) rfl rfl) rfl rfl) rfl rfl) rfl rfl) rfl rfl) rfl rfl)
theorem flatz_frames (w : World) : FlatZ Try.prog w 22 [pSlice w 13 (frameCellsZ w)] := flatz_slice Try.underlying22 (by kernel_rfl) (flatz_frame w)
theorem flatz_flow (w : World) : FlatZ Try.prog w 24 (flowCellsZ w) :=
  flatz_struct Try.underlying24 (by kernel_rfl) (.cons 1 rfl (by kernel_rfl) (flatz_frames w) (.cons 1 rfl (by kernel_rfl) (flatz_of (flat_int Try.underlying3)) (.nil _) rfl rfl) rfl rfl)
theorem op_of_cellsZ {cs : List Value} (h : Rel opCellsZ cs) : ∃ o : Ox, cs = o.cells ∧ o.a.length ≤ reachBytes ∧ o.b.length ≤ reachBytes := by
  obtain ⟨_, _, rfl, ⟨k, rfl, _⟩, g1⟩ := h.cons_inv
  obtain ⟨_, _, rfl, ⟨a, rfl, ha⟩, g2⟩ := g1.cons_inv
  obtain ⟨_, _, rfl, ⟨b, rfl, hb⟩, g3⟩ := g2.cons_inv
  obtain ⟨_, _, rfl, ⟨n, rfl, _⟩, g4⟩ := g3.cons_inv
  obtain rfl := g4.nil_inv
  exact ⟨⟨k, a, b, n⟩, rfl, by simpa using ha, by simpa using hb⟩
theorem head_of_cellsZ {cs : List Value} (h : Rel headCellsZ cs) : ∃ p : Hd, cs = p.cells ∧ p.1.length ≤ reachBytes ∧ p.2.length ≤ reachBytes := by
  obtain ⟨_, _, rfl, ⟨a, rfl, ha⟩, g5⟩ := h.cons_inv
  obtain ⟨_, _, rfl, ⟨b, rfl, hb⟩, g6⟩ := g5.cons_inv
  obtain rfl := g6.nil_inv
  exact ⟨(a, b), rfl, by simpa using ha, by simpa using hb⟩
theorem ops_ofZ {w : World} {v : Value} (h : pSlice w 4 opCellsZ v) : ∃ (L : List Ox) (A : Option Addr) (cap : Nat), v = .slice A L.length cap ∧ SlR w 4 (.slice A L.length cap) (L.map Ox.cells) ∧ ∀ m ∈ L, m.a.length ≤ reachBytes ∧ m.b.length ≤ reachBytes := by
  obtain ⟨L, hL, hf⟩ := slr_of (c := 4) Ox.cells (fun o => o.a.length ≤ reachBytes ∧ o.b.length ≤ reachBytes) (fun cs hc => op_of_cellsZ hc) (fun _ => rfl) (by omega) h
  obtain ⟨A, cap, rfl, _⟩ := hL.form
  simp only [List.length_map] at hL ⊢
  exact ⟨L, A, cap, rfl, hL, hf⟩
theorem heads_ofZ {w : World} {v : Value} (h : pSlice w 2 headCellsZ v) : ∃ (L : List Hd) (A : Option Addr) (cap : Nat), v = .slice A L.length cap ∧ SlR w 2 (.slice A L.length cap) (L.map Hd.cells) ∧ ∀ m ∈ L, m.1.length ≤ reachBytes ∧ m.2.length ≤ reachBytes := by
  obtain ⟨L, hL, hf⟩ := slr_of (c := 2) Hd.cells (fun o => o.1.length ≤ reachBytes ∧ o.2.length ≤ reachBytes) (fun cs hc => head_of_cellsZ hc) (fun _ => rfl) (by omega) h
  obtain ⟨A, cap, rfl, _⟩ := hL.form
  simp only [List.length_map] at hL ⊢
  exact ⟨L, A, cap, rfl, hL, hf⟩
theorem frame_of_cellsZ {w : World} {cs : List Value} (h : Rel (frameCellsZ w) cs) : ∃ x : Fm, cs = x.cells ∧ FmR w x ∧ x.c.fits ∧ x.c.bulk := by
  unfold frameCellsZ at h
  obtain ⟨_, _, rfl, ⟨node, rfl, _⟩, g7⟩ := h.cons_inv
  obtain ⟨_, _, rfl, h1, g8⟩ := g7.cons_inv
  obtain ⟨_, _, rfl, ⟨at_, rfl, _⟩, g9⟩ := g8.cons_inv
  obtain ⟨_, _, rfl, ⟨st, rfl, _⟩, g10⟩ := g9.cons_inv
  obtain ⟨_, _, rfl, ⟨body, rfl, hbody⟩, g11⟩ := g10.cons_inv
  obtain ⟨_, _, rfl, ⟨m, rfl, hm⟩, g12⟩ := g11.cons_inv
  obtain ⟨_, _, rfl, ⟨ho, rfl, hho⟩, g13⟩ := g12.cons_inv
  obtain ⟨_, _, rfl, ⟨p, rfl, hp⟩, g14⟩ := g13.cons_inv
  obtain ⟨_, _, rfl, h2, g15⟩ := g14.cons_inv
  obtain ⟨_, _, rfl, ⟨b, rfl, hb⟩, g16⟩ := g15.cons_inv
  obtain ⟨_, _, rfl, ⟨kids, rfl, _⟩, g17⟩ := g16.cons_inv
  obtain ⟨_, _, rfl, ⟨home, rfl, _⟩, g18⟩ := g17.cons_inv
  obtain ⟨_, _, rfl, ⟨hop, rfl, _⟩, g19⟩ := g18.cons_inv
  obtain rfl := g19.nil_inv
  obtain ⟨ops, oa, oc, rfl, hO, hof⟩ := ops_ofZ h1
  obtain ⟨hs, ha, hc, rfl, hH, hhf⟩ := heads_ofZ h2
  exact ⟨⟨⟨node, ops, at_, st, body, m, ho, p, hs, b, kids, home, hop⟩, oa, oc, ha, hc⟩, rfl, ⟨hO, hH⟩, ⟨fun o ho => ⟨rm (hof o ho).1, rm (hof o ho).2⟩, fun h hh => ⟨rm (hhf h hh).1, rm (hhf h hh).2⟩, rm (by simpa using hbody), rm (by simpa using hm), rm (by simpa using hho), rm (by simpa using hp), rm (by simpa using hb)⟩, ⟨hof, fun h hh => (hhf h hh).2, by simpa using hb⟩⟩
theorem frame_of_argZ {w : World} {cs : List Value} (h : Rel (frameCellsZ w) cs) : ∃ x : Fm, (.agg cs.toArray : Value) = x.val ∧ (FmR w x ∧ x.c.fits ∧ x.c.bulk) := by
  obtain ⟨x, rfl, h1, h2⟩ := frame_of_cellsZ h
  exact ⟨x, rfl, h1, h2⟩
structure FlArgZ where
  L : List Fm
  A : Option Addr
  cap : Nat
  hops : Int
def FlArgZ.val (x : FlArgZ) : Value := flv x.A x.L.length x.cap x.hops
structure FlArgZ.ok (w : World) (x : FlArgZ) : Prop where
  rd : FlR w x.A x.cap x.L
  fits : ∀ y ∈ x.L, y.c.fits
  bulk : ∀ y ∈ x.L, y.c.bulk
  nil : x.A = none → x.cap = 0
theorem flow_of_argZ {w : World} {cs : List Value} (h : Rel (flowCellsZ w) cs) : ∃ x : FlArgZ, (.agg cs.toArray : Value) = x.val ∧ x.ok w := by
  unfold flowCellsZ at h
  obtain ⟨v, _, rfl, h1, g20⟩ := h.cons_inv
  obtain ⟨_, _, rfl, ⟨hops, rfl, _⟩, g21⟩ := g20.cons_inv
  obtain rfl := g21.nil_inv
  have hn : ∀ A n cap, v = .slice A n cap → A = none → cap = 0 := by
    rcases h1 with rfl | ⟨a, len, cap, rfl, _⟩
    · intro A n cap h2 _
      simp only [Value.slice.injEq] at h2
      exact h2.2.2.symm
    · intro A n cap' h2 h3
      simp only [Value.slice.injEq] at h2
      rw [h3] at h2
      cases h2.1
  obtain ⟨L, hL, hf⟩ := slr_of (c := 13) Fm.cells (fun x => FmR w x ∧ x.c.fits ∧ x.c.bulk) (fun cs hc => frame_of_cellsZ hc) (fun _ => rfl) (by omega) h1
  obtain ⟨A, cap, rfl, _⟩ := hL.form
  simp only [List.length_map] at hL hn
  exact ⟨⟨L, A, cap, hops⟩, by simp [FlArgZ.val], ⟨hL, fun y hy => (hf y hy).1⟩, fun y hy => (hf y hy).2.1, fun y hy => (hf y hy).2.2, hn _ _ _ rfl⟩

def entryCells : List (Value → Prop) := [pInt .i64, pBool, pStrZ, pStrZ]
theorem flatz_entry (w : World) : FlatZ Try.prog w 94 entryCells :=
  flatz_struct Try.underlying94 (by kernel_rfl) (.cons 1 rfl (by kernel_rfl) (flatz_of (flat_int Try.underlying3)) (.cons 1 rfl (by kernel_rfl) (flatz_of (flat_bool Try.underlying4)) (.cons 1 rfl (by kernel_rfl) (flatz_string Try.underlying9) (.cons 1 rfl (by kernel_rfl) (flatz_string Try.underlying9) (.nil _) rfl rfl) rfl rfl) rfl rfl) rfl rfl)
theorem flatz_entries (w : World) : FlatZ Try.prog w 93 [pSlice w 4 entryCells] := flatz_slice Try.underlying93 (by kernel_rfl) (flatz_entry w)
theorem entry_of_cells {cs : List Value} (h : Rel entryCells cs) : ∃ m : Mv4, cs = m.cells ∧ m.ok ∧ m.v.length ≤ reachBytes := by
  obtain ⟨_, _, rfl, ⟨n, rfl, _⟩, g1⟩ := h.cons_inv
  obtain ⟨_, _, rfl, ⟨s, rfl⟩, g2⟩ := g1.cons_inv
  obtain ⟨_, _, rfl, ⟨k, rfl, hk⟩, g3⟩ := g2.cons_inv
  obtain ⟨_, _, rfl, ⟨v, rfl, hv⟩, g4⟩ := g3.cons_inv
  obtain rfl := g4.nil_inv
  exact ⟨⟨n, s, k, v⟩, rfl, ⟨rm hk, rm hv⟩, hv⟩
theorem entries_of {w : World} {v : Value} (h : pSlice w 4 entryCells v) : ∃ (L : List Mv4) (A : Option Addr) (cap : Nat), v = .slice A L.length cap ∧ SlR w 4 (.slice A L.length cap) (L.map Mv4.cells) ∧ (∀ m ∈ L, m.ok) ∧ ∀ m ∈ L, m.v.length ≤ reachBytes := by
  obtain ⟨L, hL, hf⟩ := slr_of (c := 4) Mv4.cells (fun m => m.ok ∧ m.v.length ≤ reachBytes) (fun cs hc => entry_of_cells hc) (fun _ => rfl) (by omega) h
  obtain ⟨A, cap, rfl, _⟩ := hL.form
  simp only [List.length_map] at hL ⊢
  exact ⟨L, A, cap, rfl, hL, fun m hm => (hf m hm).1, fun m hm => (hf m hm).2⟩
theorem apart37_at (f : FlArgZ) (v1 : Value) (w : World) (hf : f.ok w) (h1 : pSlice w 4 entryCells v1) :
    Calls Try.prog 13 #[f.val, v1] w fun e w' => e = .returned (.bool true) ∧ Below w.heap.size w w' := by
  obtain ⟨E, Ae, ce, rfl, hS, hE, hEv⟩ := entries_of h1
  exact apart37 f.A f.cap f.L.length f.L f.hops Ae ce E w hf.rd rfl hf.fits hf.bulk hS hE hEv
end Go.Proofs.Ythbpcdoddcacdaa
