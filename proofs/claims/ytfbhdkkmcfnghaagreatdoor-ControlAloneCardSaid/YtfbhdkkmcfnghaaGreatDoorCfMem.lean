/- Rules in memory. No condition. -/
import Derived.Test.YtfbhdkkmcfnghaaGreatDoorCfSpec
import Derived.Test.YtfbhdkkmcfnghaaGreatDoorPdErr
namespace Go.Proofs.YtfbhdkkmcfnghaaGreatDoor
open Go.RowKit
set_option linter.unusedVariables false

/-- A rule, and where its predicates lie. -/
structure Rm where
  r : Ru
  A : Option Addr
  cap : Nat
def Rm.cells (m : Rm) : List Value := [.int .i64 m.r.rank, .slice m.A m.r.ps.length m.cap, .string (bs m.r.tg), .int .i64 m.r.ap, .int .i64 m.r.st, .int .i64 m.r.dp, .int .i64 m.r.dt, .int .i64 m.r.mp, .string (bs m.r.mi), .int .i64 m.r.sm]
theorem Rm.cells_len (m : Rm) : m.cells.length = 10 := rfl
theorem Rm.one (m : Rm) : ∀ u ∈ m.cells, u.oneCell' = true := by
  intro u hu
  simp [Rm.cells] at hu
  rcases hu with rfl | rfl | rfl | rfl | rfl | rfl | rfl | rfl | rfl | rfl <;> rfl
theorem Pd.one (p : Pd) : ∀ u ∈ p.cells, u.oneCell' = true := by
  intro u hu
  simp [Pd.cells] at hu
  rcases hu with rfl | rfl | rfl <;> rfl
/-- A rule that can be read. -/
structure RmR (w : World) (m : Rm) : Prop where
  row : SlR w 3 (.slice m.A m.r.ps.length m.cap) (m.r.ps.map Pd.cells)
  fits : ∀ p ∈ m.r.ps, p.fits
  tg : m.r.tg.length ≤ 140737488355328
  mi : m.r.mi.length ≤ 140737488355328
theorem RmR.keep {w w' : World} {m : Rm} (h : RmR w m) (hb : Below w.heap.size w w') : RmR w' m := ⟨h.row.keep hb, h.fits, h.tg, h.mi⟩
/-- Rules that can be read. -/
structure RsR (w : World) (A : Option Addr) (cap : Nat) (R : List Rm) : Prop where
  row : SlR w 10 (.slice A R.length cap) (R.map Rm.cells)
  each : ∀ m ∈ R, RmR w m
theorem RsR.keep {w w' : World} {A : Option Addr} {cap : Nat} {R : List Rm} (h : RsR w A cap R) (hb : Below w.heap.size w w') : RsR w' A cap R := ⟨h.row.keep hb, fun m hm => (h.each m hm).keep hb⟩
theorem pd_at {w : World} {b off n cap k : Nat} {L : List Pd} (h : SlR w 3 (.slice (some ⟨b, off, none⟩) n cap) (L.map Pd.cells)) (hk : k < L.length) : w.cell? ⟨b, off + k * 3, none⟩ = some (.int .i64 L[k].k) ∧ w.cell? ⟨b, off + k * 3 + 1, none⟩ = some (.string (bs L[k].n)) ∧ w.cell? ⟨b, off + k * 3 + 2, none⟩ = some (.string (bs L[k].v)) := by
  obtain ⟨hb, hc⟩ := h.cells (i := k) (x := L[k].cells) (by rw [List.getElem?_map, List.getElem?_eq_getElem hk]; rfl)
  exact ⟨hc 0 _ rfl, hc 1 _ rfl, hc 2 _ rfl⟩
theorem rm_at {w : World} {b off n cap k : Nat} {R : List Rm} (h : SlR w 10 (.slice (some ⟨b, off, none⟩) n cap) (R.map Rm.cells)) (hk : k < R.length) : b < w.heap.size ∧ w.rangeAt b (off + k * 10) R[k].cells := by
  obtain ⟨hb, hc⟩ := h.cells (i := k) (x := R[k].cells) (by rw [List.getElem?_map, List.getElem?_eq_getElem hk]; rfl)
  exact ⟨hb, fun j v hj => hc j v hj⟩
end Go.Proofs.YtfbhdkkmcfnghaaGreatDoor
