/- A span, its value, its cells, and where they stand in a slice. No condition. -/
import Derived.Test.YthbpcdoddcacdaaSlice
namespace Go.Proofs.Ythbpcdoddcacdaa
open Go.RowKit

/-- A span. -/
structure Sp where
  (hi lo id up : Nat)
  name : List UInt8
  (st sq kd : Int)
  sh : Bool
  (t0 t1 : Int)

def Sp.val (s : Sp) : Value := (.agg #[.int .u64 (s.hi : Int), .int .u64 (s.lo : Int), .int .u64 (s.id : Int), .int .u64 (s.up : Int), .string (bs s.name), .int .i64 s.st, .int .i64 s.sq, .int .i64 s.kd, .bool s.sh, .int .i64 s.t0, .int .i64 s.t1])
/-- Its fields fit. -/
structure Sp.fits (s : Sp) : Prop where
  hi : s.hi < 18446744073709551616
  lo : s.lo < 18446744073709551616
  id : s.id < 18446744073709551616
  up : s.up < 18446744073709551616
  name : s.name.length ≤ 9223372036854775807

/-- A span's cells. -/
def Sp.cells (s : Sp) : List Value := [.int .u64 (s.hi : Int), .int .u64 (s.lo : Int), .int .u64 (s.id : Int), .int .u64 (s.up : Int), .string (bs s.name), .int .i64 s.st, .int .i64 s.sq, .int .i64 s.kd, .bool s.sh, .int .i64 s.t0, .int .i64 s.t1]
theorem Sp.cells_len (s : Sp) : s.cells.length = 11 := rfl

/-- A span in a slice: its eleven cells, as the walk asks for them. -/
structure SpanAt (w : World) (b o : Nat) (s : Sp) : Prop where
  lt : b < w.heap.size
  c0 : w.cell? ⟨b, o, none⟩ = some (.int .u64 (s.hi : Int))
  c1 : w.cell? ⟨b, o + 1, none⟩ = some (.int .u64 (s.lo : Int))
  c2 : w.cell? ⟨b, o + 2, none⟩ = some (.int .u64 (s.id : Int))
  c3 : w.cell? ⟨b, o + 3, none⟩ = some (.int .u64 (s.up : Int))
  c4 : w.cell? ⟨b, o + 4, none⟩ = some (.string (bs s.name))
  c5 : w.cell? ⟨b, o + 5, none⟩ = some (.int .i64 s.st)
  c6 : w.cell? ⟨b, o + 6, none⟩ = some (.int .i64 s.sq)
  c7 : w.cell? ⟨b, o + 7, none⟩ = some (.int .i64 s.kd)
  c8 : w.cell? ⟨b, o + 8, none⟩ = some (.bool s.sh)
  c9 : w.cell? ⟨b, o + 9, none⟩ = some (.int .i64 s.t0)
  c10 : w.cell? ⟨b, o + 10, none⟩ = some (.int .i64 s.t1)
theorem span_at {w : World} {b off n cap k : Nat} {L : List Sp} (h : SlR w 11 (.slice (some ⟨b, off, none⟩) n cap) (L.map Sp.cells)) (hk : k < L.length) : SpanAt w b (off + k * 11) L[k] := by
  have hi : (L.map Sp.cells)[k]? = some (L[k].cells) := by rw [List.getElem?_map, List.getElem?_eq_getElem hk]; rfl
  obtain ⟨hb, hc⟩ := h.cells hi
  exact ⟨hb, hc 0 _ rfl, hc 1 _ rfl, hc 2 _ rfl, hc 3 _ rfl, hc 4 _ rfl, hc 5 _ rfl, hc 6 _ rfl, hc 7 _ rfl, hc 8 _ rfl, hc 9 _ rfl, hc 10 _ rfl⟩

end Go.Proofs.Ythbpcdoddcacdaa
