/- Walk of spanrec.Read. Condition: the text is no longer than an int can say. -/
import Derived.Test.YtkhepehgafijfaaSpanRead
import Derived.RegionTactic
import Derived.ChangeAlike
namespace Go.Proofs.Ytkhepehgafijfaa
open Go.RowKit

/-- What is read of bytes. -/
def readSpan (l : List UInt8) (x : Int) : Sp × Int × Nat :=
  if x < 0 then (⟨0, 0, 0, 0, [], 0, 0, 0, false, 0, 0⟩, 0, 2)
  else if (readRun l x).2.2 = 0 then readRun l x else (⟨0, 0, 0, 0, [], 0, 0, 0, false, 0, 0⟩, 0, (readRun l x).2.2)

set_option maxHeartbeats 400000 in
set_option maxRecDepth 100000 in
/-- What Read hands back, out of the block that holds the span. -/
theorem read_results (W : World) (g : Nat) (s : Sp) (a : Int) (b : Int) (tmps : Array Value) (hH : Held W g [.int .u64 (s.hi : Int), .int .u64 (s.lo : Int), .int .u64 (s.id : Int), .int .u64 (s.up : Int), .string (bs s.name), .int .i64 s.st, .int .i64 s.sq, .int .i64 s.kd, .bool s.sh, .int .i64 s.t0, .int .i64 s.t1])
    (h4 : tmps[4]?.getD undef = .pointer (some ⟨g, 0, none⟩)) (h5 : tmps[5]?.getD undef = .int .i64 a) (h6 : tmps[6]?.getD undef = .int .i64 b) :
    (results Try.f57 tmps).run Try.prog W = .ok (.tuple #[s.val, .int .i64 a, .int .i64 b]) W := by
  have c0 := hH.cell (i := 0) rfl
  have c1 := hH.cell (i := 1) rfl
  have c2 := hH.cell (i := 2) rfl
  have c3 := hH.cell (i := 3) rfl
  have c4 := hH.cell (i := 4) rfl
  have c5 := hH.cell (i := 5) rfl
  have c6 := hH.cell (i := 6) rfl
  have c7 := hH.cell (i := 7) rfl
  have c8 := hH.cell (i := 8) rfl
  have c9 := hH.cell (i := 9) rfl
  have c10 := hH.cell (i := 10) rfl
  simp [results, Try.results57, go_sem, Sp.val, h4, h5, h6, c0, c1, c2, c3, c4, c5, c6, c7, c8, c9, c10]

set_option maxHeartbeats 400000 in
set_option maxRecDepth 100000 in
theorem readSpan_any (l : List UInt8) (x : Int) (w : World) (hl : l.length ≤ 9223372036854775807) (hx2 : x ≤ 9223372036854775807) :
    Calls Try.prog 57 #[.string (bs l), .int .i64 x] w fun e w' => e = .returned (.tuple #[(readSpan l x).1.val, .int .i64 (readSpan l x).2.1, .int .i64 ((readSpan l x).2.2 : Int)]) ∧ Below w.heap.size w w' := by
  by_cases hx : x < 0
  · have HR : Hid (readSpan l x = (⟨0, 0, 0, 0, [], 0, 0, 0, false, 0, 0⟩, 0, 2)) := Lib.hid (by simp [readSpan, hx])
    go_enter Try.func57, Try.ntmps57
    go_wp2_with fail
    refine bodyPost_ret (v := .tuple #[(Sp.mk 0 0 0 0 [] 0 0 0 false 0 0).val, .int .i64 0, .int .i64 2]) (by simp [results, Try.results57, go_sem, Sp.val]; rfl) rfl ⟨?_, ?_⟩
    · rw [HR.out]; rfl
    · exact (Below.refl _ _).alloc (Nat.le_refl _) _
  · obtain ⟨s, a, b, hr⟩ : ∃ s a b, readRun l x = (s, a, b) := ⟨_, _, _, rfl⟩
    have HR := Lib.hid hr
    have hx' := hx
    go_enter Try.func57, Try.ntmps57
    go_wp2_with fail
    have hH : Held (((w.alloc (.cells #[.int .u64 0, .int .u64 0, .int .u64 0, .int .u64 0, .string ⟨#[]⟩, .int .i64 0, .int .i64 0, .int .i64 0, .bool false, .int .i64 0, .int .i64 0] 46))).alloc (.cells #[.string (bs l), .int .i64 x, .int .i64 0, .int .u64 0, .int .u64 0, .int .u64 0, .int .u64 0, .string ⟨#[]⟩, .int .i64 0, .int .i64 0, .int .i64 0, .bool false, .int .i64 0, .int .i64 0] 92)) (w.heap.size + 1) [.string (bs l), .int .i64 x, .int .i64 ((0 : Nat) : Int), .int .u64 0, .int .u64 0, .int .u64 0, .int .u64 0, .string ⟨#[]⟩, .int .i64 0, .int .i64 0, .int .i64 0, .bool false, .int .i64 0, .int .i64 0] := by
      have := Held.made (w.alloc (.cells #[.int .u64 0, .int .u64 0, .int .u64 0, .int .u64 0, .string ⟨#[]⟩, .int .i64 0, .int .i64 0, .int .i64 0, .bool false, .int .i64 0, .int .i64 0] 46)) [.string (bs l), .int .i64 x, .int .i64 ((0 : Nat) : Int), .int .u64 0, .int .u64 0, .int .u64 0, .int .u64 0, .string ⟨#[]⟩, .int .i64 0, .int .i64 0, .int .i64 0, .bool false, .int .i64 0, .int .i64 0] 92
      simpa using this
    refine (read_any _ l x _ hl (by omega) hx2 hH).mono ?_
    rw [HR.out]
    rintro e w1 ⟨rfl, hH1, ho1⟩
    have hZ : Held w1 w.heap.size [.int .u64 0, .int .u64 0, .int .u64 0, .int .u64 0, .string ⟨#[]⟩, .int .i64 0, .int .i64 0, .int .i64 0, .bool false, .int .i64 0, .int .i64 0] := by
      have := Held.made w [.int .u64 0, .int .u64 0, .int .u64 0, .int .u64 0, .string ⟨#[]⟩, .int .i64 0, .int .i64 0, .int .i64 0, .bool false, .int .i64 0, .int .i64 0] 46
      obtain ⟨t, ht⟩ := this
      exact ⟨t, (ho1.block w.heap.size (by simp; omega) (by simp)).trans ((Below.heap_alloc _ _ _ (by simp)).trans ht)⟩
    have hsz : w.heap.size + 1 < w1.heap.size := hH1.lt
    have z0 := hZ.cell (i := 0) rfl
    have y0 := hZ.free 0
    have z1 := hZ.cell (i := 1) rfl
    have y1 := hZ.free 1
    have z2 := hZ.cell (i := 2) rfl
    have y2 := hZ.free 2
    have z3 := hZ.cell (i := 3) rfl
    have y3 := hZ.free 3
    have z4 := hZ.cell (i := 4) rfl
    have y4 := hZ.free 4
    have z5 := hZ.cell (i := 5) rfl
    have y5 := hZ.free 5
    have z6 := hZ.cell (i := 6) rfl
    have y6 := hZ.free 6
    have z7 := hZ.cell (i := 7) rfl
    have y7 := hZ.free 7
    have z8 := hZ.cell (i := 8) rfl
    have y8 := hZ.free 8
    have z9 := hZ.cell (i := 9) rfl
    have y9 := hZ.free 9
    have z10 := hZ.cell (i := 10) rfl
    have y10 := hZ.free 10
    have r0 := hH1.cell (i := 0) rfl
    have r1 := hH1.cell (i := 1) rfl
    have r2 := hH1.cell (i := 2) rfl
    have r3 := hH1.cell (i := 3) rfl
    have r4 := hH1.cell (i := 4) rfl
    have r5 := hH1.cell (i := 5) rfl
    have r6 := hH1.cell (i := 6) rfl
    have r7 := hH1.cell (i := 7) rfl
    have r8 := hH1.cell (i := 8) rfl
    have r9 := hH1.cell (i := 9) rfl
    have r10 := hH1.cell (i := 10) rfl
    have r11 := hH1.cell (i := 11) rfl
    have r12 := hH1.cell (i := 12) rfl
    have r13 := hH1.cell (i := 13) rfl
    have hbase : Below w.heap.size w w1 := (((Below.refl _ _).alloc (Nat.le_refl _) _).alloc (by simp) _).trans (ho1.below (by omega) (by simp; omega))
    by_cases hb : b = 0
    · subst hb
      go_wp2_with fail
      have HRS : Hid (readSpan l x = (s, a, 0)) := Lib.hid (by simp only [readSpan]; rw [if_neg (by omega), HR.out]; rfl)
      go_region
      go_wp2_with fail
      have HF := (((((((((((hZ.set 0 (.int .u64 (s.hi : Int))).set 1 (.int .u64 (s.lo : Int))).set 2 (.int .u64 (s.id : Int))).set 3 (.int .u64 (s.up : Int))).set 4 (.string (bs s.name))).set 5 (.int .i64 s.st)).set 6 (.int .i64 s.sq)).set 7 (.int .i64 s.kd)).set 8 (.bool s.sh)).set 9 (.int .i64 s.t0)).set 10 (.int .i64 s.t1))
      simp only [List.set] at HF
      refine bodyPost_ret (read_results _ w.heap.size s a 0 _ HF.drew ?_ ?_ ?_) ?_ ⟨?_, ?_⟩
      · rfl
      · rfl
      · rfl
      · rfl
      · rw [HRS.out]; rfl
      · exact (((((((((((hbase.setCell (p := ⟨w.heap.size, 0, none⟩) (Nat.le_refl _) (.int .u64 (s.hi : Int))).setCell (p := ⟨w.heap.size, 1, none⟩) (Nat.le_refl _) (.int .u64 (s.lo : Int))).setCell (p := ⟨w.heap.size, 2, none⟩) (Nat.le_refl _) (.int .u64 (s.id : Int))).setCell (p := ⟨w.heap.size, 3, none⟩) (Nat.le_refl _) (.int .u64 (s.up : Int))).setCell (p := ⟨w.heap.size, 4, none⟩) (Nat.le_refl _) (.string (bs s.name))).setCell (p := ⟨w.heap.size, 5, none⟩) (Nat.le_refl _) (.int .i64 s.st)).setCell (p := ⟨w.heap.size, 6, none⟩) (Nat.le_refl _) (.int .i64 s.sq)).setCell (p := ⟨w.heap.size, 7, none⟩) (Nat.le_refl _) (.int .i64 s.kd)).setCell (p := ⟨w.heap.size, 8, none⟩) (Nat.le_refl _) (.bool s.sh)).setCell (p := ⟨w.heap.size, 9, none⟩) (Nat.le_refl _) (.int .i64 s.t0)).setCell (p := ⟨w.heap.size, 10, none⟩) (Nat.le_refl _) (.int .i64 s.t1)).drew
    · have hbn : (((b : Nat) : Int) != 0) = true := by simp; omega
      go_wp2_with fail
      have HRS : Hid (readSpan l x = (⟨0, 0, 0, 0, [], 0, 0, 0, false, 0, 0⟩, 0, b)) := Lib.hid (by simp only [readSpan]; rw [if_neg (by omega), HR.out]; simp [hb])
      go_region
      go_wp2_with fail
      have HF := (((((((((((hZ.set 0 (.int .u64 0)).set 1 (.int .u64 0)).set 2 (.int .u64 0)).set 3 (.int .u64 0)).set 4 (.string ⟨#[]⟩)).set 5 (.int .i64 0)).set 6 (.int .i64 0)).set 7 (.int .i64 0)).set 8 (.bool false)).set 9 (.int .i64 0)).set 10 (.int .i64 0))
      simp only [List.set] at HF
      refine bodyPost_ret (read_results _ w.heap.size (Sp.mk 0 0 0 0 [] 0 0 0 false 0 0) 0 b _ HF.drew ?_ ?_ ?_) ?_ ⟨?_, ?_⟩
      · rfl
      · rfl
      · rfl
      · rfl
      · rw [HRS.out]
      · exact (((((((((((hbase.setCell (p := ⟨w.heap.size, 0, none⟩) (Nat.le_refl _) (.int .u64 0)).setCell (p := ⟨w.heap.size, 1, none⟩) (Nat.le_refl _) (.int .u64 0)).setCell (p := ⟨w.heap.size, 2, none⟩) (Nat.le_refl _) (.int .u64 0)).setCell (p := ⟨w.heap.size, 3, none⟩) (Nat.le_refl _) (.int .u64 0)).setCell (p := ⟨w.heap.size, 4, none⟩) (Nat.le_refl _) (.string ⟨#[]⟩)).setCell (p := ⟨w.heap.size, 5, none⟩) (Nat.le_refl _) (.int .i64 0)).setCell (p := ⟨w.heap.size, 6, none⟩) (Nat.le_refl _) (.int .i64 0)).setCell (p := ⟨w.heap.size, 7, none⟩) (Nat.le_refl _) (.int .i64 0)).setCell (p := ⟨w.heap.size, 8, none⟩) (Nat.le_refl _) (.bool false)).setCell (p := ⟨w.heap.size, 9, none⟩) (Nat.le_refl _) (.int .i64 0)).setCell (p := ⟨w.heap.size, 10, none⟩) (Nat.le_refl _) (.int .i64 0)).drew
end Go.Proofs.Ytkhepehgafijfaa
