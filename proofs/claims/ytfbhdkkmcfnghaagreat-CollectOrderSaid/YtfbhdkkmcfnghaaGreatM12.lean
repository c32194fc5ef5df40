/- Walk of spanrec.Read. Condition: the text is no longer than an int can say.; Walks of the reference's Number, fixed and small. Condition: the text is no longer than an int can say. -/
import Derived.Test.YtfbhdkkmcfnghaaGreatM11
import Derived.RegionTactic
import Derived.ChangeAlike
import Derived.Test.YtfbhdkkmcfnghaaGreatM09
import Derived.Test.YtfbhdkkmcfnghaaGreatM10

section
namespace Go.Proofs.YtfbhdkkmcfnghaaGreat
open Go.RowKit

/-- What is read of bytes. -/
def readSpan (l : List UInt8) (x : Int) : Sp × Int × Nat :=
  if x < 0 then (⟨0, 0, 0, 0, [], 0, 0, 0, false, 0, 0⟩, 0, 2)
  else if (readRun l x).2.2 = 0 then readRun l x else (⟨0, 0, 0, 0, [], 0, 0, 0, false, 0, 0⟩, 0, (readRun l x).2.2)

set_option maxHeartbeats 400000 in
set_option maxRecDepth 100000 in
/-- What Read hands back, out of the block that holds the span. -/
theorem read_results (W : World) (g : Nat) (s : Sp) (a : Int) (b : Int) (tmps : Array Value) (hH : Held W g [.int .u64 (s.hi : Int), .int .u64 (s.lo : Int), .int .u64 (s.id : Int), .int .u64 (s.up : Int), .string (bs s.name), .int .i64 s.st, .int .i64 s.sq, .int .i64 s.kd, .bool s.sh, .int .i64 s.t0, .int .i64 s.t1])
    (h4 : tmps[4]?.getD undef = .pointer (some ⟨g, 0, none⟩)) (h5 : tmps[5]?.getD undef = .int .i64 a) (h6 : tmps[6]?.getD undef = .int .i64 b) :
    (results Tryz.f86 tmps).run Tryz.prog W = .ok (.tuple #[s.val, .int .i64 a, .int .i64 b]) W := by
  have c0 := hH.cell (i := 0) rfl
  have c1 := hH.cell (i := 1) rfl
  have c2 := hH.cell (i := 2) rfl
  have c3 := hH.cell (i := 3) rfl
  have c4 := hH.cell (i := 4) rfl
  have c5 := hH.cell (i := 5) rfl
  have c6 := hH.cell (i := 6) rfl
  have c7 := hH.cell (i := 7) rfl
  have c8 := hH.cell (i := 8) rfl
  have c9 := hH.cell (i := 9) rfl
  have c10 := hH.cell (i := 10) rfl
  simp [results, Tryz.results86, go_sem, Sp.val, h4, h5, h6, c0, c1, c2, c3, c4, c5, c6, c7, c8, c9, c10]

set_option maxHeartbeats 400000 in
set_option maxRecDepth 100000 in
theorem readSpan_any (l : List UInt8) (x : Int) (w : World) (hl : l.length ≤ 9223372036854775807) (hx2 : x ≤ 9223372036854775807) :
    Calls Tryz.prog 86 #[.string (bs l), .int .i64 x] w fun e w' => e = .returned (.tuple #[(readSpan l x).1.val, .int .i64 (readSpan l x).2.1, .int .i64 ((readSpan l x).2.2 : Int)]) ∧ Below w.heap.size w w' := by
  by_cases hx : x < 0
  · have HR : Hid (readSpan l x = (⟨0, 0, 0, 0, [], 0, 0, 0, false, 0, 0⟩, 0, 2)) := Lib.hid (by simp [readSpan, hx])
    go_enter Tryz.func86, Tryz.ntmps86
    go_wp2_with fail
    refine bodyPost_ret (v := .tuple #[(Sp.mk 0 0 0 0 [] 0 0 0 false 0 0).val, .int .i64 0, .int .i64 2]) (by simp [results, Tryz.results86, go_sem, Sp.val]; rfl) rfl ⟨?_, ?_⟩
    · rw [HR.out]; rfl
    · exact (Below.refl _ _).alloc (Nat.le_refl _) _
  · obtain ⟨s, a, b, hr⟩ : ∃ s a b, readRun l x = (s, a, b) := ⟨_, _, _, rfl⟩
    have HR := Lib.hid hr
    have hx' := hx
    go_enter Tryz.func86, Tryz.ntmps86
    go_wp2_with fail
    have hH : Held (((w.alloc (.cells #[.int .u64 0, .int .u64 0, .int .u64 0, .int .u64 0, .string ⟨#[]⟩, .int .i64 0, .int .i64 0, .int .i64 0, .bool false, .int .i64 0, .int .i64 0] 64))).alloc (.cells #[.string (bs l), .int .i64 x, .int .i64 0, .int .u64 0, .int .u64 0, .int .u64 0, .int .u64 0, .string ⟨#[]⟩, .int .i64 0, .int .i64 0, .int .i64 0, .bool false, .int .i64 0, .int .i64 0] 167)) (w.heap.size + 1) [.string (bs l), .int .i64 x, .int .i64 ((0 : Nat) : Int), .int .u64 0, .int .u64 0, .int .u64 0, .int .u64 0, .string ⟨#[]⟩, .int .i64 0, .int .i64 0, .int .i64 0, .bool false, .int .i64 0, .int .i64 0] := by
      have := Held.made (w.alloc (.cells #[.int .u64 0, .int .u64 0, .int .u64 0, .int .u64 0, .string ⟨#[]⟩, .int .i64 0, .int .i64 0, .int .i64 0, .bool false, .int .i64 0, .int .i64 0] 64)) [.string (bs l), .int .i64 x, .int .i64 ((0 : Nat) : Int), .int .u64 0, .int .u64 0, .int .u64 0, .int .u64 0, .string ⟨#[]⟩, .int .i64 0, .int .i64 0, .int .i64 0, .bool false, .int .i64 0, .int .i64 0] 167
      simpa using this
    refine (read_any _ l x _ hl (by omega) hx2 hH).mono ?_
    rw [HR.out]
    rintro e w1 ⟨rfl, hH1, ho1⟩
    have hZ : Held w1 w.heap.size [.int .u64 0, .int .u64 0, .int .u64 0, .int .u64 0, .string ⟨#[]⟩, .int .i64 0, .int .i64 0, .int .i64 0, .bool false, .int .i64 0, .int .i64 0] := by
      have := Held.made w [.int .u64 0, .int .u64 0, .int .u64 0, .int .u64 0, .string ⟨#[]⟩, .int .i64 0, .int .i64 0, .int .i64 0, .bool false, .int .i64 0, .int .i64 0] 64
      obtain ⟨t, ht⟩ := this
      exact ⟨t, (ho1.block w.heap.size (by simp; omega) (by simp)).trans ((Below.heap_alloc _ _ _ (by simp)).trans ht)⟩
    have hsz : w.heap.size + 1 < w1.heap.size := hH1.lt
    have z0 := hZ.cell (i := 0) rfl
    have y0 := hZ.free 0
    have z1 := hZ.cell (i := 1) rfl
    have y1 := hZ.free 1
    have z2 := hZ.cell (i := 2) rfl
    have y2 := hZ.free 2
    have z3 := hZ.cell (i := 3) rfl
    have y3 := hZ.free 3
    have z4 := hZ.cell (i := 4) rfl
    have y4 := hZ.free 4
    have z5 := hZ.cell (i := 5) rfl
    have y5 := hZ.free 5
    have z6 := hZ.cell (i := 6) rfl
    have y6 := hZ.free 6
    have z7 := hZ.cell (i := 7) rfl
    have y7 := hZ.free 7
    have z8 := hZ.cell (i := 8) rfl
    have y8 := hZ.free 8
    have z9 := hZ.cell (i := 9) rfl
    have y9 := hZ.free 9
    have z10 := hZ.cell (i := 10) rfl
    have y10 := hZ.free 10
    have r0 := hH1.cell (i := 0) rfl
    have r1 := hH1.cell (i := 1) rfl
    have r2 := hH1.cell (i := 2) rfl
    have r3 := hH1.cell (i := 3) rfl
    have r4 := hH1.cell (i := 4) rfl
    have r5 := hH1.cell (i := 5) rfl
    have r6 := hH1.cell (i := 6) rfl
    have r7 := hH1.cell (i := 7) rfl
    have r8 := hH1.cell (i := 8) rfl
    have r9 := hH1.cell (i := 9) rfl
    have r10 := hH1.cell (i := 10) rfl
    have r11 := hH1.cell (i := 11) rfl
    have r12 := hH1.cell (i := 12) rfl
    have r13 := hH1.cell (i := 13) rfl
    have hbase : Below w.heap.size w w1 := (((Below.refl _ _).alloc (Nat.le_refl _) _).alloc (by simp) _).trans (ho1.below (by omega) (by simp; omega))
    by_cases hb : b = 0
    · subst hb
      go_wp2_with fail
      have HRS : Hid (readSpan l x = (s, a, 0)) := Lib.hid (by simp only [readSpan]; rw [if_neg (by omega), HR.out]; rfl)
      go_region
      go_wp2_with fail
      have HF := (((((((((((hZ.set 0 (.int .u64 (s.hi : Int))).set 1 (.int .u64 (s.lo : Int))).set 2 (.int .u64 (s.id : Int))).set 3 (.int .u64 (s.up : Int))).set 4 (.string (bs s.name))).set 5 (.int .i64 s.st)).set 6 (.int .i64 s.sq)).set 7 (.int .i64 s.kd)).set 8 (.bool s.sh)).set 9 (.int .i64 s.t0)).set 10 (.int .i64 s.t1))
      simp only [List.set] at HF
      refine bodyPost_ret (read_results _ w.heap.size s a 0 _ HF.drew ?_ ?_ ?_) ?_ ⟨?_, ?_⟩
      · rfl
      · rfl
      · rfl
      · rfl
      · rw [HRS.out]; rfl
      · exact (((((((((((hbase.setCell (p := ⟨w.heap.size, 0, none⟩) (Nat.le_refl _) (.int .u64 (s.hi : Int))).setCell (p := ⟨w.heap.size, 1, none⟩) (Nat.le_refl _) (.int .u64 (s.lo : Int))).setCell (p := ⟨w.heap.size, 2, none⟩) (Nat.le_refl _) (.int .u64 (s.id : Int))).setCell (p := ⟨w.heap.size, 3, none⟩) (Nat.le_refl _) (.int .u64 (s.up : Int))).setCell (p := ⟨w.heap.size, 4, none⟩) (Nat.le_refl _) (.string (bs s.name))).setCell (p := ⟨w.heap.size, 5, none⟩) (Nat.le_refl _) (.int .i64 s.st)).setCell (p := ⟨w.heap.size, 6, none⟩) (Nat.le_refl _) (.int .i64 s.sq)).setCell (p := ⟨w.heap.size, 7, none⟩) (Nat.le_refl _) (.int .i64 s.kd)).setCell (p := ⟨w.heap.size, 8, none⟩) (Nat.le_refl _) (.bool s.sh)).setCell (p := ⟨w.heap.size, 9, none⟩) (Nat.le_refl _) (.int .i64 s.t0)).setCell (p := ⟨w.heap.size, 10, none⟩) (Nat.le_refl _) (.int .i64 s.t1)).drew
    · have hbn : (((b : Nat) : Int) != 0) = true := by simp; omega
      go_wp2_with fail
      have HRS : Hid (readSpan l x = (⟨0, 0, 0, 0, [], 0, 0, 0, false, 0, 0⟩, 0, b)) := Lib.hid (by simp only [readSpan]; rw [if_neg (by omega), HR.out]; simp [hb])
      go_region
      go_wp2_with fail
      have HF := (((((((((((hZ.set 0 (.int .u64 0)).set 1 (.int .u64 0)).set 2 (.int .u64 0)).set 3 (.int .u64 0)).set 4 (.string ⟨#[]⟩)).set 5 (.int .i64 0)).set 6 (.int .i64 0)).set 7 (.int .i64 0)).set 8 (.bool false)).set 9 (.int .i64 0)).set 10 (.int .i64 0))
      simp only [List.set] at HF
      refine bodyPost_ret (read_results _ w.heap.size (Sp.mk 0 0 0 0 [] 0 0 0 false 0 0) 0 b _ HF.drew ?_ ?_ ?_) ?_ ⟨?_, ?_⟩
      · rfl
      · rfl
      · rfl
      · rfl
      · rw [HRS.out]
      · exact (((((((((((hbase.setCell (p := ⟨w.heap.size, 0, none⟩) (Nat.le_refl _) (.int .u64 0)).setCell (p := ⟨w.heap.size, 1, none⟩) (Nat.le_refl _) (.int .u64 0)).setCell (p := ⟨w.heap.size, 2, none⟩) (Nat.le_refl _) (.int .u64 0)).setCell (p := ⟨w.heap.size, 3, none⟩) (Nat.le_refl _) (.int .u64 0)).setCell (p := ⟨w.heap.size, 4, none⟩) (Nat.le_refl _) (.string ⟨#[]⟩)).setCell (p := ⟨w.heap.size, 5, none⟩) (Nat.le_refl _) (.int .i64 0)).setCell (p := ⟨w.heap.size, 6, none⟩) (Nat.le_refl _) (.int .i64 0)).setCell (p := ⟨w.heap.size, 7, none⟩) (Nat.le_refl _) (.int .i64 0)).setCell (p := ⟨w.heap.size, 8, none⟩) (Nat.le_refl _) (.bool false)).setCell (p := ⟨w.heap.size, 9, none⟩) (Nat.le_refl _) (.int .i64 0)).setCell (p := ⟨w.heap.size, 10, none⟩) (Nat.le_refl _) (.int .i64 0)).drew
end Go.Proofs.YtfbhdkkmcfnghaaGreat
end

section
namespace Go.Proofs.YtfbhdkkmcfnghaaGreat
open Go.RowKit

theorem info_u64 : (Tryz.prog.info? 23).map (fun i => (i.zero, i.size, i.bytes)) = some (some (.int .u64 0), 1, 8) := by kernel_rfl
theorem info_intR : (Tryz.prog.info? 3).map (fun i => (i.zero, i.size, i.bytes)) = some (some (.int .i64 0), 1, 8) := by kernel_rfl

/-- A number that is not too great, and the place behind it, or why there is none. -/
def num1 (l : List UInt8) (a : Int) : Nat × Int × Nat :=
  if (Vr.get l a).2.2 ≠ 0 then (0, 0, (Vr.get l a).2.2) else if 1099511627776 < (Vr.get l a).1 then (0, 0, 12) else ((Vr.get l a).1, (Vr.get l a).2.1, 0)

set_option maxHeartbeats 400000 in
set_option maxRecDepth 100000 in
theorem number1_any (l : List UInt8) (a : Int) (w : World) (hl : l.length ≤ 9223372036854775807) (ha2 : a ≤ 9223372036854775807) :
    Calls Tryz.prog 58 #[.string (bs l), .int .i64 a, .int .u64 1099511627776] w fun e w' => e = .returned (.tuple #[.int .i64 ((num1 l a).1 : Int), .int .i64 (num1 l a).2.1, .int .i64 ((num1 l a).2.2 : Int)]) ∧ w' = w := by
  obtain ⟨n, nx, e0, hg⟩ : ∃ n nx e0, Vr.get l a = (n, nx, e0) := ⟨_, _, _, rfl⟩
  have HG := Lib.hid hg
  by_cases he : e0 = 0
  · subst he
    by_cases hm : 1099511627776 < n
    · have HN : Hid (num1 l a = (0, 0, 12)) := Lib.hid (by simp [num1, hg, hm])
      clear hg
      go_enter Tryz.func58, Tryz.ntmps58
      go_wp2_with fail
      refine (refGet_any l a _ hl ha2).mono ?_
      rw [HG.out]
      rintro e w' ⟨rfl, rfl⟩
      go_wp2_with fail
      go_ret3
      exact ⟨by rw [HN.out]; rfl, rfl⟩
    · have HN : Hid (num1 l a = (n, nx, 0)) := Lib.hid (by simp [num1, hg, hm])
      clear hg
      go_enter Tryz.func58, Tryz.ntmps58
      go_wp2_with fail
      refine (refGet_any l a _ hl ha2).mono ?_
      rw [HG.out]
      rintro e w' ⟨rfl, rfl⟩
      go_wp2_with fail
      go_ret3
      exact ⟨by rw [HN.out]; rfl, rfl⟩
  · have HN : Hid (num1 l a = (0, 0, e0)) := Lib.hid (by simp [num1, hg, he])
    have hen : (((e0 : Nat) : Int) != 0) = true := by simp; omega
    clear hg
    go_enter Tryz.func58, Tryz.ntmps58
    go_wp2_with fail
    refine (refGet_any l a _ hl ha2).mono ?_
    rw [HG.out]
    rintro e w' ⟨rfl, rfl⟩
    go_wp2_with fail
    go_ret3
    exact ⟨by rw [HN.out]; rfl, rfl⟩

/-- What a function leaves that answers numbers of its own, and an error. -/
def NumsOf (k : IntKind) (t : TypeId) (w : World) (L : List Nat) (b : Nat) (e : Ending) (w' : World) : Prop :=
  ∃ v, e = .returned (.tuple #[v, .int .i64 (b : Int)]) ∧ NRow k w' w.heap.size t v L ∧ Below w.heap.size w w'
def fixed4 (l : List UInt8) (k : Nat) : List Nat × Nat := if l.length < k + 32 then ([], 5) else ((List.range 4).map fun j => (Oc.get8 l (k + 8 * j)).1, 0)

set_option maxHeartbeats 800000 in
set_option maxRecDepth 100000 in
theorem fixed4_any (l : List UInt8) (x : Int) (k : Nat) (hx : x = k) (w : World) (hl : l.length ≤ 9223372036854775807) (hk : k ≤ l.length) :
    Calls Tryz.prog 99 #[.string (bs l), .int .i64 x] w (NumsOf .u64 23 w (fixed4 l k).1 (fixed4 l k).2) := by
  subst hx
  go_enter Tryz.func99, Tryz.ntmps99
  go_wp2_with fail
  go_loopw [6, 7] (fun v c wr => ∃ i : Nat, c = .int .i64 i ∧ i ≤ 4 ∧ k + 8 * i ≤ l.length ∧ NRow .u64 wr w.heap.size 23 v ((List.range i).map fun j => (Oc.get8 l (k + 8 * j)).1) ∧ Below w.heap.size w wr)
    (fun _ c _ => 4 - (intOf c).toNat)
  case atStart => exact ⟨0, rfl, by omega, by omega, NRow.nil _ _ _ _, Below.refl _ _⟩
  case round =>
    obtain ⟨i, rfl, hi, hki, hown, hbr⟩ := hrel
    by_cases hlt : i < 4
    · by_cases hs : l.length < k + 8 * i + 8
      · have HF : Hid (fixed4 l k = ([], 5)) := Lib.hid (by simp only [fixed4]; rw [if_pos (by omega)])
        have HG : Hid (Oc.get8 l (k + 8 * i) = (0, 5)) := Lib.hid (by simp [Oc.get8, hs])
        go_wp2_with fail
        refine (refGet8_any l _ (k + 8 * i) (by omega) _ hl (by omega)).mono ?_
        rw [HG.out]
        rintro e w' ⟨rfl, rfl⟩
        go_wp2_with fail
        go_ret2
        rw [HF.out]
        exact ⟨_, rfl, NRow.nil _ _ _ _, hbr⟩
      · obtain ⟨n, hn⟩ : ∃ n, (Oc.get8 l (k + 8 * i)).1 = n := ⟨_, rfl⟩
        have HG : Hid (Oc.get8 l (k + 8 * i) = (n, 0)) := Lib.hid (Prod.ext_iff.2 ⟨hn, by simp [Oc.get8, hs]⟩)
        have HN : Hid ((List.range (i + 1)).map (fun j => (Oc.get8 l (k + 8 * j)).1) = (List.range i).map (fun j => (Oc.get8 l (k + 8 * j)).1) ++ [n]) := Lib.hid (by simp [List.range_succ, hn])
        have hlen : ((List.range i).map fun j => (Oc.get8 l (k + 8 * j)).1).length = i := by simp
        have HLN := Lib.hid hlen
        clear hn hlen
        generalize ((List.range i).map fun j => (Oc.get8 l (k + 8 * j)).1) = L at hown HN HLN
        go_wp2_with fail
        refine (refGet8_any l _ (k + 8 * i) (by omega) _ hl (by omega)).mono ?_
        rw [HG.out]
        rintro e w' ⟨rfl, rfl⟩
        have hb8 : (L.length + 1) * 8 ≤ 140737488355328 := by have := HLN.out; omega
        go_wp2_with (at_builtin; refine wpList_append_num hown n rfl rfl (.tmp 26) (.tmp 28) 137 rfl Tryz.underlying137 8 info_u64 rfl rfl hb8 (by omega) hbr.size ?_; intro v' w1 hown1 _ hb1 hs1)
        exact ⟨⟨i + 1, rfl, by omega, by omega, by rw [HN.out]; exact hown1, hbr.trans hb1⟩, by simp [intOf]; omega⟩
    · obtain rfl : i = 4 := by omega
      have HF : Hid (fixed4 l k = ((List.range 4).map (fun j => (Oc.get8 l (k + 8 * j)).1), 0)) := Lib.hid (by simp only [fixed4]; rw [if_neg (by omega)])
      go_wp2_with fail
      go_ret2
      rw [HF.out]
      exact ⟨_, rfl, hown, hbr⟩

def NumsOf2 (k : IntKind) (t : TypeId) (w : World) (L : List Nat) (a : Int) (b : Nat) (e : Ending) (w' : World) : Prop :=
  ∃ v, e = .returned (.tuple #[v, .int .i64 a, .int .i64 (b : Int)]) ∧ NRow k w' w.heap.size t v L ∧ Below w.heap.size w w'
/-- Some numbers of few bytes, one after another; acc: those that were read. -/
def nums (l : List UInt8) : Nat → List Nat → Int → List Nat × Int × Nat
  | 0, acc, a => (acc, a, 0)
  | m + 1, acc, a => if (num1 l a).2.2 = 0 then nums l m (acc ++ [(num1 l a).1]) (num1 l a).2.1 else ([], 0, (num1 l a).2.2)

theorem num1_ok {l : List UInt8} {a : Int} : (num1 l a).2.2 = 0 → 0 ≤ (num1 l a).2.1 ∧ (num1 l a).2.1 ≤ l.length ∧ (num1 l a).1 ≤ 1099511627776 := by
  unfold num1
  intro h
  split at h
  · rename_i h0; exact absurd h h0
  · rename_i h0
    split at h
    · simp at h
    · rename_i h1
      have h0' : (Vr.get l a).2.2 = 0 := by omega
      obtain ⟨n, nx, hg⟩ : ∃ n nx, Vr.get l a = (n, nx, 0) := ⟨_, _, Prod.ext_iff.2 ⟨rfl, Prod.ext_iff.2 ⟨rfl, h0'⟩⟩⟩
      obtain ⟨k, m, _, h2, h3, _⟩ := Vr.get_ok hg
      rw [hg] at h1
      rw [if_neg h0, hg, if_neg h1]
      simp only [h2] at *
      omega

set_option maxHeartbeats 800000 in
set_option maxRecDepth 100000 in
theorem small_any (l : List UInt8) (a0 : Int) (y : Int) (m : Nat) (hy : y = m) (w : World) (hl : l.length ≤ 9223372036854775807) (ha2 : a0 ≤ 9223372036854775807) (hm : m ≤ 100) :
    Calls Tryz.prog 101 #[.string (bs l), .int .i64 a0, .int .i64 y] w (NumsOf2 .i64 3 w (nums l m [] a0).1 (nums l m [] a0).2.1 (nums l m [] a0).2.2) := by
  subst hy
  go_enter Tryz.func101, Tryz.ntmps101
  go_wp2_with fail
  go_loopw [1, 9, 10] (fun p v c wr => ∃ (i : Nat) (a : Int) (L : List Nat), c = .int .i64 i ∧ p = .int .i64 a ∧ i ≤ m ∧ a ≤ 9223372036854775807 ∧ L.length = i ∧ Hid (nums l m [] a0 = nums l (m - i) L a) ∧ NRow .i64 wr w.heap.size 3 v L ∧ Below w.heap.size w wr)
    (fun _ _ c _ => m - (intOf c).toNat)
  case atStart => exact ⟨0, a0, [], rfl, rfl, by omega, ha2, rfl, Lib.hid rfl, NRow.nil _ _ _ _, Below.refl _ _⟩
  case round =>
    obtain ⟨i, a, L, rfl, rfl, hi, ha, hL, HM, hown, hbr⟩ := hrel
    have HL := Lib.hid hL; clear hL
    by_cases hlt : i < m
    · have hok := num1_ok (l := l) (a := a)
      obtain ⟨n, nx, e0, hn⟩ : ∃ n nx e0, num1 l a = (n, nx, e0) := ⟨_, _, _, rfl⟩
      rw [hn] at hok
      have HN := Lib.hid hn; clear hn
      by_cases he : e0 = 0
      · subst he
        obtain ⟨_, hnx, _⟩ := hok rfl
        simp only at hnx
        have HM2 : Hid (nums l m [] a0 = nums l (m - (i + 1)) (L ++ [n]) nx) := Lib.hid (by
          rw [HM.out, show m - i = (m - (i + 1)) + 1 by omega, nums, HN.out]; rfl)
        have hb8 : (L.length + 1) * 8 ≤ 140737488355328 := by have := HL.out; omega
        clear hok
        go_wp2_with fail
        refine (number1_any l a _ hl ha).mono ?_
        rw [HN.out]
        rintro e w' ⟨rfl, rfl⟩
        go_wp2_with (at_builtin; refine wpList_append_num hown n rfl rfl (.tmp 29) (.tmp 31) 105 rfl Tryz.underlying105 8 info_intR rfl rfl hb8 (by omega) hbr.size ?_; intro v' w1 hown1 _ hb1 hs1)
        exact ⟨⟨i + 1, nx, L ++ [n], rfl, rfl, by omega, by omega, by simp [HL.out], HM2, hown1, hbr.trans hb1⟩, by simp [intOf]; omega⟩
      · have HF : Hid (nums l m [] a0 = ([], 0, e0)) := Lib.hid (by
          rw [HM.out, show m - i = (m - (i + 1)) + 1 by omega, nums, HN.out]
          simp [he])
        have hen : (((e0 : Nat) : Int) != 0) = true := by simp; omega
        clear hok
        go_wp2_with fail
        refine (number1_any l a _ hl ha).mono ?_
        rw [HN.out]
        rintro e w' ⟨rfl, rfl⟩
        go_wp2_with fail
        go_ret3
        rw [HF.out]
        exact ⟨_, rfl, NRow.nil _ _ _ _, hbr⟩
    · obtain rfl : i = m := by omega
      have HF : Hid (nums l i [] a0 = (L, a, 0)) := Lib.hid (by rw [HM.out, Nat.sub_self]; rfl)
      go_wp2_with fail
      go_ret3
      rw [HF.out]
      exact ⟨_, rfl, hown, hbr⟩

theorem nums3_ok {l : List UInt8} {a : Int} (h : (nums l 3 [] a).2.2 = 0) : ∃ a0 a1 a2 c : Nat, nums l 3 [] a = ([a0, a1, a2], (c : Int), 0) ∧ c ≤ l.length ∧ a0 ≤ 1099511627776 ∧ a1 ≤ 1099511627776 ∧ a2 ≤ 1099511627776 := by
  by_cases h1 : (num1 l a).2.2 = 0
  · obtain ⟨p1, p2, p3⟩ := num1_ok h1
    by_cases h2 : (num1 l (num1 l a).2.1).2.2 = 0
    · obtain ⟨q1, q2, q3⟩ := num1_ok h2
      by_cases h3 : (num1 l (num1 l (num1 l a).2.1).2.1).2.2 = 0
      · obtain ⟨r1, r2, r3⟩ := num1_ok h3
        refine ⟨_, _, _, ((num1 l (num1 l (num1 l a).2.1).2.1).2.1).toNat, ?_, by omega, p3, q3, r3⟩
        simp only [nums, h1, h2, h3, if_true]
        rw [Int.toNat_of_nonneg r1]
        rfl
      · simp [nums, h1, h2, h3] at h
    · simp [nums, h1, h2] at h
  · simp [nums, h1] at h
theorem nums2_ok {l : List UInt8} {a : Int} (h : (nums l 2 [] a).2.2 = 0) : ∃ a0 a1 c : Nat, nums l 2 [] a = ([a0, a1], (c : Int), 0) ∧ c ≤ l.length ∧ a0 ≤ 1099511627776 ∧ a1 ≤ 1099511627776 := by
  by_cases h1 : (num1 l a).2.2 = 0
  · obtain ⟨p1, p2, p3⟩ := num1_ok h1
    by_cases h2 : (num1 l (num1 l a).2.1).2.2 = 0
    · obtain ⟨q1, q2, q3⟩ := num1_ok h2
      refine ⟨_, _, ((num1 l (num1 l a).2.1).2.1).toNat, ?_, by omega, p3, q3⟩
      simp only [nums, h1, h2, if_true]
      rw [Int.toNat_of_nonneg q1]
      rfl
    · simp [nums, h1, h2] at h
  · simp [nums, h1] at h
theorem nums_err {l : List UInt8} {m : Nat} : ∀ {acc : List Nat} {a : Int}, (nums l m acc a).2.2 ≠ 0 → (nums l m acc a).1 = [] ∧ (nums l m acc a).2.1 = 0 := by
  induction m with
  | zero => intro acc a h; simp [nums] at h
  | succ m ih =>
    intro acc a h
    unfold nums at h ⊢
    split
    · rename_i h1; rw [if_pos h1] at h; exact ih h
    · simp
theorem fixed4_ok {l : List UInt8} {k : Nat} (h : ¬ l.length < k + 32) : ∃ n0 n1 n2 n3, fixed4 l k = ([n0, n1, n2, n3], 0) ∧ n0 < 18446744073709551616 ∧ n1 < 18446744073709551616 ∧ n2 < 18446744073709551616 ∧ n3 < 18446744073709551616 ∧
    n0 = Oc.num ((l.drop k).take 8) ∧ n1 = Oc.num ((l.drop (k + 8)).take 8) ∧ n2 = Oc.num ((l.drop (k + 16)).take 8) ∧ n3 = Oc.num ((l.drop (k + 24)).take 8) := by
  have hg : ∀ j, j < 4 → (Oc.get8 l (k + 8 * j)).1 = Oc.num ((l.drop (k + 8 * j)).take 8) := by
    intro j hj; simp only [Oc.get8]; rw [if_neg (by omega)]
  have hb : ∀ j, Oc.num ((l.drop j).take 8) < 18446744073709551616 := fun j => Oc.num_bound _ 8 (by omega)
  refine ⟨_, _, _, _, ?_, hb k, hb (k + 8), hb (k + 16), hb (k + 24), rfl, rfl, rfl, rfl⟩
  simp only [fixed4]
  rw [if_neg h]
  simp only [List.range_succ, List.range_zero, List.nil_append, List.map_cons, List.map_nil, List.cons_append]
  rw [hg 0 (by omega), hg 1 (by omega), hg 2 (by omega), hg 3 (by omega)]
  simp
theorem take32_ok {l : List UInt8} {x : Int} {t : List UInt8} {nx : Int} (h : Vr.take l x 32 = (t, nx, 0)) : 0 ≤ nx ∧ nx ≤ l.length ∧ t.length ≤ l.length := by
  unfold Vr.take at h
  simp only at h
  by_cases h0 : (Vr.get l x).2.2 = 0
  · obtain ⟨n, n2, hg⟩ : ∃ n nx, Vr.get l x = (n, nx, 0) := ⟨_, _, Prod.ext_iff.2 ⟨rfl, Prod.ext_iff.2 ⟨rfl, h0⟩⟩⟩
    obtain ⟨k, m, _, h2, h3, _⟩ := Vr.get_ok hg
    rw [hg] at h
    simp only [ne_eq, not_true, if_false, h2] at h
    split at h
    · simp at h
    · split at h
      · simp at h
      · rename_i h5 h6
        simp only [Prod.mk.injEq] at h
        obtain ⟨rfl, rfl, _⟩ := h
        simp at h6 ⊢
        omega
  · rw [if_pos h0] at h
    simp only [Prod.mk.injEq] at h
    exact absurd h.2.2 h0

end Go.Proofs.YtfbhdkkmcfnghaaGreat
end
