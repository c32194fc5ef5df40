/- Walk of the reference's Read. Condition: the text is no longer than an int can say. -/
import Derived.Test.YtfbhdkkmcfnghaaGreatM12
import Derived.RegionTactic
import Derived.ChangeAlike
import Derived.Deep.RegionHeld3

section
namespace Go.Proofs.YtfbhdkkmcfnghaaGreat
open Go.RowKit

set_option maxHeartbeats 400000 in
set_option maxRecDepth 100000 in
/-- What Read hands back, out of the block that holds the span. -/
theorem refRead_results (W : World) (g : Nat) (s : Sp) (a : Int) (b : Int) (tmps : Array Value) (hH : Held W g [.int .u64 (s.hi : Int), .int .u64 (s.lo : Int), .int .u64 (s.id : Int), .int .u64 (s.up : Int), .string (bs s.name), .int .i64 s.st, .int .i64 s.sq, .int .i64 s.kd, .bool s.sh, .int .i64 s.t0, .int .i64 s.t1])
    (h4 : tmps[4]?.getD undef = .pointer (some ⟨g, 0, none⟩)) (h5 : tmps[5]?.getD undef = .int .i64 a) (h6 : tmps[6]?.getD undef = .int .i64 b) :
    (results Tryz.f59 tmps).run Tryz.prog W = .ok (.tuple #[s.val, .int .i64 a, .int .i64 b]) W := by
  have c0 := hH.cell (i := 0) rfl
  have c1 := hH.cell (i := 1) rfl
  have c2 := hH.cell (i := 2) rfl
  have c3 := hH.cell (i := 3) rfl
  have c4 := hH.cell (i := 4) rfl
  have c5 := hH.cell (i := 5) rfl
  have c6 := hH.cell (i := 6) rfl
  have c7 := hH.cell (i := 7) rfl
  have c8 := hH.cell (i := 8) rfl
  have c9 := hH.cell (i := 9) rfl
  have c10 := hH.cell (i := 10) rfl
  simp [results, Tryz.results59, go_sem, Sp.val, h4, h5, h6, c0, c1, c2, c3, c4, c5, c6, c7, c8, c9, c10]

def zeroSp : Sp := ⟨0, 0, 0, 0, [], 0, 0, 0, false, 0, 0⟩
/-- What the document says of bytes. -/
def readRef (l : List UInt8) (x : Int) : Sp × Int × Nat :=
  if x < 0 then (zeroSp, 0, 2)
  else if l.length < x.toNat + 32 then (zeroSp, 0, 5)
  else if (Vr.take l (x + 32) 32).2.2 ≠ 0 then (zeroSp, 0, (Vr.take l (x + 32) 32).2.2)
  else
    let t := Vr.take l (x + 32) 32
    let p := nums l 3 [] t.2.1
    if p.2.2 ≠ 0 then (zeroSp, 0, p.2.2)
    else if (l.length : Int) ≤ p.2.1 then (zeroSp, 0, 5)
    else if 1 < (l.getD p.2.1.toNat 0).toNat then (zeroSp, 0, 3)
    else
      let q := nums l 2 [] (p.2.1 + 1)
      if q.2.2 ≠ 0 then (zeroSp, 0, q.2.2)
      else
        let f := (fixed4 l x.toNat).1
        let s : Sp := ⟨f.getD 0 0, f.getD 1 0, f.getD 2 0, f.getD 3 0, t.1, p.1.getD 0 0, p.1.getD 1 0, p.1.getD 2 0, ((l.getD p.2.1.toNat 0).toNat : Int) == 1, q.1.getD 0 0, (q.1.getD 0 0 : Int) + q.1.getD 1 0⟩
        if check s ≠ 0 then (zeroSp, 0, check s) else (s, q.2.1, 0)

set_option maxHeartbeats 4000000 in
set_option maxRecDepth 100000 in
theorem refRead_any (l : List UInt8) (x : Int) (w : World) (hl : l.length ≤ 9223372036854775807) (hx2 : x ≤ 9223372036854775807) :
    Calls Tryz.prog 59 #[.string (bs l), .int .i64 x] w fun e w' => e = .returned (.tuple #[(readRef l x).1.val, .int .i64 (readRef l x).2.1, .int .i64 ((readRef l x).2.2 : Int)]) ∧ Below w.heap.size w w' := by
  have hZ := Held.made w [.int .u64 0, .int .u64 0, .int .u64 0, .int .u64 0, .string ⟨#[]⟩, .int .i64 0, .int .i64 0, .int .i64 0, .bool false, .int .i64 0, .int .i64 0] 64
  have hbase : Below w.heap.size w (w.alloc (.cells #[.int .u64 0, .int .u64 0, .int .u64 0, .int .u64 0, .string ⟨#[]⟩, .int .i64 0, .int .i64 0, .int .i64 0, .bool false, .int .i64 0, .int .i64 0] 64)) := (Below.refl _ _).alloc (Nat.le_refl _) _
  by_cases hx : x < 0
  · have HR : Hid (readRef l x = (zeroSp, 0, 2)) := Lib.hid (by simp only [readRef]; rw [if_pos hx])
    clear hZ
    go_enter Tryz.func59, Tryz.ntmps59
    go_wp2_with fail
    refine bodyPost_ret (v := .tuple #[zeroSp.val, .int .i64 0, .int .i64 2]) (by simp [results, Tryz.results59, go_sem, zeroSp, Sp.val]; rfl) rfl ⟨by rw [HR.out]; rfl, hbase⟩
  obtain ⟨k, rfl⟩ := Int.eq_ofNat_of_zero_le (by omega : 0 ≤ x)
  by_cases h1 : l.length < k
  · have HR : Hid (readRef l k = (zeroSp, 0, 5)) := Lib.hid (by simp only [readRef]; rw [if_neg hx, if_pos (by simp; omega)])
    clear hZ
    go_enter Tryz.func59, Tryz.ntmps59
    go_wp2_with fail
    refine bodyPost_ret (v := .tuple #[zeroSp.val, .int .i64 0, .int .i64 5]) (by simp [results, Tryz.results59, go_sem, zeroSp, Sp.val]; rfl) rfl ⟨by rw [HR.out]; rfl, hbase⟩
  by_cases h2 : l.length < k + 32
  · have HR : Hid (readRef l k = (zeroSp, 0, 5)) := Lib.hid (by simp only [readRef]; rw [if_neg hx, if_pos (by simpa using h2)])
    have HF4 : Hid (fixed4 l k = ([], 5)) := Lib.hid (by simp [fixed4, h2])
    go_enter Tryz.func59, Tryz.ntmps59
    go_wp2_with fail
    refine (fixed4_any l _ k rfl _ hl (by omega)).mono ?_
    rw [HF4.out]
    rintro e w1 ⟨v1, rfl, hrow1, hb1⟩
    have hZ1 := hZ.kept hb1
    have hbase1 := hbase.trans (hb1.mono (by simp))
    have z0 := hZ1.cell (i := 0) rfl
    have z1 := hZ1.cell (i := 1) rfl
    have z2 := hZ1.cell (i := 2) rfl
    have z3 := hZ1.cell (i := 3) rfl
    have z4 := hZ1.cell (i := 4) rfl
    have z5 := hZ1.cell (i := 5) rfl
    have z6 := hZ1.cell (i := 6) rfl
    have z7 := hZ1.cell (i := 7) rfl
    have z8 := hZ1.cell (i := 8) rfl
    have z9 := hZ1.cell (i := 9) rfl
    have z10 := hZ1.cell (i := 10) rfl
    have y0 := hZ1.free 0
    have y1 := hZ1.free 1
    have y2 := hZ1.free 2
    have y3 := hZ1.free 3
    have y4 := hZ1.free 4
    have y5 := hZ1.free 5
    have y6 := hZ1.free 6
    have y7 := hZ1.free 7
    have y8 := hZ1.free 8
    have y9 := hZ1.free 9
    have y10 := hZ1.free 10
    go_wp2_with fail
    have HF := (((((((((((hZ1.set 0 (.int .u64 0)).set 1 (.int .u64 0)).set 2 (.int .u64 0)).set 3 (.int .u64 0)).set 4 (.string ⟨#[]⟩)).set 5 (.int .i64 0)).set 6 (.int .i64 0)).set 7 (.int .i64 0)).set 8 (.bool false)).set 9 (.int .i64 0)).set 10 (.int .i64 0))
    simp only [List.set] at HF
    refine bodyPost_ret (refRead_results _ w.heap.size (Sp.mk 0 0 0 0 [] 0 0 0 false 0 0) 0 5 _ HF ?_ ?_ ?_) ?_ ⟨?_, ?_⟩
    · rfl
    · rfl
    · rfl
    · rfl
    · rw [HR.out]; first | rfl | done
    · exact (((((((((((hbase1.setCell (p := ⟨w.heap.size, 0, none⟩) (Nat.le_refl _) (.int .u64 0)).setCell (p := ⟨w.heap.size, 1, none⟩) (Nat.le_refl _) (.int .u64 0)).setCell (p := ⟨w.heap.size, 2, none⟩) (Nat.le_refl _) (.int .u64 0)).setCell (p := ⟨w.heap.size, 3, none⟩) (Nat.le_refl _) (.int .u64 0)).setCell (p := ⟨w.heap.size, 4, none⟩) (Nat.le_refl _) (.string ⟨#[]⟩)).setCell (p := ⟨w.heap.size, 5, none⟩) (Nat.le_refl _) (.int .i64 0)).setCell (p := ⟨w.heap.size, 6, none⟩) (Nat.le_refl _) (.int .i64 0)).setCell (p := ⟨w.heap.size, 7, none⟩) (Nat.le_refl _) (.int .i64 0)).setCell (p := ⟨w.heap.size, 8, none⟩) (Nat.le_refl _) (.bool false)).setCell (p := ⟨w.heap.size, 9, none⟩) (Nat.le_refl _) (.int .i64 0)).setCell (p := ⟨w.heap.size, 10, none⟩) (Nat.le_refl _) (.int .i64 0))
  have hkl : k + 32 ≤ l.length := by omega
  obtain ⟨n0, n1, n2, n3, hf4, hn0, hn1, hn2, hn3, -⟩ := fixed4_ok h2
  have HF4 := Lib.hid hf4
  obtain ⟨nm, nx, e0, ht⟩ : ∃ a b c, Vr.take l ((k : Int) + 32) 32 = (a, b, c) := ⟨_, _, _, rfl⟩
  have HT := Lib.hid ht
  have hrd : readRef l k = if e0 ≠ 0 then (zeroSp, 0, e0) else
    let p := nums l 3 [] nx
    if p.2.2 ≠ 0 then (zeroSp, 0, p.2.2)
    else if (l.length : Int) ≤ p.2.1 then (zeroSp, 0, 5)
    else if 1 < (l.getD p.2.1.toNat 0).toNat then (zeroSp, 0, 3)
    else
      let q := nums l 2 [] (p.2.1 + 1)
      if q.2.2 ≠ 0 then (zeroSp, 0, q.2.2)
      else
        let s : Sp := ⟨n0, n1, n2, n3, nm, p.1.getD 0 0, p.1.getD 1 0, p.1.getD 2 0, ((l.getD p.2.1.toNat 0).toNat : Int) == 1, q.1.getD 0 0, (q.1.getD 0 0 : Int) + q.1.getD 1 0⟩
        if check s ≠ 0 then (zeroSp, 0, check s) else (s, q.2.1, 0) := by
    simp only [readRef]
    rw [if_neg hx, if_neg (by simpa using h2), ht, show ((k : Int)).toNat = k from rfl, hf4]
    rfl
  by_cases he0 : e0 ≠ 0
  · have HR : Hid (readRef l k = (zeroSp, 0, e0)) := Lib.hid (by rw [hrd, if_pos he0])
    have hen : (((e0 : Nat) : Int) != 0) = true := by simp; omega
    clear hrd hf4 ht
    go_enter Tryz.func59, Tryz.ntmps59
    go_wp2_with fail
    refine (fixed4_any l _ k rfl _ hl (by omega)).mono ?_
    rw [HF4.out]
    rintro e w1 ⟨v1, rfl, hrow1, hb1⟩
    have hZ1 := hZ.kept hb1
    have hbase1 := hbase.trans (hb1.mono (by simp))
    obtain ⟨g1, cap1, rfl, hg1, hlt1, hr1⟩ := hrow1.open (by simp)
    go_wp2_with fail
    refine (refTake_any l _ 32 _ hl (by omega) (by omega)).mono ?_
    rw [HT.out]
    rintro e w' ⟨rfl, rfl⟩
    have z0 := hZ1.cell (i := 0) rfl
    have z1 := hZ1.cell (i := 1) rfl
    have z2 := hZ1.cell (i := 2) rfl
    have z3 := hZ1.cell (i := 3) rfl
    have z4 := hZ1.cell (i := 4) rfl
    have z5 := hZ1.cell (i := 5) rfl
    have z6 := hZ1.cell (i := 6) rfl
    have z7 := hZ1.cell (i := 7) rfl
    have z8 := hZ1.cell (i := 8) rfl
    have z9 := hZ1.cell (i := 9) rfl
    have z10 := hZ1.cell (i := 10) rfl
    have y0 := hZ1.free 0
    have y1 := hZ1.free 1
    have y2 := hZ1.free 2
    have y3 := hZ1.free 3
    have y4 := hZ1.free 4
    have y5 := hZ1.free 5
    have y6 := hZ1.free 6
    have y7 := hZ1.free 7
    have y8 := hZ1.free 8
    have y9 := hZ1.free 9
    have y10 := hZ1.free 10
    go_wp2_with fail
    have HF := (((((((((((hZ1.set 0 (.int .u64 0)).set 1 (.int .u64 0)).set 2 (.int .u64 0)).set 3 (.int .u64 0)).set 4 (.string ⟨#[]⟩)).set 5 (.int .i64 0)).set 6 (.int .i64 0)).set 7 (.int .i64 0)).set 8 (.bool false)).set 9 (.int .i64 0)).set 10 (.int .i64 0))
    simp only [List.set] at HF
    refine bodyPost_ret (refRead_results _ w.heap.size (Sp.mk 0 0 0 0 [] 0 0 0 false 0 0) 0 (e0 : Int) _ HF ?_ ?_ ?_) ?_ ⟨?_, ?_⟩
    · rfl
    · rfl
    · rfl
    · rfl
    · rw [HR.out]; first | rfl | done
    · exact (((((((((((hbase1.setCell (p := ⟨w.heap.size, 0, none⟩) (Nat.le_refl _) (.int .u64 0)).setCell (p := ⟨w.heap.size, 1, none⟩) (Nat.le_refl _) (.int .u64 0)).setCell (p := ⟨w.heap.size, 2, none⟩) (Nat.le_refl _) (.int .u64 0)).setCell (p := ⟨w.heap.size, 3, none⟩) (Nat.le_refl _) (.int .u64 0)).setCell (p := ⟨w.heap.size, 4, none⟩) (Nat.le_refl _) (.string ⟨#[]⟩)).setCell (p := ⟨w.heap.size, 5, none⟩) (Nat.le_refl _) (.int .i64 0)).setCell (p := ⟨w.heap.size, 6, none⟩) (Nat.le_refl _) (.int .i64 0)).setCell (p := ⟨w.heap.size, 7, none⟩) (Nat.le_refl _) (.int .i64 0)).setCell (p := ⟨w.heap.size, 8, none⟩) (Nat.le_refl _) (.bool false)).setCell (p := ⟨w.heap.size, 9, none⟩) (Nat.le_refl _) (.int .i64 0)).setCell (p := ⟨w.heap.size, 10, none⟩) (Nat.le_refl _) (.int .i64 0))
  obtain rfl : e0 = 0 := by omega
  obtain ⟨hnx0, hnxl, hnml⟩ := take32_ok ht
  rw [if_neg he0] at hrd
  obtain ⟨A, p1, e1, hp⟩ : ∃ a b c, nums l 3 [] nx = (a, b, c) := ⟨_, _, _, rfl⟩
  by_cases he1 : e1 ≠ 0
  · have HR : Hid (readRef l k = (zeroSp, 0, e1)) := Lib.hid (by rw [hrd]; simp only [hp]; rw [if_pos he1])
    have HP : Hid (nums l 3 [] nx = ([], 0, e1)) := Lib.hid (by
      have := nums_err (l := l) (m := 3) (acc := []) (a := nx) (by rw [hp]; exact he1)
      rw [hp] at this
      simp only at this
      rw [hp, this.1, this.2])
    have hen : (((e1 : Nat) : Int) != 0) = true := by simp; omega
    clear hrd hf4 ht hp
    go_enter Tryz.func59, Tryz.ntmps59
    go_wp2_with fail
    refine (fixed4_any l _ k rfl _ hl (by omega)).mono ?_
    rw [HF4.out]
    rintro e w1 ⟨v1, rfl, hrow1, hb1⟩
    have hZ1 := hZ.kept hb1
    have hbase1 := hbase.trans (hb1.mono (by simp))
    obtain ⟨g1, cap1, rfl, hg1, hlt1, hr1⟩ := hrow1.open (by simp)
    have hs1 : w.heap.size < w1.heap.size := hZ1.lt
    go_wp2_with fail
    refine (refTake_any l _ 32 _ hl (by omega) (by omega)).mono ?_
    rw [HT.out]
    rintro e w' ⟨rfl, rfl⟩
    go_wp2_with fail
    refine (small_any l nx _ 3 rfl _ hl (by omega) (by omega)).mono ?_
    rw [HP.out]
    rintro e w2 ⟨v2, rfl, hrow2, hb2⟩
    have hZ2 := hZ1.kept hb2
    have hbase2 := hbase1.trans (hb2.mono (by omega))
    have z0 := hZ2.cell (i := 0) rfl
    have z1 := hZ2.cell (i := 1) rfl
    have z2 := hZ2.cell (i := 2) rfl
    have z3 := hZ2.cell (i := 3) rfl
    have z4 := hZ2.cell (i := 4) rfl
    have z5 := hZ2.cell (i := 5) rfl
    have z6 := hZ2.cell (i := 6) rfl
    have z7 := hZ2.cell (i := 7) rfl
    have z8 := hZ2.cell (i := 8) rfl
    have z9 := hZ2.cell (i := 9) rfl
    have z10 := hZ2.cell (i := 10) rfl
    have y0 := hZ2.free 0
    have y1 := hZ2.free 1
    have y2 := hZ2.free 2
    have y3 := hZ2.free 3
    have y4 := hZ2.free 4
    have y5 := hZ2.free 5
    have y6 := hZ2.free 6
    have y7 := hZ2.free 7
    have y8 := hZ2.free 8
    have y9 := hZ2.free 9
    have y10 := hZ2.free 10
    go_wp2_with fail
    have HF := (((((((((((hZ2.set 0 (.int .u64 0)).set 1 (.int .u64 0)).set 2 (.int .u64 0)).set 3 (.int .u64 0)).set 4 (.string ⟨#[]⟩)).set 5 (.int .i64 0)).set 6 (.int .i64 0)).set 7 (.int .i64 0)).set 8 (.bool false)).set 9 (.int .i64 0)).set 10 (.int .i64 0))
    simp only [List.set] at HF
    refine bodyPost_ret (refRead_results _ w.heap.size (Sp.mk 0 0 0 0 [] 0 0 0 false 0 0) 0 (e1 : Int) _ HF ?_ ?_ ?_) ?_ ⟨?_, ?_⟩
    · rfl
    · rfl
    · rfl
    · rfl
    · rw [HR.out]; first | rfl | done
    · exact (((((((((((hbase2.setCell (p := ⟨w.heap.size, 0, none⟩) (Nat.le_refl _) (.int .u64 0)).setCell (p := ⟨w.heap.size, 1, none⟩) (Nat.le_refl _) (.int .u64 0)).setCell (p := ⟨w.heap.size, 2, none⟩) (Nat.le_refl _) (.int .u64 0)).setCell (p := ⟨w.heap.size, 3, none⟩) (Nat.le_refl _) (.int .u64 0)).setCell (p := ⟨w.heap.size, 4, none⟩) (Nat.le_refl _) (.string ⟨#[]⟩)).setCell (p := ⟨w.heap.size, 5, none⟩) (Nat.le_refl _) (.int .i64 0)).setCell (p := ⟨w.heap.size, 6, none⟩) (Nat.le_refl _) (.int .i64 0)).setCell (p := ⟨w.heap.size, 7, none⟩) (Nat.le_refl _) (.int .i64 0)).setCell (p := ⟨w.heap.size, 8, none⟩) (Nat.le_refl _) (.bool false)).setCell (p := ⟨w.heap.size, 9, none⟩) (Nat.le_refl _) (.int .i64 0)).setCell (p := ⟨w.heap.size, 10, none⟩) (Nat.le_refl _) (.int .i64 0))
  obtain rfl : e1 = 0 := by omega
  obtain ⟨a0, a1, a2, c, hp', hcl, ha0, ha1, ha2⟩ := nums3_ok (l := l) (a := nx) (by rw [hp])
  rw [hp'] at hp
  clear hp
  have HP := Lib.hid hp'
  simp only [hp'] at hrd
  rw [if_neg (by simp)] at hrd
  by_cases hc : l.length ≤ c
  · have HR : Hid (readRef l k = (zeroSp, 0, 5)) := Lib.hid (by rw [hrd, if_pos (by omega)])
    clear hrd hf4 ht hp'
    go_enter Tryz.func59, Tryz.ntmps59
    go_wp2_with fail
    refine (fixed4_any l _ k rfl _ hl (by omega)).mono ?_
    rw [HF4.out]
    rintro e w1 ⟨v1, rfl, hrow1, hb1⟩
    have hZ1 := hZ.kept hb1
    have hbase1 := hbase.trans (hb1.mono (by simp))
    obtain ⟨g1, cap1, rfl, hg1, hlt1, hr1⟩ := hrow1.open (by simp)
    have hs1 : w.heap.size < w1.heap.size := hZ1.lt
    go_wp2_with fail
    refine (refTake_any l _ 32 _ hl (by omega) (by omega)).mono ?_
    rw [HT.out]
    rintro e w' ⟨rfl, rfl⟩
    go_wp2_with fail
    refine (small_any l nx _ 3 rfl _ hl (by omega) (by omega)).mono ?_
    rw [HP.out]
    rintro e w2 ⟨v2, rfl, hrow2, hb2⟩
    have hZ2 := hZ1.kept hb2
    have hbase2 := hbase1.trans (hb2.mono (by omega))
    obtain ⟨g2, cap2, rfl, hg2, hlt2, hr2⟩ := hrow2.open (by simp)
    have z0 := hZ2.cell (i := 0) rfl
    have z1 := hZ2.cell (i := 1) rfl
    have z2 := hZ2.cell (i := 2) rfl
    have z3 := hZ2.cell (i := 3) rfl
    have z4 := hZ2.cell (i := 4) rfl
    have z5 := hZ2.cell (i := 5) rfl
    have z6 := hZ2.cell (i := 6) rfl
    have z7 := hZ2.cell (i := 7) rfl
    have z8 := hZ2.cell (i := 8) rfl
    have z9 := hZ2.cell (i := 9) rfl
    have z10 := hZ2.cell (i := 10) rfl
    have y0 := hZ2.free 0
    have y1 := hZ2.free 1
    have y2 := hZ2.free 2
    have y3 := hZ2.free 3
    have y4 := hZ2.free 4
    have y5 := hZ2.free 5
    have y6 := hZ2.free 6
    have y7 := hZ2.free 7
    have y8 := hZ2.free 8
    have y9 := hZ2.free 9
    have y10 := hZ2.free 10
    go_wp2_with fail
    have HF := (((((((((((hZ2.set 0 (.int .u64 0)).set 1 (.int .u64 0)).set 2 (.int .u64 0)).set 3 (.int .u64 0)).set 4 (.string ⟨#[]⟩)).set 5 (.int .i64 0)).set 6 (.int .i64 0)).set 7 (.int .i64 0)).set 8 (.bool false)).set 9 (.int .i64 0)).set 10 (.int .i64 0))
    simp only [List.set] at HF
    refine bodyPost_ret (refRead_results _ w.heap.size (Sp.mk 0 0 0 0 [] 0 0 0 false 0 0) 0 5 _ HF ?_ ?_ ?_) ?_ ⟨?_, ?_⟩
    · rfl
    · rfl
    · rfl
    · rfl
    · rw [HR.out]; first | rfl | done
    · exact (((((((((((hbase2.setCell (p := ⟨w.heap.size, 0, none⟩) (Nat.le_refl _) (.int .u64 0)).setCell (p := ⟨w.heap.size, 1, none⟩) (Nat.le_refl _) (.int .u64 0)).setCell (p := ⟨w.heap.size, 2, none⟩) (Nat.le_refl _) (.int .u64 0)).setCell (p := ⟨w.heap.size, 3, none⟩) (Nat.le_refl _) (.int .u64 0)).setCell (p := ⟨w.heap.size, 4, none⟩) (Nat.le_refl _) (.string ⟨#[]⟩)).setCell (p := ⟨w.heap.size, 5, none⟩) (Nat.le_refl _) (.int .i64 0)).setCell (p := ⟨w.heap.size, 6, none⟩) (Nat.le_refl _) (.int .i64 0)).setCell (p := ⟨w.heap.size, 7, none⟩) (Nat.le_refl _) (.int .i64 0)).setCell (p := ⟨w.heap.size, 8, none⟩) (Nat.le_refl _) (.bool false)).setCell (p := ⟨w.heap.size, 9, none⟩) (Nat.le_refl _) (.int .i64 0)).setCell (p := ⟨w.heap.size, 10, none⟩) (Nat.le_refl _) (.int .i64 0))
  rw [if_neg (by omega), show ((c : Int)).toNat = c from rfl] at hrd
  have hci : (c : Int) < (l.length : Int) := by omega
  have hcn : c < l.length := by omega
  have hgd : l.getD c 0 = l[c] := by simp [List.getD, List.getElem?_eq_getElem hcn]
  rw [hgd] at hrd
  by_cases hb1c : 1 < l[c].toNat
  · have HR : Hid (readRef l k = (zeroSp, 0, 3)) := Lib.hid (by rw [hrd, if_pos hb1c])
    clear hrd hf4 ht hp' hgd
    go_enter Tryz.func59, Tryz.ntmps59
    go_wp2_with fail
    refine (fixed4_any l _ k rfl _ hl (by omega)).mono ?_
    rw [HF4.out]
    rintro e w1 ⟨v1, rfl, hrow1, hb1⟩
    have hZ1 := hZ.kept hb1
    have hbase1 := hbase.trans (hb1.mono (by simp))
    obtain ⟨g1, cap1, rfl, hg1, hlt1, hr1⟩ := hrow1.open (by simp)
    have hs1 : w.heap.size < w1.heap.size := hZ1.lt
    go_wp2_with fail
    refine (refTake_any l _ 32 _ hl (by omega) (by omega)).mono ?_
    rw [HT.out]
    rintro e w' ⟨rfl, rfl⟩
    go_wp2_with fail
    refine (small_any l nx _ 3 rfl _ hl (by omega) (by omega)).mono ?_
    rw [HP.out]
    rintro e w2 ⟨v2, rfl, hrow2, hb2⟩
    have hZ2 := hZ1.kept hb2
    have hbase2 := hbase1.trans (hb2.mono (by omega))
    obtain ⟨g2, cap2, rfl, hg2, hlt2, hr2⟩ := hrow2.open (by simp)
    have z0 := hZ2.cell (i := 0) rfl
    have z1 := hZ2.cell (i := 1) rfl
    have z2 := hZ2.cell (i := 2) rfl
    have z3 := hZ2.cell (i := 3) rfl
    have z4 := hZ2.cell (i := 4) rfl
    have z5 := hZ2.cell (i := 5) rfl
    have z6 := hZ2.cell (i := 6) rfl
    have z7 := hZ2.cell (i := 7) rfl
    have z8 := hZ2.cell (i := 8) rfl
    have z9 := hZ2.cell (i := 9) rfl
    have z10 := hZ2.cell (i := 10) rfl
    have y0 := hZ2.free 0
    have y1 := hZ2.free 1
    have y2 := hZ2.free 2
    have y3 := hZ2.free 3
    have y4 := hZ2.free 4
    have y5 := hZ2.free 5
    have y6 := hZ2.free 6
    have y7 := hZ2.free 7
    have y8 := hZ2.free 8
    have y9 := hZ2.free 9
    have y10 := hZ2.free 10
    go_wp2_with fail
    have HF := (((((((((((hZ2.set 0 (.int .u64 0)).set 1 (.int .u64 0)).set 2 (.int .u64 0)).set 3 (.int .u64 0)).set 4 (.string ⟨#[]⟩)).set 5 (.int .i64 0)).set 6 (.int .i64 0)).set 7 (.int .i64 0)).set 8 (.bool false)).set 9 (.int .i64 0)).set 10 (.int .i64 0))
    simp only [List.set] at HF
    refine bodyPost_ret (refRead_results _ w.heap.size (Sp.mk 0 0 0 0 [] 0 0 0 false 0 0) 0 3 _ HF ?_ ?_ ?_) ?_ ⟨?_, ?_⟩
    · rfl
    · rfl
    · rfl
    · rfl
    · rw [HR.out]; first | rfl | done
    · exact (((((((((((hbase2.setCell (p := ⟨w.heap.size, 0, none⟩) (Nat.le_refl _) (.int .u64 0)).setCell (p := ⟨w.heap.size, 1, none⟩) (Nat.le_refl _) (.int .u64 0)).setCell (p := ⟨w.heap.size, 2, none⟩) (Nat.le_refl _) (.int .u64 0)).setCell (p := ⟨w.heap.size, 3, none⟩) (Nat.le_refl _) (.int .u64 0)).setCell (p := ⟨w.heap.size, 4, none⟩) (Nat.le_refl _) (.string ⟨#[]⟩)).setCell (p := ⟨w.heap.size, 5, none⟩) (Nat.le_refl _) (.int .i64 0)).setCell (p := ⟨w.heap.size, 6, none⟩) (Nat.le_refl _) (.int .i64 0)).setCell (p := ⟨w.heap.size, 7, none⟩) (Nat.le_refl _) (.int .i64 0)).setCell (p := ⟨w.heap.size, 8, none⟩) (Nat.le_refl _) (.bool false)).setCell (p := ⟨w.heap.size, 9, none⟩) (Nat.le_refl _) (.int .i64 0)).setCell (p := ⟨w.heap.size, 10, none⟩) (Nat.le_refl _) (.int .i64 0))
  rw [if_neg hb1c] at hrd
  obtain ⟨B, p2, e2, hq⟩ : ∃ u v t, nums l 2 [] ((c : Int) + 1) = (u, v, t) := ⟨_, _, _, rfl⟩
  by_cases he2 : e2 ≠ 0
  · have HR : Hid (readRef l k = (zeroSp, 0, e2)) := Lib.hid (by rw [hrd]; simp only [hq]; rw [if_pos he2])
    have HQ : Hid (nums l 2 [] ((c : Int) + 1) = ([], 0, e2)) := Lib.hid (by
      have := nums_err (l := l) (m := 2) (acc := []) (a := (c : Int) + 1) (by rw [hq]; exact he2)
      rw [hq] at this
      simp only at this
      rw [hq, this.1, this.2])
    have hen : (((e2 : Nat) : Int) != 0) = true := by simp; omega
    clear hrd hf4 ht hp' hgd hq
    go_enter Tryz.func59, Tryz.ntmps59
    go_wp2_with fail
    refine (fixed4_any l _ k rfl _ hl (by omega)).mono ?_
    rw [HF4.out]
    rintro e w1 ⟨v1, rfl, hrow1, hb1⟩
    have hZ1 := hZ.kept hb1
    have hbase1 := hbase.trans (hb1.mono (by simp))
    obtain ⟨g1, cap1, rfl, hg1, hlt1, hr1⟩ := hrow1.open (by simp)
    have hs1 : w.heap.size < w1.heap.size := hZ1.lt
    go_wp2_with fail
    refine (refTake_any l _ 32 _ hl (by omega) (by omega)).mono ?_
    rw [HT.out]
    rintro e w' ⟨rfl, rfl⟩
    go_wp2_with fail
    refine (small_any l nx _ 3 rfl _ hl (by omega) (by omega)).mono ?_
    rw [HP.out]
    rintro e w2 ⟨v2, rfl, hrow2, hb2⟩
    have hZ2 := hZ1.kept hb2
    have hbase2 := hbase1.trans (hb2.mono (by omega))
    obtain ⟨g2, cap2, rfl, hg2, hlt2, hr2⟩ := hrow2.open (by simp)
    go_wp2_with fail
    refine (small_any l _ _ 2 rfl _ hl (by omega) (by omega)).mono ?_
    rw [HQ.out]
    rintro e w3 ⟨v3, rfl, hrow3, hb3⟩
    have hZ3 := hZ2.kept hb3
    have hbase3 := hbase2.trans (hb3.mono (by omega))
    have z0 := hZ3.cell (i := 0) rfl
    have z1 := hZ3.cell (i := 1) rfl
    have z2 := hZ3.cell (i := 2) rfl
    have z3 := hZ3.cell (i := 3) rfl
    have z4 := hZ3.cell (i := 4) rfl
    have z5 := hZ3.cell (i := 5) rfl
    have z6 := hZ3.cell (i := 6) rfl
    have z7 := hZ3.cell (i := 7) rfl
    have z8 := hZ3.cell (i := 8) rfl
    have z9 := hZ3.cell (i := 9) rfl
    have z10 := hZ3.cell (i := 10) rfl
    have y0 := hZ3.free 0
    have y1 := hZ3.free 1
    have y2 := hZ3.free 2
    have y3 := hZ3.free 3
    have y4 := hZ3.free 4
    have y5 := hZ3.free 5
    have y6 := hZ3.free 6
    have y7 := hZ3.free 7
    have y8 := hZ3.free 8
    have y9 := hZ3.free 9
    have y10 := hZ3.free 10
    go_wp2_with fail
    have HF := (((((((((((hZ3.set 0 (.int .u64 0)).set 1 (.int .u64 0)).set 2 (.int .u64 0)).set 3 (.int .u64 0)).set 4 (.string ⟨#[]⟩)).set 5 (.int .i64 0)).set 6 (.int .i64 0)).set 7 (.int .i64 0)).set 8 (.bool false)).set 9 (.int .i64 0)).set 10 (.int .i64 0))
    simp only [List.set] at HF
    refine bodyPost_ret (refRead_results _ w.heap.size (Sp.mk 0 0 0 0 [] 0 0 0 false 0 0) 0 (e2 : Int) _ HF ?_ ?_ ?_) ?_ ⟨?_, ?_⟩
    · rfl
    · rfl
    · rfl
    · rfl
    · rw [HR.out]; first | rfl | done
    · exact (((((((((((hbase3.setCell (p := ⟨w.heap.size, 0, none⟩) (Nat.le_refl _) (.int .u64 0)).setCell (p := ⟨w.heap.size, 1, none⟩) (Nat.le_refl _) (.int .u64 0)).setCell (p := ⟨w.heap.size, 2, none⟩) (Nat.le_refl _) (.int .u64 0)).setCell (p := ⟨w.heap.size, 3, none⟩) (Nat.le_refl _) (.int .u64 0)).setCell (p := ⟨w.heap.size, 4, none⟩) (Nat.le_refl _) (.string ⟨#[]⟩)).setCell (p := ⟨w.heap.size, 5, none⟩) (Nat.le_refl _) (.int .i64 0)).setCell (p := ⟨w.heap.size, 6, none⟩) (Nat.le_refl _) (.int .i64 0)).setCell (p := ⟨w.heap.size, 7, none⟩) (Nat.le_refl _) (.int .i64 0)).setCell (p := ⟨w.heap.size, 8, none⟩) (Nat.le_refl _) (.bool false)).setCell (p := ⟨w.heap.size, 9, none⟩) (Nat.le_refl _) (.int .i64 0)).setCell (p := ⟨w.heap.size, 10, none⟩) (Nat.le_refl _) (.int .i64 0))
  obtain rfl : e2 = 0 := by omega
  obtain ⟨b0, b1, d, hq', hdl, hb0, hb1'⟩ := nums2_ok (l := l) (a := (c : Int) + 1) (by rw [hq])
  rw [hq'] at hq
  clear hq
  have HQ := Lib.hid hq'
  simp only [hq'] at hrd
  rw [if_neg (by simp)] at hrd
  simp only [List.getD_cons_zero, List.getD_cons_succ] at hrd
  have hrd' : readRef l k = if check ⟨n0, n1, n2, n3, nm, a0, a1, a2, ((l[c].toNat : Int) == 1), b0, (b0 : Int) + b1⟩ ≠ 0 then (zeroSp, 0, check ⟨n0, n1, n2, n3, nm, a0, a1, a2, ((l[c].toNat : Int) == 1), b0, (b0 : Int) + b1⟩) else (⟨n0, n1, n2, n3, nm, a0, a1, a2, ((l[c].toNat : Int) == 1), b0, (b0 : Int) + b1⟩, (d : Int), 0) := hrd
  have HRD := Lib.hid hrd'
  clear hrd hrd' hf4 ht hp' hq' hgd
  obtain ⟨cc, hcc⟩ : ∃ cc, check ⟨n0, n1, n2, n3, nm, a0, a1, a2, ((l[c].toNat : Int) == 1), b0, (b0 : Int) + b1⟩ = cc := ⟨_, rfl⟩
  have HCC := Lib.hid hcc
  clear hcc
  go_enter Tryz.func59, Tryz.ntmps59
  go_wp2_with fail
  refine (fixed4_any l _ k rfl _ hl (by omega)).mono ?_
  rw [HF4.out]
  rintro e w1 ⟨v1, rfl, hrow1, hb1⟩
  have hZ1 := hZ.kept hb1
  have hbase1 := hbase.trans (hb1.mono (by simp))
  obtain ⟨g1, cap1, rfl, hg1, hlt1, hr1⟩ := hrow1.open (by simp)
  have s0 : w1.cell? ⟨g1, 0, none⟩ = some (.int .u64 (n0 : Int)) := hr1 0 (by simp)
  have s1 : w1.cell? ⟨g1, 1, none⟩ = some (.int .u64 (n1 : Int)) := hr1 1 (by simp)
  have s2 : w1.cell? ⟨g1, 2, none⟩ = some (.int .u64 (n2 : Int)) := hr1 2 (by simp)
  have s3 : w1.cell? ⟨g1, 3, none⟩ = some (.int .u64 (n3 : Int)) := hr1 3 (by simp)
  have hs1 : w.heap.size < w1.heap.size := hZ1.lt
  go_wp2_with fail
  refine (refTake_any l _ 32 _ hl (by omega) (by omega)).mono ?_
  rw [HT.out]
  rintro e w' ⟨rfl, rfl⟩
  go_wp2_with fail
  refine (small_any l nx _ 3 rfl _ hl (by omega) (by omega)).mono ?_
  rw [HP.out]
  rintro e w2 ⟨v2, rfl, hrow2, hb2⟩
  have hZ2 := hZ1.kept hb2
  have hbase2 := hbase1.trans (hb2.mono (by omega))
  obtain ⟨g2, cap2, rfl, hg2, hlt2, hr2⟩ := hrow2.open (by simp)
  have q0 : w2.cell? ⟨g2, 0, none⟩ = some (.int .i64 (a0 : Int)) := hr2 0 (by simp)
  have q1 : w2.cell? ⟨g2, 1, none⟩ = some (.int .i64 (a1 : Int)) := hr2 1 (by simp)
  have q2 : w2.cell? ⟨g2, 2, none⟩ = some (.int .i64 (a2 : Int)) := hr2 2 (by simp)
  go_wp2_with fail
  refine (small_any l _ _ 2 rfl _ hl (by omega) (by omega)).mono ?_
  rw [HQ.out]
  rintro e w3 ⟨v3, rfl, hrow3, hb3⟩
  have hZ3 := hZ2.kept hb3
  have hbase3 := hbase2.trans (hb3.mono (by omega))
  obtain ⟨g3, cap3, rfl, hg3, hlt3, hr3⟩ := hrow3.open (by simp)
  have r0 : w3.cell? ⟨g3, 0, none⟩ = some (.int .i64 (b0 : Int)) := hr3 0 (by simp)
  have r1 : w3.cell? ⟨g3, 1, none⟩ = some (.int .i64 (b1 : Int)) := hr3 1 (by simp)
  replace q0 := (hb3.cell (p := ⟨g2, 0, none⟩) hlt2).trans q0
  replace q1 := (hb3.cell (p := ⟨g2, 1, none⟩) hlt2).trans q1
  replace q2 := (hb3.cell (p := ⟨g2, 2, none⟩) hlt2).trans q2
  replace s0 := (hb3.cell (p := ⟨g1, 0, none⟩) (Nat.lt_of_lt_of_le hlt1 hb2.size)).trans ((hb2.cell (p := ⟨g1, 0, none⟩) hlt1).trans s0)
  replace s1 := (hb3.cell (p := ⟨g1, 1, none⟩) (Nat.lt_of_lt_of_le hlt1 hb2.size)).trans ((hb2.cell (p := ⟨g1, 1, none⟩) hlt1).trans s1)
  replace s2 := (hb3.cell (p := ⟨g1, 2, none⟩) (Nat.lt_of_lt_of_le hlt1 hb2.size)).trans ((hb2.cell (p := ⟨g1, 2, none⟩) hlt1).trans s2)
  replace s3 := (hb3.cell (p := ⟨g1, 3, none⟩) (Nat.lt_of_lt_of_le hlt1 hb2.size)).trans ((hb2.cell (p := ⟨g1, 3, none⟩) hlt1).trans s3)
  have hsum : IntKind.i64.wrap ((b0 : Int) + (b1 : Int)) = (b0 : Int) + b1 := IntWalk.i64_in _ (by omega)
  have es0 := World.new_ne w3 _ s0
  have es1 := World.new_ne w3 _ s1
  have es2 := World.new_ne w3 _ s2
  have es3 := World.new_ne w3 _ s3
  have eq0 := World.new_ne w3 _ q0
  have eq1 := World.new_ne w3 _ q1
  have eq2 := World.new_ne w3 _ q2
  have er0 := World.new_ne w3 _ r0
  have er1 := World.new_ne w3 _ r1
  go_wp2_with fail
  go_region_held3 (fun w' => w'.cell? ⟨g1, 0, none⟩ = some (.int .u64 (n0 : Int)) ∧ w'.cell? ⟨g1, 1, none⟩ = some (.int .u64 (n1 : Int)) ∧ w'.cell? ⟨g1, 2, none⟩ = some (.int .u64 (n2 : Int)) ∧ w'.cell? ⟨g1, 3, none⟩ = some (.int .u64 (n3 : Int)) ∧ w'.cell? ⟨g2, 0, none⟩ = some (.int .i64 (a0 : Int)) ∧ w'.cell? ⟨g2, 1, none⟩ = some (.int .i64 (a1 : Int)) ∧ w'.cell? ⟨g2, 2, none⟩ = some (.int .i64 (a2 : Int)) ∧ w'.cell? ⟨g3, 0, none⟩ = some (.int .i64 (b0 : Int)) ∧ w'.cell? ⟨g3, 1, none⟩ = some (.int .i64 (b1 : Int))) (go_keep) (fail)
  go_wp2_with fail
  refine (refCheck_any ⟨n0, n1, n2, n3, nm, a0, a1, a2, ((l[c].toNat : Int) == 1), b0, (b0 : Int) + b1⟩ _ ⟨hn0, hn1, hn2, hn3, show nm.length ≤ 9223372036854775807 by omega⟩).mono ?_
  rw [HCC.out]
  rintro e w4 ⟨rfl, hb4⟩
  have hb34 : Below w3.heap.size w3 w4 := (((Below.refl _ w3).alloc (Nat.le_refl _) _).drew).trans (hb4.mono (by simp))
  have hZ4 := hZ3.kept hb34
  have hbase4 := hbase3.trans (hb34.mono (Nat.le_of_lt hZ3.lt))
  have HSt : Held w4 w3.heap.size [(.int .u64 (n0 : Int)), (.int .u64 (n1 : Int)), (.int .u64 (n2 : Int)), (.int .u64 (n3 : Int)), (.string (bs nm)), (.int .i64 (a0 : Int)), (.int .i64 (a1 : Int)), (.int .i64 (a2 : Int)), (.bool ((l[c].toNat : Int) == 1)), (.int .i64 (b0 : Int)), (.int .i64 ((b0 : Int) + b1))] := (Held.made w3 [(.int .u64 (n0 : Int)), (.int .u64 (n1 : Int)), (.int .u64 (n2 : Int)), (.int .u64 (n3 : Int)), (.string (bs nm)), (.int .i64 (a0 : Int)), (.int .i64 (a1 : Int)), (.int .i64 (a2 : Int)), (.bool ((l[c].toNat : Int) == 1)), (.int .i64 (b0 : Int)), (.int .i64 ((b0 : Int) + b1))] 64).drew.kept hb4
  have u0 := HSt.cell (i := 0) rfl
  have u1 := HSt.cell (i := 1) rfl
  have u2 := HSt.cell (i := 2) rfl
  have u3 := HSt.cell (i := 3) rfl
  have u4 := HSt.cell (i := 4) rfl
  have u5 := HSt.cell (i := 5) rfl
  have u6 := HSt.cell (i := 6) rfl
  have u7 := HSt.cell (i := 7) rfl
  have u8 := HSt.cell (i := 8) rfl
  have u9 := HSt.cell (i := 9) rfl
  have u10 := HSt.cell (i := 10) rfl
  by_cases hcz : cc = 0
  · subst hcz
    have HR : Hid (readRef l k = (⟨n0, n1, n2, n3, nm, a0, a1, a2, ((l[c].toNat : Int) == 1), b0, (b0 : Int) + b1⟩, (d : Int), 0)) := Lib.hid (by rw [HRD.out, HCC.out]; rfl)
    have z0 := hZ4.cell (i := 0) rfl
    have z1 := hZ4.cell (i := 1) rfl
    have z2 := hZ4.cell (i := 2) rfl
    have z3 := hZ4.cell (i := 3) rfl
    have z4 := hZ4.cell (i := 4) rfl
    have z5 := hZ4.cell (i := 5) rfl
    have z6 := hZ4.cell (i := 6) rfl
    have z7 := hZ4.cell (i := 7) rfl
    have z8 := hZ4.cell (i := 8) rfl
    have z9 := hZ4.cell (i := 9) rfl
    have z10 := hZ4.cell (i := 10) rfl
    have y0 := hZ4.free 0
    have y1 := hZ4.free 1
    have y2 := hZ4.free 2
    have y3 := hZ4.free 3
    have y4 := hZ4.free 4
    have y5 := hZ4.free 5
    have y6 := hZ4.free 6
    have y7 := hZ4.free 7
    have y8 := hZ4.free 8
    have y9 := hZ4.free 9
    have y10 := hZ4.free 10
    go_wp2_with fail
    have HF := (((((((((((hZ4.set 0 (.int .u64 (n0 : Int))).set 1 (.int .u64 (n1 : Int))).set 2 (.int .u64 (n2 : Int))).set 3 (.int .u64 (n3 : Int))).set 4 (.string (bs nm))).set 5 (.int .i64 (a0 : Int))).set 6 (.int .i64 (a1 : Int))).set 7 (.int .i64 (a2 : Int))).set 8 (.bool ((l[c].toNat : Int) == 1))).set 9 (.int .i64 (b0 : Int))).set 10 (.int .i64 ((b0 : Int) + b1)))
    simp only [List.set] at HF
    refine bodyPost_ret (refRead_results _ w.heap.size ⟨n0, n1, n2, n3, nm, a0, a1, a2, ((l[c].toNat : Int) == 1), b0, (b0 : Int) + b1⟩ (d : Int) 0 _ HF ?_ ?_ ?_) ?_ ⟨?_, ?_⟩
    · rfl
    · rfl
    · rfl
    · rfl
    · rw [HR.out]; first | rfl | done
    · exact (((((((((((hbase4.setCell (p := ⟨w.heap.size, 0, none⟩) (Nat.le_refl _) (.int .u64 (n0 : Int))).setCell (p := ⟨w.heap.size, 1, none⟩) (Nat.le_refl _) (.int .u64 (n1 : Int))).setCell (p := ⟨w.heap.size, 2, none⟩) (Nat.le_refl _) (.int .u64 (n2 : Int))).setCell (p := ⟨w.heap.size, 3, none⟩) (Nat.le_refl _) (.int .u64 (n3 : Int))).setCell (p := ⟨w.heap.size, 4, none⟩) (Nat.le_refl _) (.string (bs nm))).setCell (p := ⟨w.heap.size, 5, none⟩) (Nat.le_refl _) (.int .i64 (a0 : Int))).setCell (p := ⟨w.heap.size, 6, none⟩) (Nat.le_refl _) (.int .i64 (a1 : Int))).setCell (p := ⟨w.heap.size, 7, none⟩) (Nat.le_refl _) (.int .i64 (a2 : Int))).setCell (p := ⟨w.heap.size, 8, none⟩) (Nat.le_refl _) (.bool ((l[c].toNat : Int) == 1))).setCell (p := ⟨w.heap.size, 9, none⟩) (Nat.le_refl _) (.int .i64 (b0 : Int))).setCell (p := ⟨w.heap.size, 10, none⟩) (Nat.le_refl _) (.int .i64 ((b0 : Int) + b1)))
  · have HR : Hid (readRef l k = (zeroSp, 0, cc)) := Lib.hid (by rw [HRD.out, HCC.out, if_pos hcz])
    have hcn2 : (((cc : Nat) : Int) != 0) = true := by simp; omega
    go_wp2_with fail
    refine (refCheck_any ⟨n0, n1, n2, n3, nm, a0, a1, a2, ((l[c].toNat : Int) == 1), b0, (b0 : Int) + b1⟩ _ ⟨hn0, hn1, hn2, hn3, show nm.length ≤ 9223372036854775807 by omega⟩).mono ?_
    rw [HCC.out]
    rintro e w5 ⟨rfl, hb5⟩
    have hZ5 := hZ4.kept hb5
    have hbase5 := hbase4.trans (hb5.mono (Nat.le_of_lt hZ4.lt))
    have z0 := hZ5.cell (i := 0) rfl
    have z1 := hZ5.cell (i := 1) rfl
    have z2 := hZ5.cell (i := 2) rfl
    have z3 := hZ5.cell (i := 3) rfl
    have z4 := hZ5.cell (i := 4) rfl
    have z5 := hZ5.cell (i := 5) rfl
    have z6 := hZ5.cell (i := 6) rfl
    have z7 := hZ5.cell (i := 7) rfl
    have z8 := hZ5.cell (i := 8) rfl
    have z9 := hZ5.cell (i := 9) rfl
    have z10 := hZ5.cell (i := 10) rfl
    have y0 := hZ5.free 0
    have y1 := hZ5.free 1
    have y2 := hZ5.free 2
    have y3 := hZ5.free 3
    have y4 := hZ5.free 4
    have y5 := hZ5.free 5
    have y6 := hZ5.free 6
    have y7 := hZ5.free 7
    have y8 := hZ5.free 8
    have y9 := hZ5.free 9
    have y10 := hZ5.free 10
    go_wp2_with fail
    have HF := (((((((((((hZ5.set 0 (.int .u64 0)).set 1 (.int .u64 0)).set 2 (.int .u64 0)).set 3 (.int .u64 0)).set 4 (.string ⟨#[]⟩)).set 5 (.int .i64 0)).set 6 (.int .i64 0)).set 7 (.int .i64 0)).set 8 (.bool false)).set 9 (.int .i64 0)).set 10 (.int .i64 0))
    simp only [List.set] at HF
    refine bodyPost_ret (refRead_results _ w.heap.size (Sp.mk 0 0 0 0 [] 0 0 0 false 0 0) 0 (cc : Int) _ HF ?_ ?_ ?_) ?_ ⟨?_, ?_⟩
    · rfl
    · rfl
    · rfl
    · rfl
    · rw [HR.out]; first | rfl | done
    · exact (((((((((((hbase5.setCell (p := ⟨w.heap.size, 0, none⟩) (Nat.le_refl _) (.int .u64 0)).setCell (p := ⟨w.heap.size, 1, none⟩) (Nat.le_refl _) (.int .u64 0)).setCell (p := ⟨w.heap.size, 2, none⟩) (Nat.le_refl _) (.int .u64 0)).setCell (p := ⟨w.heap.size, 3, none⟩) (Nat.le_refl _) (.int .u64 0)).setCell (p := ⟨w.heap.size, 4, none⟩) (Nat.le_refl _) (.string ⟨#[]⟩)).setCell (p := ⟨w.heap.size, 5, none⟩) (Nat.le_refl _) (.int .i64 0)).setCell (p := ⟨w.heap.size, 6, none⟩) (Nat.le_refl _) (.int .i64 0)).setCell (p := ⟨w.heap.size, 7, none⟩) (Nat.le_refl _) (.int .i64 0)).setCell (p := ⟨w.heap.size, 8, none⟩) (Nat.le_refl _) (.bool false)).setCell (p := ⟨w.heap.size, 9, none⟩) (Nat.le_refl _) (.int .i64 0)).setCell (p := ⟨w.heap.size, 10, none⟩) (Nat.le_refl _) (.int .i64 0))

end Go.Proofs.YtfbhdkkmcfnghaaGreat
end
