/- Walks of pred.kinds, of, Check. Conditions: a text's length. -/
import Derived.Test.YtfbhdkkmcfnghaaGreatDoorPdSpec
import Derived.Test.YtfbhdkkmcfnghaaGreatDoorMsCheck
import Derived.Test.YtfbhdkkmcfnghaaGreatDoorOwnKit
namespace Go.Proofs.YtfbhdkkmcfnghaaGreatDoor
open Go.RowKit
set_option linter.unusedVariables false
set_option linter.unusedSimpArgs false

set_option maxHeartbeats 1000000 in
set_option maxRecDepth 100000 in
theorem pdWhen_any (k : Nat) (n : Int) (w : World) : Calls Tryz.prog 216 #[.func (.func k) #[] #[], .int .i64 n] w fun e w' => ∃ x y, e = .returned (.func (.func 241) #[] #[.pointer (some ⟨x, 0, none⟩), .pointer (some ⟨y, 0, none⟩)]) ∧ Held w' x [.func (.func k) #[] #[]] ∧ Held w' y [.int .i64 n] ∧ Below w.heap.size w w' := by
  have b1 := Below.alloc' (Below.self w) (.cells #[.func (.func k) #[] #[]] 108)
  have b2 := Below.alloc' (Below.self (w.alloc (.cells #[.func (.func k) #[] #[]] 108))) (.cells #[.int .i64 n] 30)
  have h1 := (Held.made w [.func (.func k) #[] #[]] 108).kept b2
  have h2 := Held.made (w.alloc (.cells #[.func (.func k) #[] #[]] 108)) [.int .i64 n] 30
  have HE : Stow (∀ W, W = (w.alloc (.cells #[.func (.func k) #[] #[]] 108)).alloc (.cells #[.int .i64 n] 30) → Held W w.heap.size [.func (.func k) #[] #[]] ∧ Held W (w.heap.size + 1) [.int .i64 n] ∧ Below w.heap.size w W) := ⟨by
    rintro W rfl
    exact ⟨h1, by simpa using h2, Below.call b1 b2⟩⟩
  clear b1 b2 h1 h2
  go_enter Tryz.func216, Tryz.ntmps216
  go_wp2_with fail
  go_ret
  exact ⟨w.heap.size, w.heap.size + 1, rfl, HE.out _ rfl⟩
/-- The kinds in memory. -/
structure PdK (w : World) (g x y z u : Nat) : Prop where
  hx : Held w x [(.func (.func 155) #[] #[])]
  hy : Held w y [.int .i64 7]
  hz : Held w z [(.func (.func 221) #[] #[])]
  hu : Held w u [.int .i64 15]
  hg : Held w g [.bool false, .bool true, (.func (.func 212) #[] #[]), (.func (.func 215) #[] #[]), .bool false, .bool true, (.func (.func 241) #[] #[.pointer (some ⟨x, 0, none⟩), .pointer (some ⟨y, 0, none⟩)]), (.func (.func 217) #[] #[]), .bool false, .bool true, (.func (.func 214) #[] #[]), (.func (.func 218) #[] #[]), .bool false, .bool true, (.func (.func 214) #[] #[]), (.func (.func 219) #[] #[]), .bool true, .bool true, (.func (.func 241) #[] #[.pointer (some ⟨z, 0, none⟩), .pointer (some ⟨u, 0, none⟩)]), (.func (.func 222) #[] #[]), .bool true, .bool false, (.func (.func 224) #[] #[]), (.func (.func 225) #[] #[])]
set_option maxHeartbeats 1000000 in
set_option maxRecDepth 100000 in
theorem pdKinds_any (w : World) : Calls Tryz.prog 186 #[] w fun e w' => ∃ g x y z u, e = .returned (.slice (some ⟨g, 0, none⟩) 6 6) ∧ PdK w' g x y z u ∧ Below w.heap.size w w' := by
  go_enter Tryz.func186, Tryz.ntmps186
  go_wp2_with fail
  refine (pdWhen_any 155 7 _).mono ?_
  rintro e w1 ⟨x, y, rfl, hx, hy, hb1⟩
  have HX := Stow.mk hx
  have HY := Stow.mk hy
  have HB := Stow.mk hb1
  clear hx hy hb1
  go_wp2_with fail
  refine (pdWhen_any 221 15 _).mono ?_
  rintro e w2 ⟨z, u, rfl, hz, hu, hb2⟩
  have HX := Stow.mk (HX.out.kept hb2)
  have HY := Stow.mk (HY.out.kept hb2)
  have HB := Stow.mk (HB.out.trans (hb2.mono HB.out.size))
  have hb3 := Below.alloc' (Below.self w2) (.cells ([.bool false, .bool true, (.func (.func 212) #[] #[]), (.func (.func 215) #[] #[]), .bool false, .bool true, (.func (.func 241) #[] #[.pointer (some ⟨x, 0, none⟩), .pointer (some ⟨y, 0, none⟩)]), (.func (.func 217) #[] #[]), .bool false, .bool true, (.func (.func 214) #[] #[]), (.func (.func 218) #[] #[]), .bool false, .bool true, (.func (.func 214) #[] #[]), (.func (.func 219) #[] #[]), .bool true, .bool true, (.func (.func 241) #[] #[.pointer (some ⟨z, 0, none⟩), .pointer (some ⟨u, 0, none⟩)]), (.func (.func 222) #[] #[]), .bool true, .bool false, (.func (.func 224) #[] #[]), (.func (.func 225) #[] #[])] : List Value).toArray 188)
  have HE : Stow (∀ W, W = w2.alloc (.cells ([.bool false, .bool true, (.func (.func 212) #[] #[]), (.func (.func 215) #[] #[]), .bool false, .bool true, (.func (.func 241) #[] #[.pointer (some ⟨x, 0, none⟩), .pointer (some ⟨y, 0, none⟩)]), (.func (.func 217) #[] #[]), .bool false, .bool true, (.func (.func 214) #[] #[]), (.func (.func 218) #[] #[]), .bool false, .bool true, (.func (.func 214) #[] #[]), (.func (.func 219) #[] #[]), .bool true, .bool true, (.func (.func 241) #[] #[.pointer (some ⟨z, 0, none⟩), .pointer (some ⟨u, 0, none⟩)]), (.func (.func 222) #[] #[]), .bool true, .bool false, (.func (.func 224) #[] #[]), (.func (.func 225) #[] #[])] : List Value).toArray 188) → PdK W w2.heap.size x y z u ∧ Below w.heap.size w W) := ⟨by
    rintro W rfl
    exact ⟨⟨HX.out.kept hb3, HY.out.kept hb3, hz.kept hb3, hu.kept hb3, Held.made w2 _ _⟩, HB.out.trans (hb3.mono HB.out.size)⟩⟩
  clear hz hu hb2 hb3
  go_wp2_with fail
  go_ret
  exact ⟨w2.heap.size, x, y, z, u, rfl, HE.out _ rfl⟩
theorem pdOf_results (W : World) (g : Nat) (a b c d f : Value) (tmps : Array Value) (hH : Held W g [a, b, c, d]) (h2 : tmps[2]?.getD undef = .pointer (some ⟨g, 0, none⟩)) (h3 : tmps[3]?.getD undef = f) :
    (results Tryz.f154 tmps).run Tryz.prog W = .ok (.tuple #[.agg #[a, b, c, d], f]) W := by
  have c0 := hH.cell (i := 0) rfl
  have c1 := hH.cell (i := 1) rfl
  have c2 := hH.cell (i := 2) rfl
  have c3 := hH.cell (i := 3) rfl
  simp [results, Tryz.results154, go_sem, h2, h3, c0, c1, c2, c3]
theorem held_ne {w : World} {x g : Nat} {a b : Value} {r s : List Value} (h : Held w x (a :: r)) (k : Held w g (b :: s)) (hab : a ≠ b) : x ≠ g := by
  rintro rfl
  have h1 := h.cell (i := 0) rfl
  have h2 := k.cell (i := 0) rfl
  rw [h1] at h2
  exact hab (Option.some.inj h2)
/-- What 'of' gives of a kind. -/
def OfOut (a b : Bool) (f : Nat → Nat → Nat → Nat → Value) (m : Value) (w : World) (e : Ending) (w' : World) : Prop := ∃ x y z u : Nat, e = .returned (.tuple #[.agg #[.bool a, .bool b, f x y z u, m], .bool true]) ∧ Held w' x [(.func (.func 155) #[] #[])] ∧ Held w' y [.int .i64 7] ∧ Held w' z [(.func (.func 221) #[] #[])] ∧ Held w' u [.int .i64 15] ∧ Below w.heap.size w w'
set_option maxHeartbeats 1000000 in
set_option maxRecDepth 100000 in
theorem pdOf_bad (n : Int) (hn : n < 1 ∨ 6 < n) (w : World) : Calls Tryz.prog 154 #[.int .i64 n] w fun e w' => e = .returned (.tuple #[.agg #[.bool false, .bool false, .nilFunc, .nilFunc], .bool false]) ∧ Below w.heap.size w w' := by
  have ba := Below.alloc' (Below.self w) (.cells #[.bool false, .bool false, .nilFunc, .nilFunc] 188)
  have h0 := Held.made w [.bool false, .bool false, .nilFunc, .nilFunc] 188
  have H1 := Stow.mk (h0.over [.bool false, .bool false, .nilFunc, .nilFunc] rfl)
  have HB := Stow.mk (ba.trans ((only_all (g := w.heap.size) [.bool false, .bool false, .nilFunc, .nilFunc] _ 0).below (Nat.le_refl _) ba.size))
  have HT := Stow.mk h0.there
  clear ba h0
  by_cases h1 : n < 1
  · go_enter Tryz.func154, Tryz.ntmps154
    go_wp2_with (refine wpList_store_hx rfl 188 (.tmp 2) (.tmp 10) rfl rfl w.heap.size 0 [.bool false, .bool false, .nilFunc, .nilFunc] rfl rfl HT.out (by kernel_rfl) (by intro u hu; simp at hu; rcases hu with rfl | rfl <;> rfl) ?_)
    refine bodyPost_ret (pdOf_results _ w.heap.size _ _ _ _ _ _ H1.out rfl rfl) rfl ?_
    exact ⟨rfl, HB.out⟩
  · have h6 : 6 < n := by omega
    go_enter Tryz.func154, Tryz.ntmps154
    go_wp2_with (refine wpList_store_hx rfl 188 (.tmp 2) (.tmp 10) rfl rfl w.heap.size 0 [.bool false, .bool false, .nilFunc, .nilFunc] rfl rfl HT.out (by kernel_rfl) (by intro u hu; simp at hu; rcases hu with rfl | rfl <;> rfl) ?_)
    refine bodyPost_ret (pdOf_results _ w.heap.size _ _ _ _ _ _ H1.out rfl rfl) rfl ?_
    exact ⟨rfl, HB.out⟩
set_option maxHeartbeats 1000000 in
set_option maxRecDepth 100000 in
theorem pdOf_1 (w : World) : Calls Tryz.prog 154 #[.int .i64 1] w (OfOut false true (fun x y z u => (.func (.func 212) #[] #[])) (.func (.func 215) #[] #[]) w) := by
  have ba := Below.alloc' (Below.self w) (.cells #[.bool false, .bool false, .nilFunc, .nilFunc] 188)
  have H0 := Stow.mk (Held.made w [.bool false, .bool false, .nilFunc, .nilFunc] 188)
  have HB := Stow.mk ba
  clear ba
  go_enter Tryz.func154, Tryz.ntmps154
  go_upto_region 3 with fail
  go_wp2_with fail
  refine (pdKinds_any _).mono ?_
  rintro e w1 ⟨g, x, y, z, u, rfl, hk, hb⟩
  have h0 := H0.out.kept hb
  have nx := held_ne hk.hx h0 (by simp)
  have ny := held_ne hk.hy h0 (by simp)
  have nz := held_ne hk.hz h0 (by simp)
  have nu := held_ne hk.hu h0 (by simp)
  have hO := only_all (g := w.heap.size) [.bool false, .bool true, (.func (.func 212) #[] #[]), (.func (.func 215) #[] #[])] w1 0
  have H1 := Stow.mk (h0.over [.bool false, .bool true, (.func (.func 212) #[] #[]), (.func (.func 215) #[] #[])] rfl)
  have HXX := Stow.mk (hk.hx.offO hO nx)
  have HYY := Stow.mk (hk.hy.offO hO ny)
  have HZZ := Stow.mk (hk.hz.offO hO nz)
  have HUU := Stow.mk (hk.hu.offO hO nu)
  have HB1 := Stow.mk ((HB.out.trans (hb.mono HB.out.size)).trans (hO.below (Nat.le_refl _) (HB.out.trans (hb.mono HB.out.size)).size))
  have HG := Stow.mk hk.hg
  have q0 := HG.out.cell (i := 0) rfl
  have q1 := HG.out.cell (i := 0 + 1) rfl
  have q2 := HG.out.cell (i := 0 + 2) rfl
  have q3 := HG.out.cell (i := 0 + 3) rfl
  have c0 := h0.cell (i := 0) rfl
  have c1 := h0.cell (i := 1) rfl
  have c2 := h0.cell (i := 2) rfl
  have c3 := h0.cell (i := 3) rfl
  have HT := Stow.mk (show w1.there w.heap.size 0 [.bool false, .bool true, (.func (.func 212) #[] #[]), (.func (.func 215) #[] #[])].length from h0.there)
  clear hk h0 hb nx ny nz nu hO c0 c1 c2 c3
  go_wp2_with (refine wpList_store_hx rfl 188 (.tmp 2) (.tmp 15) rfl rfl w.heap.size 0 [.bool false, .bool true, (.func (.func 212) #[] #[]), (.func (.func 215) #[] #[])] rfl rfl HT.out (by kernel_rfl) (by intro v hv; simp at hv; rcases hv with rfl | rfl | rfl | rfl <;> rfl) ?_)
  refine bodyPost_ret (pdOf_results _ w.heap.size _ _ _ _ _ _ H1.out rfl rfl) rfl ?_
  exact ⟨x, y, z, u, rfl, HXX.out, HYY.out, HZZ.out, HUU.out, HB1.out⟩
set_option maxHeartbeats 1000000 in
set_option maxRecDepth 100000 in
theorem pdOf_2 (w : World) : Calls Tryz.prog 154 #[.int .i64 2] w (OfOut false true (fun x y z u => (.func (.func 241) #[] #[.pointer (some ⟨x, 0, none⟩), .pointer (some ⟨y, 0, none⟩)])) (.func (.func 217) #[] #[]) w) := by
  have ba := Below.alloc' (Below.self w) (.cells #[.bool false, .bool false, .nilFunc, .nilFunc] 188)
  have H0 := Stow.mk (Held.made w [.bool false, .bool false, .nilFunc, .nilFunc] 188)
  have HB := Stow.mk ba
  clear ba
  go_enter Tryz.func154, Tryz.ntmps154
  go_upto_region 3 with fail
  go_wp2_with fail
  refine (pdKinds_any _).mono ?_
  rintro e w1 ⟨g, x, y, z, u, rfl, hk, hb⟩
  have h0 := H0.out.kept hb
  have nx := held_ne hk.hx h0 (by simp)
  have ny := held_ne hk.hy h0 (by simp)
  have nz := held_ne hk.hz h0 (by simp)
  have nu := held_ne hk.hu h0 (by simp)
  have hO := only_all (g := w.heap.size) [.bool false, .bool true, (.func (.func 241) #[] #[.pointer (some ⟨x, 0, none⟩), .pointer (some ⟨y, 0, none⟩)]), (.func (.func 217) #[] #[])] w1 0
  have H1 := Stow.mk (h0.over [.bool false, .bool true, (.func (.func 241) #[] #[.pointer (some ⟨x, 0, none⟩), .pointer (some ⟨y, 0, none⟩)]), (.func (.func 217) #[] #[])] rfl)
  have HXX := Stow.mk (hk.hx.offO hO nx)
  have HYY := Stow.mk (hk.hy.offO hO ny)
  have HZZ := Stow.mk (hk.hz.offO hO nz)
  have HUU := Stow.mk (hk.hu.offO hO nu)
  have HB1 := Stow.mk ((HB.out.trans (hb.mono HB.out.size)).trans (hO.below (Nat.le_refl _) (HB.out.trans (hb.mono HB.out.size)).size))
  have HG := Stow.mk hk.hg
  have q0 := HG.out.cell (i := 4) rfl
  have q1 := HG.out.cell (i := 4 + 1) rfl
  have q2 := HG.out.cell (i := 4 + 2) rfl
  have q3 := HG.out.cell (i := 4 + 3) rfl
  have c0 := h0.cell (i := 0) rfl
  have c1 := h0.cell (i := 1) rfl
  have c2 := h0.cell (i := 2) rfl
  have c3 := h0.cell (i := 3) rfl
  have HT := Stow.mk (show w1.there w.heap.size 0 [.bool false, .bool true, (.func (.func 241) #[] #[.pointer (some ⟨x, 0, none⟩), .pointer (some ⟨y, 0, none⟩)]), (.func (.func 217) #[] #[])].length from h0.there)
  clear hk h0 hb nx ny nz nu hO c0 c1 c2 c3
  go_wp2_with (refine wpList_store_hx rfl 188 (.tmp 2) (.tmp 15) rfl rfl w.heap.size 0 [.bool false, .bool true, (.func (.func 241) #[] #[.pointer (some ⟨x, 0, none⟩), .pointer (some ⟨y, 0, none⟩)]), (.func (.func 217) #[] #[])] rfl rfl HT.out (by kernel_rfl) (by intro v hv; simp at hv; rcases hv with rfl | rfl | rfl | rfl <;> rfl) ?_)
  refine bodyPost_ret (pdOf_results _ w.heap.size _ _ _ _ _ _ H1.out rfl rfl) rfl ?_
  exact ⟨x, y, z, u, rfl, HXX.out, HYY.out, HZZ.out, HUU.out, HB1.out⟩
set_option maxHeartbeats 1000000 in
set_option maxRecDepth 100000 in
theorem pdOf_3 (w : World) : Calls Tryz.prog 154 #[.int .i64 3] w (OfOut false true (fun x y z u => (.func (.func 214) #[] #[])) (.func (.func 218) #[] #[]) w) := by
  have ba := Below.alloc' (Below.self w) (.cells #[.bool false, .bool false, .nilFunc, .nilFunc] 188)
  have H0 := Stow.mk (Held.made w [.bool false, .bool false, .nilFunc, .nilFunc] 188)
  have HB := Stow.mk ba
  clear ba
  go_enter Tryz.func154, Tryz.ntmps154
  go_upto_region 3 with fail
  go_wp2_with fail
  refine (pdKinds_any _).mono ?_
  rintro e w1 ⟨g, x, y, z, u, rfl, hk, hb⟩
  have h0 := H0.out.kept hb
  have nx := held_ne hk.hx h0 (by simp)
  have ny := held_ne hk.hy h0 (by simp)
  have nz := held_ne hk.hz h0 (by simp)
  have nu := held_ne hk.hu h0 (by simp)
  have hO := only_all (g := w.heap.size) [.bool false, .bool true, (.func (.func 214) #[] #[]), (.func (.func 218) #[] #[])] w1 0
  have H1 := Stow.mk (h0.over [.bool false, .bool true, (.func (.func 214) #[] #[]), (.func (.func 218) #[] #[])] rfl)
  have HXX := Stow.mk (hk.hx.offO hO nx)
  have HYY := Stow.mk (hk.hy.offO hO ny)
  have HZZ := Stow.mk (hk.hz.offO hO nz)
  have HUU := Stow.mk (hk.hu.offO hO nu)
  have HB1 := Stow.mk ((HB.out.trans (hb.mono HB.out.size)).trans (hO.below (Nat.le_refl _) (HB.out.trans (hb.mono HB.out.size)).size))
  have HG := Stow.mk hk.hg
  have q0 := HG.out.cell (i := 8) rfl
  have q1 := HG.out.cell (i := 8 + 1) rfl
  have q2 := HG.out.cell (i := 8 + 2) rfl
  have q3 := HG.out.cell (i := 8 + 3) rfl
  have c0 := h0.cell (i := 0) rfl
  have c1 := h0.cell (i := 1) rfl
  have c2 := h0.cell (i := 2) rfl
  have c3 := h0.cell (i := 3) rfl
  have HT := Stow.mk (show w1.there w.heap.size 0 [.bool false, .bool true, (.func (.func 214) #[] #[]), (.func (.func 218) #[] #[])].length from h0.there)
  clear hk h0 hb nx ny nz nu hO c0 c1 c2 c3
  go_wp2_with (refine wpList_store_hx rfl 188 (.tmp 2) (.tmp 15) rfl rfl w.heap.size 0 [.bool false, .bool true, (.func (.func 214) #[] #[]), (.func (.func 218) #[] #[])] rfl rfl HT.out (by kernel_rfl) (by intro v hv; simp at hv; rcases hv with rfl | rfl | rfl | rfl <;> rfl) ?_)
  refine bodyPost_ret (pdOf_results _ w.heap.size _ _ _ _ _ _ H1.out rfl rfl) rfl ?_
  exact ⟨x, y, z, u, rfl, HXX.out, HYY.out, HZZ.out, HUU.out, HB1.out⟩
set_option maxHeartbeats 1000000 in
set_option maxRecDepth 100000 in
theorem pdOf_4 (w : World) : Calls Tryz.prog 154 #[.int .i64 4] w (OfOut false true (fun x y z u => (.func (.func 214) #[] #[])) (.func (.func 219) #[] #[]) w) := by
  have ba := Below.alloc' (Below.self w) (.cells #[.bool false, .bool false, .nilFunc, .nilFunc] 188)
  have H0 := Stow.mk (Held.made w [.bool false, .bool false, .nilFunc, .nilFunc] 188)
  have HB := Stow.mk ba
  clear ba
  go_enter Tryz.func154, Tryz.ntmps154
  go_upto_region 3 with fail
  go_wp2_with fail
  refine (pdKinds_any _).mono ?_
  rintro e w1 ⟨g, x, y, z, u, rfl, hk, hb⟩
  have h0 := H0.out.kept hb
  have nx := held_ne hk.hx h0 (by simp)
  have ny := held_ne hk.hy h0 (by simp)
  have nz := held_ne hk.hz h0 (by simp)
  have nu := held_ne hk.hu h0 (by simp)
  have hO := only_all (g := w.heap.size) [.bool false, .bool true, (.func (.func 214) #[] #[]), (.func (.func 219) #[] #[])] w1 0
  have H1 := Stow.mk (h0.over [.bool false, .bool true, (.func (.func 214) #[] #[]), (.func (.func 219) #[] #[])] rfl)
  have HXX := Stow.mk (hk.hx.offO hO nx)
  have HYY := Stow.mk (hk.hy.offO hO ny)
  have HZZ := Stow.mk (hk.hz.offO hO nz)
  have HUU := Stow.mk (hk.hu.offO hO nu)
  have HB1 := Stow.mk ((HB.out.trans (hb.mono HB.out.size)).trans (hO.below (Nat.le_refl _) (HB.out.trans (hb.mono HB.out.size)).size))
  have HG := Stow.mk hk.hg
  have q0 := HG.out.cell (i := 12) rfl
  have q1 := HG.out.cell (i := 12 + 1) rfl
  have q2 := HG.out.cell (i := 12 + 2) rfl
  have q3 := HG.out.cell (i := 12 + 3) rfl
  have c0 := h0.cell (i := 0) rfl
  have c1 := h0.cell (i := 1) rfl
  have c2 := h0.cell (i := 2) rfl
  have c3 := h0.cell (i := 3) rfl
  have HT := Stow.mk (show w1.there w.heap.size 0 [.bool false, .bool true, (.func (.func 214) #[] #[]), (.func (.func 219) #[] #[])].length from h0.there)
  clear hk h0 hb nx ny nz nu hO c0 c1 c2 c3
  go_wp2_with (refine wpList_store_hx rfl 188 (.tmp 2) (.tmp 15) rfl rfl w.heap.size 0 [.bool false, .bool true, (.func (.func 214) #[] #[]), (.func (.func 219) #[] #[])] rfl rfl HT.out (by kernel_rfl) (by intro v hv; simp at hv; rcases hv with rfl | rfl | rfl | rfl <;> rfl) ?_)
  refine bodyPost_ret (pdOf_results _ w.heap.size _ _ _ _ _ _ H1.out rfl rfl) rfl ?_
  exact ⟨x, y, z, u, rfl, HXX.out, HYY.out, HZZ.out, HUU.out, HB1.out⟩
set_option maxHeartbeats 1000000 in
set_option maxRecDepth 100000 in
theorem pdOf_5 (w : World) : Calls Tryz.prog 154 #[.int .i64 5] w (OfOut true true (fun x y z u => (.func (.func 241) #[] #[.pointer (some ⟨z, 0, none⟩), .pointer (some ⟨u, 0, none⟩)])) (.func (.func 222) #[] #[]) w) := by
  have ba := Below.alloc' (Below.self w) (.cells #[.bool false, .bool false, .nilFunc, .nilFunc] 188)
  have H0 := Stow.mk (Held.made w [.bool false, .bool false, .nilFunc, .nilFunc] 188)
  have HB := Stow.mk ba
  clear ba
  go_enter Tryz.func154, Tryz.ntmps154
  go_upto_region 3 with fail
  go_wp2_with fail
  refine (pdKinds_any _).mono ?_
  rintro e w1 ⟨g, x, y, z, u, rfl, hk, hb⟩
  have h0 := H0.out.kept hb
  have nx := held_ne hk.hx h0 (by simp)
  have ny := held_ne hk.hy h0 (by simp)
  have nz := held_ne hk.hz h0 (by simp)
  have nu := held_ne hk.hu h0 (by simp)
  have hO := only_all (g := w.heap.size) [.bool true, .bool true, (.func (.func 241) #[] #[.pointer (some ⟨z, 0, none⟩), .pointer (some ⟨u, 0, none⟩)]), (.func (.func 222) #[] #[])] w1 0
  have H1 := Stow.mk (h0.over [.bool true, .bool true, (.func (.func 241) #[] #[.pointer (some ⟨z, 0, none⟩), .pointer (some ⟨u, 0, none⟩)]), (.func (.func 222) #[] #[])] rfl)
  have HXX := Stow.mk (hk.hx.offO hO nx)
  have HYY := Stow.mk (hk.hy.offO hO ny)
  have HZZ := Stow.mk (hk.hz.offO hO nz)
  have HUU := Stow.mk (hk.hu.offO hO nu)
  have HB1 := Stow.mk ((HB.out.trans (hb.mono HB.out.size)).trans (hO.below (Nat.le_refl _) (HB.out.trans (hb.mono HB.out.size)).size))
  have HG := Stow.mk hk.hg
  have q0 := HG.out.cell (i := 16) rfl
  have q1 := HG.out.cell (i := 16 + 1) rfl
  have q2 := HG.out.cell (i := 16 + 2) rfl
  have q3 := HG.out.cell (i := 16 + 3) rfl
  have c0 := h0.cell (i := 0) rfl
  have c1 := h0.cell (i := 1) rfl
  have c2 := h0.cell (i := 2) rfl
  have c3 := h0.cell (i := 3) rfl
  have HT := Stow.mk (show w1.there w.heap.size 0 [.bool true, .bool true, (.func (.func 241) #[] #[.pointer (some ⟨z, 0, none⟩), .pointer (some ⟨u, 0, none⟩)]), (.func (.func 222) #[] #[])].length from h0.there)
  clear hk h0 hb nx ny nz nu hO c0 c1 c2 c3
  go_wp2_with (refine wpList_store_hx rfl 188 (.tmp 2) (.tmp 15) rfl rfl w.heap.size 0 [.bool true, .bool true, (.func (.func 241) #[] #[.pointer (some ⟨z, 0, none⟩), .pointer (some ⟨u, 0, none⟩)]), (.func (.func 222) #[] #[])] rfl rfl HT.out (by kernel_rfl) (by intro v hv; simp at hv; rcases hv with rfl | rfl | rfl | rfl <;> rfl) ?_)
  refine bodyPost_ret (pdOf_results _ w.heap.size _ _ _ _ _ _ H1.out rfl rfl) rfl ?_
  exact ⟨x, y, z, u, rfl, HXX.out, HYY.out, HZZ.out, HUU.out, HB1.out⟩
set_option maxHeartbeats 1000000 in
set_option maxRecDepth 100000 in
theorem pdOf_6 (w : World) : Calls Tryz.prog 154 #[.int .i64 6] w (OfOut true false (fun x y z u => (.func (.func 224) #[] #[])) (.func (.func 225) #[] #[]) w) := by
  have ba := Below.alloc' (Below.self w) (.cells #[.bool false, .bool false, .nilFunc, .nilFunc] 188)
  have H0 := Stow.mk (Held.made w [.bool false, .bool false, .nilFunc, .nilFunc] 188)
  have HB := Stow.mk ba
  clear ba
  go_enter Tryz.func154, Tryz.ntmps154
  go_upto_region 3 with fail
  go_wp2_with fail
  refine (pdKinds_any _).mono ?_
  rintro e w1 ⟨g, x, y, z, u, rfl, hk, hb⟩
  have h0 := H0.out.kept hb
  have nx := held_ne hk.hx h0 (by simp)
  have ny := held_ne hk.hy h0 (by simp)
  have nz := held_ne hk.hz h0 (by simp)
  have nu := held_ne hk.hu h0 (by simp)
  have hO := only_all (g := w.heap.size) [.bool true, .bool false, (.func (.func 224) #[] #[]), (.func (.func 225) #[] #[])] w1 0
  have H1 := Stow.mk (h0.over [.bool true, .bool false, (.func (.func 224) #[] #[]), (.func (.func 225) #[] #[])] rfl)
  have HXX := Stow.mk (hk.hx.offO hO nx)
  have HYY := Stow.mk (hk.hy.offO hO ny)
  have HZZ := Stow.mk (hk.hz.offO hO nz)
  have HUU := Stow.mk (hk.hu.offO hO nu)
  have HB1 := Stow.mk ((HB.out.trans (hb.mono HB.out.size)).trans (hO.below (Nat.le_refl _) (HB.out.trans (hb.mono HB.out.size)).size))
  have HG := Stow.mk hk.hg
  have q0 := HG.out.cell (i := 20) rfl
  have q1 := HG.out.cell (i := 20 + 1) rfl
  have q2 := HG.out.cell (i := 20 + 2) rfl
  have q3 := HG.out.cell (i := 20 + 3) rfl
  have c0 := h0.cell (i := 0) rfl
  have c1 := h0.cell (i := 1) rfl
  have c2 := h0.cell (i := 2) rfl
  have c3 := h0.cell (i := 3) rfl
  have HT := Stow.mk (show w1.there w.heap.size 0 [.bool true, .bool false, (.func (.func 224) #[] #[]), (.func (.func 225) #[] #[])].length from h0.there)
  clear hk h0 hb nx ny nz nu hO c0 c1 c2 c3
  go_wp2_with (refine wpList_store_hx rfl 188 (.tmp 2) (.tmp 15) rfl rfl w.heap.size 0 [.bool true, .bool false, (.func (.func 224) #[] #[]), (.func (.func 225) #[] #[])] rfl rfl HT.out (by kernel_rfl) (by intro v hv; simp at hv; rcases hv with rfl | rfl | rfl | rfl <;> rfl) ?_)
  refine bodyPost_ret (pdOf_results _ w.heap.size _ _ _ _ _ _ H1.out rfl rfl) rfl ?_
  exact ⟨x, y, z, u, rfl, HXX.out, HYY.out, HZZ.out, HUU.out, HB1.out⟩
end Go.Proofs.YtfbhdkkmcfnghaaGreatDoor
