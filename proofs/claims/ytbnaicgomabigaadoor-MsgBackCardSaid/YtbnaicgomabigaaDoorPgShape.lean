/- Walks of prog.shapes, of, fits, traced. Condition: texts no longer than an int can say. -/
import Derived.Test.YtbnaicgomabigaaDoorMsCheck
import Derived.Test.YtbnaicgomabigaaDoorPgCheckLaw
import Derived.Deep.MidRow
namespace Go.Proofs.YtbnaicgomabigaaDoor
open Go.RowKit
set_option linter.unusedVariables false

namespace Pg
def shape (k : Int) : List Value := [.string (bs (word k)), .int .i64 (sa k), .int .i64 (sb k), .int .i64 (sn k)]
def shapes : List Value := shape 1 ++ shape 2 ++ shape 3 ++ shape 4 ++ shape 5 ++ shape 6 ++ shape 7
end Pg


theorem there_made (w : World) (cells : Array Value) (t : TypeId) : (w.alloc (.cells cells t)).there w.heap.size 0 cells.size := by
  intro j hj
  have h : Held (w.alloc (.cells cells t)) w.heap.size cells.toList := Held.made w cells.toList t
  refine ⟨?_, h.free _⟩
  have := h.cell (i := j) (v := cells[j]) (by simp [hj])
  rw [Nat.zero_add, this]
  rfl
theorem Below.setCells {B : Nat} {w : World} {b : Nat} (hb : B ≤ b) : ∀ (vs : List Value) (o : Nat) (w' : World), Below B w w' → Below B w (w'.setCells b o vs)
  | [], _, _, h => h
  | v :: vs, o, w', h => Below.setCells hb vs (o + 1) _ (h.setCell (p := ⟨b, o, none⟩) hb v)

theorem shapes_results (W : World) (g : Nat) (tmps : Array Value) (hH : W.rangeAt g 0 Pg.shapes) (h2 : tmps[0]?.getD undef = .pointer (some ⟨g, 0, none⟩)) :
    (results Tryd.f53 tmps).run Tryd.prog W = .ok (.agg Pg.shapes.toArray) W := by
  have h := run_loadVar_mid (P := Tryd.prog) W g 0 83 Pg.shapes _ hH Tryd.underlying83 rfl (by kernel_rfl)
  simp [results, Tryd.results53, asAddr, h2, h]

set_option maxHeartbeats 1000000 in
set_option maxRecDepth 100000 in
theorem pgShapes_any (w : World) : Calls Tryd.prog 53 #[] w fun e w' => e = .returned (.agg Pg.shapes.toArray) ∧ Below w.heap.size w w' := by
  go_enter Tryd.func53, Tryd.ntmps53
  go_wp2_with (refine wpList_store_mid rfl 83 (.tmp 0) (.tmp 8) rfl w.heap.size 0 Pg.shapes.toArray rfl rfl (there_made _ _ _) (by kernel_rfl) (by kernel_rfl) ?_)
  refine bodyPost_ret (shapes_results _ w.heap.size _ (World.rangeAt_setCells_same _ _ _ _ (there_made _ _ _)) rfl) rfl ?_
  exact ⟨rfl, Below.setCells (Nat.le_refl _) _ _ _ (Below.alloc' (Below.self _) _)⟩

theorem shape_agg : ∀ w, (isAgg 75).run Tryd.prog w = .ok true w := by
  intro w
  simp [isAgg, run_underlying Tryd.underlying75, go_sem]
theorem shape_size : ∀ w, (Go.sizeOf 75).run Tryd.prog w = .ok 4 w := by
  intro w
  simp [go_sem]
theorem idx_shape (cs : Array Value) (k : Nat) (hk : k < 7) (w : World) : (Instr.index 83 (.agg cs) (.int .i64 (k : Int))).run Tryd.prog w = .ok (.agg (cs.extract (k * 4) (k * 4 + 4))) w := by
  have h1 : (0 : Int) ≤ k ∧ (k : Int) < 7 := by omega
  simp [Instr.index, run_underlying Tryd.underlying83, asIntOf, part, h1, go_sem]
  intro h; omega
/-- The shape of a kind. -/
theorem idx_shapes (k i : Int) (hi : i = k - 1) (h0 : 1 ≤ k) (h1 : k ≤ 7) (w : World) : (Instr.index 83 (.agg Pg.shapes.toArray) (.int .i64 i)).run Tryd.prog w = .ok (.agg #[.string (bs (Pg.word k)), .int .i64 (Pg.sa k), .int .i64 (Pg.sb k), .int .i64 (Pg.sn k)]) w := by
  subst hi
  rcases Pg.kind_cases h0 h1 with rfl | rfl | rfl | rfl | rfl | rfl | rfl
  · exact idx_shape Pg.shapes.toArray 0 (by decide) w
  · exact idx_shape Pg.shapes.toArray 1 (by decide) w
  · exact idx_shape Pg.shapes.toArray 2 (by decide) w
  · exact idx_shape Pg.shapes.toArray 3 (by decide) w
  · exact idx_shape Pg.shapes.toArray 4 (by decide) w
  · exact idx_shape Pg.shapes.toArray 5 (by decide) w
  · exact idx_shape Pg.shapes.toArray 6 (by decide) w
theorem of_results (W : World) (g : Nat) (a b c d : Value) (ok : Bool) (tmps : Array Value) (hH : Held W g [a, b, c, d]) (h2 : tmps[2]?.getD undef = .pointer (some ⟨g, 0, none⟩)) (h3 : tmps[3]?.getD undef = .bool ok) :
    (results Tryd.f47 tmps).run Tryd.prog W = .ok (.tuple #[.agg #[a, b, c, d], .bool ok]) W := by
  have c0 := hH.cell (i := 0) rfl
  have c1 := hH.cell (i := 1) rfl
  have c2 := hH.cell (i := 2) rfl
  have c3 := hH.cell (i := 3) rfl
  simp [results, Tryd.results47, go_sem, h2, h3, c0, c1, c2, c3]

set_option maxHeartbeats 2000000 in
set_option maxRecDepth 100000 in
theorem pgOf_no (k : Int) (w : World) (h : k < 1 ∨ 7 < k) : Calls Tryd.prog 47 #[.int .i64 k] w fun e w' => e = .returned (.tuple #[.agg #[.string ⟨#[]⟩, .int .i64 0, .int .i64 0, .int .i64 0], .bool false]) ∧ Below w.heap.size w w' := by
  have hM := Held.made w [.string ⟨#[]⟩, .int .i64 0, .int .i64 0, .int .i64 0] 75
  have HM := Stow.mk hM
  have c0 := hM.cell (i := 0) rfl
  have c1 := hM.cell (i := 1) rfl
  have c2 := hM.cell (i := 2) rfl
  have c3 := hM.cell (i := 3) rfl
  clear hM
  rcases h with h | h
  · go_enter Tryd.func47, Tryd.ntmps47
    go_wp2_with fail
    refine bodyPost_ret (of_results _ w.heap.size (.string ⟨#[]⟩) (.int .i64 0) (.int .i64 0) (.int .i64 0) false _ HM.out rfl rfl) rfl ?_
    exact ⟨rfl, Below.alloc' (Below.self _) _⟩
  · by_cases h0 : k < 1
    · omega
    go_enter Tryd.func47, Tryd.ntmps47
    go_wp2_with fail
    refine bodyPost_ret (of_results _ w.heap.size (.string ⟨#[]⟩) (.int .i64 0) (.int .i64 0) (.int .i64 0) false _ HM.out rfl rfl) rfl ?_
    exact ⟨rfl, Below.alloc' (Below.self _) _⟩

set_option maxHeartbeats 2000000 in
set_option maxRecDepth 100000 in
theorem pgOf_any (k : Int) (w : World) (h0 : 1 ≤ k) (h1 : k ≤ 7) : Calls Tryd.prog 47 #[.int .i64 k] w fun e w' => e = .returned (.tuple #[.agg #[.string (bs (Pg.word k)), .int .i64 (Pg.sa k), .int .i64 (Pg.sb k), .int .i64 (Pg.sn k)], .bool true]) ∧ Below w.heap.size w w' := by
  have HM : Stow (∀ w1, Below (w.alloc (.cells #[.string ⟨#[]⟩, .int .i64 0, .int .i64 0, .int .i64 0] 75)).heap.size (w.alloc (.cells #[.string ⟨#[]⟩, .int .i64 0, .int .i64 0, .int .i64 0] 75)) w1 → Held w1 w.heap.size [.string ⟨#[]⟩, .int .i64 0, .int .i64 0, .int .i64 0]) := ⟨fun w1 hb => (Held.made w [.string ⟨#[]⟩, .int .i64 0, .int .i64 0, .int .i64 0] 75).kept hb⟩
  have hix := idx_shapes k (k - 1) rfl h0 h1
  have hsub : IntKind.i64.wrap (k - 1) = k - 1 := IntWalk.i64_in _ (by omega)
  have hk0 : ¬ k < 1 := by omega
  have hk1 : ¬ 7 < k := by omega
  go_enter Tryd.func47, Tryd.ntmps47
  go_wp2_with fail
  refine (pgShapes_any _).mono ?_
  rintro e w1 ⟨rfl, hb1⟩
  have hM := HM.out w1 hb1
  have c0 := hM.cell (i := 0) rfl
  have c1 := hM.cell (i := 1) rfl
  have c2 := hM.cell (i := 2) rfl
  have c3 := hM.cell (i := 3) rfl
  have f0 := hM.free 0
  have f1 := hM.free 1
  have f2 := hM.free 2
  have f3 := hM.free 3
  have HM1 := Stow.mk hM
  have HB1 := Stow.mk (Below.call (Below.alloc' (Below.self _) _) hb1)
  clear hM hb1
  go_wp2_with fail
  refine bodyPost_ret (of_results _ w.heap.size (.string (bs (Pg.word k))) (.int .i64 (Pg.sa k)) (.int .i64 (Pg.sb k)) (.int .i64 (Pg.sn k)) true _ ((((HM1.out.set 0 (.string (bs (Pg.word k)))).set 1 (.int .i64 (Pg.sa k))).set 2 (.int .i64 (Pg.sb k))).set 3 (.int .i64 (Pg.sn k))) rfl rfl) rfl ?_
  exact ⟨rfl, (((HB1.out.setCell (p := ⟨w.heap.size, 0, none⟩) (Nat.le_refl _) _).setCell (p := ⟨w.heap.size, 1, none⟩) (Nat.le_refl _) _).setCell (p := ⟨w.heap.size, 2, none⟩) (Nat.le_refl _) _).setCell (p := ⟨w.heap.size, 3, none⟩) (Nat.le_refl _) _⟩

set_option maxHeartbeats 400000 in
set_option maxRecDepth 100000 in
theorem pgTraced_any (l : List UInt8) (w : World) : Calls Tryd.prog 57 #[.string (bs l)] w fun e w' => e = .returned (.bool (Pg.traced l)) ∧ w' = w := by
  obtain ⟨c, hc⟩ : ∃ c, (l == [116, 114, 97, 99, 101, 112, 97, 114, 101, 110, 116]) = c := ⟨_, rfl⟩
  obtain ⟨d, hd⟩ : ∃ d, (l == [116, 114, 97, 99, 101, 115, 116, 97, 116, 101]) = d := ⟨_, rfl⟩
  have HR : Stow (Pg.traced l = (c || d)) := ⟨by unfold Pg.traced; rw [hc, hd]⟩
  cases c <;> cases d
  all_goals
    go_enter Tryd.func57, Tryd.ntmps57
    go_wp2_with fail
    go_ret
    exact ⟨by rw [HR.out]; rfl, rfl⟩

theorem Pg.fits_path (l : List UInt8) : Ms.check ⟨[65], [97], l, [], []⟩ = if Ms.pathOk l = false then 12 else 0 := by
  unfold Ms.check
  cases Ms.pathOk l <;> rfl

set_option maxHeartbeats 1000000 in
set_option maxRecDepth 100000 in
theorem pgFits_any (l : List UInt8) (k : Int) (w : World) (hl : l.length ≤ 140737488355328) (hk : k = 0 ∨ k = 1 ∨ k = 2 ∨ k = 3 ∨ k = 4) : Calls Tryd.prog 56 #[.string (bs l), .int .i64 k] w fun e w' => e = .returned (.int .i64 (Pg.fits l k : Nat)) ∧ Below w.heap.size w w' := by
  rcases hk with rfl | rfl | rfl | rfl | rfl
  · go_enter Tryd.func56, Tryd.ntmps56
    go_wp2_with fail
    go_ret
    exact ⟨rfl, Below.self _⟩
  · obtain ⟨c, hc⟩ : ∃ c, Ms.valueOk l = c := ⟨_, rfl⟩
    have HR : Stow (Pg.fits l 1 = if c = false then 15 else 0) := ⟨by unfold Pg.fits; rw [hc]; cases c <;> rfl⟩
    have HC := Stow.mk hc
    clear hc
    cases c
    all_goals
      go_enter Tryd.func56, Tryd.ntmps56
      go_wp2_with fail
      refine (value_any l _ (by omega)).mono ?_
      rw [HC.out]
      rintro e w1 ⟨rfl, rfl⟩
      go_wp2_with fail
      go_ret
      exact ⟨by rw [HR.out]; rfl, Below.self _⟩
  · obtain ⟨c, hc⟩ : ∃ c, nameOk l = c := ⟨_, rfl⟩
    have HR : Stow (Pg.fits l 2 = if c = false then 7 else 0) := ⟨by unfold Pg.fits; rw [hc]; cases c <;> rfl⟩
    have HC := Stow.mk hc
    clear hc
    cases c
    all_goals
      go_enter Tryd.func56, Tryd.ntmps56
      go_wp2_with fail
      refine (name_any l _ (by omega)).mono ?_
      rw [HC.out]
      rintro e w1 ⟨rfl, rfl⟩
      go_wp2_with fail
      go_ret
      exact ⟨by rw [HR.out]; rfl, Below.self _⟩
  · obtain ⟨c, hc⟩ : ∃ c, Ms.pathOk l = c := ⟨_, rfl⟩
    have HR : Stow (Pg.fits l 3 = if c = false then 12 else 0) := ⟨by unfold Pg.fits; rw [hc]; cases c <;> rfl⟩
    have HC : Stow (Ms.check ⟨[65], [97], l, [], []⟩ = if c = false then 12 else 0) := ⟨by rw [Pg.fits_path, hc]⟩
    clear hc
    cases c
    all_goals
      go_enter Tryd.func56, Tryd.ntmps56
      go_wp2_with fail
      refine (msCheck_any ⟨[65], [97], l, [], []⟩ none 0 _ ⟨SlR.nil _ _, by simp⟩ ⟨by simp, by simp, hl, by simp⟩).mono ?_
      rw [HC.out]
      rintro e w1 ⟨rfl, hb1⟩
      go_wp2_with fail
      go_ret
      exact ⟨by rw [HR.out]; rfl, hb1⟩
  · go_enter Tryd.func56, Tryd.ntmps56
    go_wp2_with fail
    go_ret
    exact ⟨rfl, Below.self _⟩
end Go.Proofs.YtbnaicgomabigaaDoor
