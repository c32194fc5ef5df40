/- Walks of book.New, has, Lost, Get. Conditions: the books' memory; texts no longer than a length may be. -/
import Derived.Test.YthbpcdoddcacdaaBkMap
import Derived.Laws.LoneSync
import Derived.Laws.Pointers
import Derived.BigRegion
namespace Go.Proofs.Ythbpcdoddcacdaa
open Go.RowKit
set_option linter.unusedVariables false

theorem i64_load (a : Addr) (d : Int) (w : World) (hc : w.cell? a = some (.int .i64 d)) :
    Calls Try.prog 89 #[.pointer (some a)] w fun e w' => e = .returned (.int .i64 d) ∧ w' = w := by
  have hl := run_call_load (P := Try.prog) Try.func108 (by kernel_rfl) (by kernel_rfl) (by kernel_rfl) .i64 (by kernel_rfl) hc
  go_enter Try.func89, Try.ntmps89
  go_wp2
  go_ret
  exact ⟨rfl, rfl⟩
theorem i64_store (a : Addr) (d e : Int) (w : World) (hc : w.cell? a = some (.int .i64 d)) (hz : w.frozen? a = false) :
    Calls Try.prog 88 #[.pointer (some a), .int .i64 e] w fun x w' => x = .returned (.tuple #[]) ∧ w' = w.setCell a (.int .i64 e) := by
  have hl := run_call_store (P := Try.prog) Try.func107 (by kernel_rfl) (by kernel_rfl) (by kernel_rfl) (by kernel_rfl) (k := .i64) (y := e) hc hz
  go_enter Try.func88, Try.ntmps88
  go_wp2
  go_end0
  exact ⟨rfl, rfl⟩

/-- Is there such a node. -/
def hasB (S : Bk.St) (n : Int) : Bool := decide (0 ≤ n ∧ n < S.nodes)
set_option maxHeartbeats 1000000 in
set_option maxRecDepth 100000 in
theorem bkHas_any (g : Nat) (S : Bk.St) (n : Int) (x y : Value) (w : World) (hH : Held w g [.int .i64 (S.nodes : Nat), x, y]) :
    Calls Try.prog 87 #[.pointer (some ⟨g, 0, none⟩), .int .i64 n] w fun e w' => e = .returned (.bool (hasB S n)) ∧ w' = w := by
  have q0 := hH.cell (i := 0) rfl
  obtain ⟨k, hk⟩ : ∃ k, S.nodes = k := ⟨_, rfl⟩
  unfold hasB
  rw [hk] at q0 ⊢
  clear hk hH
  by_cases h1 : 0 ≤ n
  · have d1 : decide (0 ≤ n) = true := by simpa using h1
    by_cases h2 : n < k
    · have d2 : decide (n < (k : Int)) = true := by simpa using h2
      have d3 : decide (0 ≤ n ∧ n < (k : Int)) = true := by simp; omega
      rw [d3]
      clear d3
      go_enter Try.func87, Try.ntmps87
      go_wp2_with fail
      go_ret
      exact ⟨rfl, rfl⟩
    · have d2 : decide (n < (k : Int)) = false := by simpa using h2
      have d3 : decide (0 ≤ n ∧ n < (k : Int)) = false := by simp; omega
      rw [d3]
      clear d3
      go_enter Try.func87, Try.ntmps87
      go_wp2_with fail
      go_ret
      exact ⟨rfl, rfl⟩
  · have d1 : decide (0 ≤ n) = false := by simpa using h1
    have d3 : decide (0 ≤ n ∧ n < (k : Int)) = false := by simp; omega
    rw [d3]
    clear d3
    go_enter Try.func87, Try.ntmps87
    go_wp2_with fail
    go_ret
    exact ⟨rfl, rfl⟩
set_option maxHeartbeats 1000000 in
set_option maxRecDepth 100000 in
theorem bkHas_nil (n : Int) (w : World) : Calls Try.prog 87 #[.pointer none, .int .i64 n] w fun e w' => e = .returned (.bool false) ∧ w' = w := by
  go_enter Try.func87, Try.ntmps87
  go_wp2_with fail
  go_ret
  exact ⟨rfl, rfl⟩
set_option maxHeartbeats 1000000 in
set_option maxRecDepth 100000 in
theorem bkLost_any (w : World) (F : Nat → Prop) (g c : Nat) (S : Bk.St) (h : BKs w F g S c) : Calls Try.prog 51 #[.pointer (some ⟨g, 0, none⟩)] w fun e w' => e = .returned (.int .i64 (S.lost : Nat)) ∧ w' = w := by
  obtain ⟨m, N, Do, blk, _, hB⟩ := h
  have hk := i64_load ⟨g, 2, none⟩ _ w (hB.head.cell (i := 2) rfl)
  obtain ⟨k, hk2⟩ : ∃ k, S.lost = k := ⟨_, rfl⟩
  rw [hk2] at hk ⊢
  have HK := Stow.mk hk
  clear hk hk2 hB
  go_enter Try.func51, Try.ntmps51
  go_wp2_with (go_at_call 89; refine HK.out.mono ?_; rintro e w' ⟨rfl, rfl⟩)
  go_ret
  exact ⟨rfl, rfl⟩
set_option maxHeartbeats 1000000 in
set_option maxRecDepth 100000 in
theorem bkLost_nil (w : World) : Calls Try.prog 51 #[.pointer none] w fun e w' => e = .returned (.int .i64 0) ∧ w' = w := by
  go_enter Try.func51, Try.ntmps51
  go_wp2_with fail
  go_ret
  exact ⟨rfl, rfl⟩

/-- Empty books. -/
theorem BK.fresh (w : World) (n : Int) : BKs ((w.alloc (.map #[] 0)).alloc (.cells #[.int .i64 ((Bk.new n).nodes : Nat), .map (some w.heap.size), .int .i64 0] 136)) (fun k => w.heap.size ≤ k) (w.heap.size + 1) (Bk.new n) 0 := by
  have hm : ((w.alloc (.map #[] 0)).alloc (.cells #[.int .i64 ((Bk.new n).nodes : Nat), .map (some w.heap.size), .int .i64 0] 136)).ownsMap Try.prog 141 rb w.heap.size 0 (.map []) := (World.ownsMap_made w Try.prog 141 rb).alloc _
  have hh := Held.made (w.alloc (.map #[] 0)) [.int .i64 ((Bk.new n).nodes : Nat), .map (some w.heap.size), .int .i64 0] 136
  rw [show (w.alloc (.map #[] 0)).heap.size = w.heap.size + 1 by simp] at hh
  exact ⟨w.heap.size, 0, .map [], fun _ _ => none, Nat.le_refl _,
    { head := hh, outer := hm, no := fun _ _ _ _ => rfl, yes := fun _ _ _ _ h => (nomatch h), inner := fun _ _ _ _ h => (nomatch h), nil := fun _ _ _ _ => rfl, inj := fun _ _ _ _ _ _ _ h => (nomatch h),
      own := ⟨Nat.le_succ _, Nat.le_refl _, fun _ _ _ _ h => (nomatch h)⟩, gm := by omega, ne := fun _ _ _ _ h => (nomatch h), ok := Bk.new_ok n }⟩
set_option maxHeartbeats 1000000 in
set_option maxRecDepth 100000 in
theorem bkNew_any (n : Int) (w : World) : Calls Try.prog 47 #[.int .i64 n] w fun e w' => ∃ g, e = .returned (.pointer (some ⟨g, 0, none⟩)) ∧ BKs w' (fun k => w.heap.size ≤ k) g (Bk.new n) 0 ∧ Below w.heap.size w w' := by
  have HF := Stow.mk (BK.fresh w n)
  have HB : Stow (Below w.heap.size w ((w.alloc (.map #[] 0)).alloc (.cells #[.int .i64 ((Bk.new n).nodes : Nat), .map (some w.heap.size), .int .i64 0] 136))) := ⟨Below.alloc' (Below.alloc' (Below.self w) _) _⟩
  obtain ⟨k, hk⟩ : ∃ k, (Bk.new n).nodes = k := ⟨_, rfl⟩
  have hkv : (k : Int) = max 0 (min n 8) := by rw [← hk]; unfold Bk.new; dsimp only; omega
  rw [hk] at HF HB
  clear hk
  have hmm := @run_makeMap Try.prog
  rcases (by omega : n ≤ 0 ∨ 0 < n) with h1 | h1
  · obtain rfl : k = 0 := by omega
    have a1 : ¬ (8 ≤ n) := by omega
    have a2 : n < 8 := by omega
    have a3 : ¬ 0 < n := by omega
    clear hkv
    go_enter Try.func47, Try.ntmps47
    go_wp2_with fail
    go_ret
    exact ⟨_, rfl, HF.out, HB.out⟩
  · rcases (by omega : n ≤ 8 ∨ 8 < n) with h2 | h2
    · obtain rfl : n = k := by omega
      have a3 : 0 < k := by omega
      clear hkv
      go_enter Try.func47, Try.ntmps47
      go_wp2_with fail
      go_ret
      exact ⟨_, rfl, HF.out, HB.out⟩
    · obtain rfl : k = 8 := by omega
      clear hkv
      go_enter Try.func47, Try.ntmps47
      go_wp2_with fail
      go_ret
      exact ⟨_, rfl, HF.out, HB.out⟩
end Go.Proofs.Ythbpcdoddcacdaa
