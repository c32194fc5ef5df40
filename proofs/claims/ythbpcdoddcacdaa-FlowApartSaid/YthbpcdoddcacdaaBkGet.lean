/- Walks of book's Get and All. Conditions: the books' memory; texts no longer than a length may be. -/
import Derived.Test.YthbpcdoddcacdaaBkKeys
import Derived.Test.YthbpcdoddcacdaaSlice
namespace Go.Proofs.Ythbpcdoddcacdaa
open Go.RowKit
set_option linter.unusedVariables false

theorem hasB_no {S : Bk.St} {n : Int} (h : hasB S n = false) (s : Bool) : S.of n s = [] := by
  unfold Bk.St.of
  rw [if_neg (by simpa [hasB] using h)]
theorem hasB_yes {S : Bk.St} {n : Int} (h : hasB S n = true) : ∃ k : Nat, n = k ∧ k < S.nodes ∧ ∀ s, S.of n s = S.bk k s := by
  have h1 : 0 ≤ n ∧ n < S.nodes := by simpa [hasB] using h
  refine ⟨n.toNat, by omega, by omega, fun s => ?_⟩
  unfold Bk.St.of
  rw [if_pos h1]

set_option maxHeartbeats 1000000 in
set_option maxRecDepth 100000 in
theorem bkGet_any (w : World) (F : Nat → Prop) (g c : Nat) (S : Bk.St) (n : Int) (s : Bool) (k : Bk.Tx) (h : BKs w F g S c) (hk : k.length ≤ maxLen) :
    Calls Try.prog 52 #[.pointer (some ⟨g, 0, none⟩), .int .i64 n, .bool s, .string (bs k)] w fun e w' => e = .returned (.tuple #[.string (bs ((Bk.get (S.of n s) k).getD [])), .bool (Bk.has (S.of n s) k)]) ∧ Below w.heap.size w w' := by
  obtain ⟨m, N, Do, blk, _, hB⟩ := h
  have HK := Stow.mk (bkHas_any g S n _ _ w hB.head)
  obtain ⟨b, hb⟩ : ∃ b, hasB S n = b := ⟨_, rfl⟩
  rw [hb] at HK
  cases b
  · rw [hasB_no hb]
    clear hb hB
    go_enter Try.func52, Try.ntmps52
    go_wp2_with fail
    refine HK.out.mono ?_
    rintro e w1 ⟨rfl, rfl⟩
    go_wp2_with fail
    go_ret2
    exact ⟨rfl, Below.self _⟩
  · obtain ⟨n, rfl, hn, hof⟩ := hasB_yes hb
    rw [hof]
    have hl := hB.look (s := s) hn
    have hg := hB.get (s := s) hn hk
    have q1 := hB.head.cell (i := 1) rfl
    obtain ⟨v, hv⟩ : ∃ v, (Bk.get (S.bk n s) k).getD [] = v := ⟨_, rfl⟩
    obtain ⟨r, hr⟩ : ∃ r, Bk.has (S.bk n s) k = r := ⟨_, rfl⟩
    obtain ⟨bb, hbb⟩ : ∃ bb, blk n s = bb := ⟨_, rfl⟩
    rw [hv, hr, hbb] at hg
    rw [hbb] at hl
    rw [hv, hr]
    unfold plv at hl
    have HA := Stow.mk (Below.alloc' (Below.self w) (.cells #[.string (bs v)] 144))
    clear hb hB hof hv hr hbb
    go_enter Try.func52, Try.ntmps52
    go_wp2_with fail
    refine HK.out.mono ?_
    rintro e w1 ⟨rfl, hw1⟩
    subst hw1
    go_wp2_with fail
    go_ret2
    exact ⟨rfl, HA.out⟩
set_option maxHeartbeats 1000000 in
set_option maxRecDepth 100000 in
theorem bkGet_nil (n : Int) (s : Bool) (k : Value) (w : World) : Calls Try.prog 52 #[.pointer none, .int .i64 n, .bool s, k] w fun e w' => e = .returned (.tuple #[.string (bs []), .bool false]) ∧ w' = w := by
  go_enter Try.func52, Try.ntmps52
  go_wp2_with fail
  refine (bkHas_nil n w).mono ?_
  rintro e w1 ⟨rfl, rfl⟩
  go_wp2_with fail
  go_ret2
  exact ⟨rfl, rfl⟩
end Go.Proofs.Ythbpcdoddcacdaa
