/- Walk of the reference's Get. Conditions: the books' memory. -/
import Derived.Test.YthbpcdoddcacdaaBkRef
namespace Go.Proofs.Ythbpcdoddcacdaa
open Go.RowKit
set_option linter.unusedVariables false

theorem Bk.get_none {M : Bk.Bd} {k : Bk.Tx} (h : ∀ p ∈ M, p.1 ≠ k) : Bk.get M k = none ∧ Bk.has M k = false := by
  have h1 : Bk.has M k = false := by unfold Bk.has; rw [List.any_eq_false]; intro p hp; simpa using h p hp
  refine ⟨?_, h1⟩
  have := Bk.get_has M k
  rw [h1] at this
  simpa using this
theorem Bk.get_hit {M : Bk.Bd} {k : Bk.Tx} (h : Bk.Sorted M) {j : Nat} (hj : j < M.length) (hk : M[j].1 = k) : Bk.get M k = some M[j].2 ∧ Bk.has M k = true := by
  have h1 : Bk.get M k = some M[j].2 := by rw [← hk]; exact Bk.get_at h hj
  refine ⟨h1, ?_⟩
  have := Bk.get_has M k
  rw [h1] at this
  exact this.symm
theorem Bk.Ok.of1 {S : Bk.St} (h : S.Ok) (n : Int) (s : Bool) : (S.of n s).length ≤ 16 ∧ Bk.Sorted (S.of n s) := by
  unfold Bk.St.of
  split
  · exact ⟨h.few _ _, h.sorted _ _⟩
  · exact ⟨by simp, List.Pairwise.nil⟩

set_option maxHeartbeats 1000000 in
set_option maxRecDepth 100000 in
theorem refGet_any (w : World) (A : Option Addr) (cap : Nat) (rows : List Value) (S : Bk.St) (n : Int) (s : Bool) (k : Bk.Tx) (h : RfR w A cap rows S) (hok : S.Ok) :
    Calls Try.prog 53 #[rfv A cap S, .int .i64 n, .bool s, .string (bs k)] w fun e w' => e = .returned (.tuple #[.string (bs ((Bk.get (S.of n s) k).getD [])), .bool (Bk.has (S.of n s) k)]) ∧ Below w.heap.size w w' := by
  have hb1 : Below w.heap.size w (w.alloc (.cells #[.int .i64 (S.nodes : Nat), .slice A (2 * S.nodes) cap, .int .i64 (S.lost : Nat)] 73)) := Below.alloc' (Below.self w) _
  have HB := Stow.mk hb1
  have HH := Held.made w [.int .i64 (S.nodes : Nat), .slice A (2 * S.nodes) cap, .int .i64 (S.lost : Nat)] 73
  have HRA : Stow ((w.alloc (.cells #[.int .i64 (S.nodes : Nat), .slice A (2 * S.nodes) cap, .int .i64 (S.lost : Nat)] 73)).rangeAt w.heap.size 0 [.int .i64 (S.nodes : Nat), .slice A (2 * S.nodes) cap, .int .i64 (S.lost : Nat)]) := ⟨fun j v hj => by rw [Nat.zero_add]; exact HH.cell hj⟩
  have HO := Stow.mk (refOf_any _ A cap rows S n s (h.keep hb1))
  have hm := (Bk.Ok.of1 hok n s)
  have HSO := Stow.mk hm.2
  clear hb1 h HH hok
  obtain ⟨M, hM⟩ : ∃ M, S.of n s = M := ⟨_, rfl⟩
  rw [hM] at HO HSO hm ⊢
  have h16 := hm.1
  clear hM hm
  go_enter Try.func53, Try.ntmps53
  go_upto_region 2 with (first
    | (refine wpList_load_mid rfl 73 (.tmp 4) rfl w.heap.size 0 rfl [.int .i64 (S.nodes : Nat), .slice A (2 * S.nodes) cap, .int .i64 (S.lost : Nat)] _ HRA.out Try.underlying73 rfl (by kernel_rfl) ?_)
    | (refine HO.out.mono ?_; rintro e w1 ⟨A', c', rfl, hE, hb1⟩; have HE := Stow.mk hE; have HB1 := Stow.mk hb1; clear hE hb1))
  have HW := Stow.mk (HB.out.trans (HB1.out.mono HB.out.size))
  clear HO HRA HB1 HB
  go_wp2_with fail
  go_loopw [11] (fun u wr => ∃ j : Nat, u = .int .i64 (j : Int) ∧ j ≤ M.length ∧ Stow (∀ p ∈ M.take j, p.1 ≠ k) ∧ Stow (Below w1.heap.size w1 wr)) (fun u _ => M.length - (intOf u).toNat)
  case atStart => exact ⟨0, rfl, by omega, ⟨by simp⟩, ⟨Below.self _⟩⟩
  case round =>
    obtain ⟨j, rfl, hj, HNO, HBR⟩ := hrel
    by_cases hlt : j < M.length
    · have hE := HE.out.keep HBR.out
      obtain ⟨b, off, rfl, hb, _⟩ := hE.open (by simp; omega)
      have hi : (M.map enc)[j]? = some (enc M[j]) := by rw [List.getElem?_map, List.getElem?_eq_getElem hlt]; rfl
      have c0 := (hE.cells hi).2 0 _ rfl
      have c1 := (hE.cells hi).2 1 _ rfl
      have HNX : Stow (M[j].1 ≠ k → ∀ p ∈ M.take (j + 1), p.1 ≠ k) := ⟨fun hne p hp => by
        rw [List.take_succ_eq_append_getElem hlt] at hp
        rcases List.mem_append.1 hp with hp | hp
        · exact HNO.out p hp
        · obtain rfl : p = M[j] := by simpa using hp
          exact hne⟩
      have HHIT : Stow (M[j].1 = k → Bk.get M k = some M[j].2 ∧ Bk.has M k = true) := ⟨fun hk => Bk.get_hit HSO.out hlt hk⟩
      obtain ⟨s1, hs1⟩ : ∃ s, M[j] = s := ⟨_, rfl⟩
      rw [hs1] at c0 c1 HNX HHIT
      obtain ⟨x, y⟩ := s1
      simp only [Nat.add_zero] at c0
      have hji : (j : Int) < M.length := by omega
      clear hi hs1 hE
      by_cases hx : x = k
      · obtain ⟨g1, g2⟩ := HHIT.out hx
        have HG1 := Stow.mk g1
        have HG2 := Stow.mk g2
        subst hx
        clear g1 g2 HHIT HNX
        go_wp2_with fail
        go_ret2
        rw [HG1.out, HG2.out]
        exact ⟨rfl, HW.out.trans (HBR.out.mono HW.out.size)⟩
      · have hne : (x == k) = false := by simpa using hx
        have HN2 := Stow.mk (HNX.out hx)
        clear HHIT HNX hx
        go_wp2_with fail
        exact ⟨⟨j + 1, rfl, by omega, HN2, HBR⟩, by simp [intOf]; omega⟩
    · obtain rfl : j = M.length := by omega
      have h2 := HNO.out
      rw [List.take_length] at h2
      have HG := Stow.mk (Bk.get_none h2)
      have hni : ¬ (M.length : Int) < M.length := by omega
      clear h2 HNO
      go_wp2_with fail
      go_ret2
      rw [HG.out.1, HG.out.2]
      exact ⟨rfl, HW.out.trans (HBR.out.mono HW.out.size)⟩
end Go.Proofs.Ythbpcdoddcacdaa
