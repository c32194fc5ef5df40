/- Walk of book's Put where a book is made. Conditions: the books' memory; texts no longer than a length may be. -/
import Derived.Test.YthbpcdoddcacdaaBkPut
namespace Go.Proofs.Ythbpcdoddcacdaa
open Go.RowKit
set_option linter.unusedVariables false

set_option maxHeartbeats 4000000 in
set_option maxRecDepth 100000 in
theorem bkPut_new (w : World) (F : Nat → Prop) (g c m N : Nat) (Do : DataW Unit) (blk : Nat → Bool → Option Nat) (S : Bk.St) (n : Nat) (s : Bool) (k v : Bk.Tx) (hB : BK w F g S m N Do blk) (hN : N ≤ c) (hc : c < 1000000) (hn : n < S.nodes) (hbl : blk n s = none) (hk : k.length ≤ maxLen) (hv : v.length ≤ maxLen) :
    Calls Try.prog 50 #[.pointer (some ⟨g, 0, none⟩), .int .i64 (n : Int), .bool s, .string (bs k), .string (bs v)] w fun e w' => PutOut (S.put n s k v).1 (S.put n s k v).2 F g c w e w' := by
  have HK := Stow.mk (bkHas_any g S n _ _ w hB.head)
  have hh : hasB S (n : Int) = true := by unfold hasB; simp; omega
  rw [hh] at HK
  have HW0 := Stow.mk (Below.alloc' (Below.self w) (.cells #[.int .i64 (n : Int), .bool s] 141))
  obtain ⟨w1, hw1⟩ : ∃ w1, w.alloc (.cells #[.int .i64 (n : Int), .bool s] 141) = w1 := ⟨_, rfl⟩
  have HP := Stow.mk (Held.made w [.int .i64 (n : Int), .bool s] 141)
  have HB1 := Stow.mk (hB.keep HW0.out)
  have hgw := hB.head.lt
  have hmw := hB.outer.lt
  clear hh
  go_enter Try.func50, Try.ntmps50
  go_wp2_with fail
  refine HK.out.mono ?_
  rintro e w0 ⟨rfl, hw0⟩
  subst hw0
  go_upto_region 4 with fail
  rw [show (w0.alloc (.cells [.int .i64 (n : Int), .bool s].toArray 141)) = w1 from hw1] at HP
  rw [hw1] at HB1 HW0
  have hl : ∀ q, (Instr.lookup 129 (.map (some m)) (.agg #[.int .i64 (n : Int), .bool s]) false).run Try.prog (w1.drewN q) = .ok (.map none) (w1.drewN q) := fun q => by
    have h1 := (HB1.out.keep (Below.drewN' (Below.self _) q)).look (s := s) hn
    rw [hbl] at h1
    exact h1
  have q1 := HB1.out.head.cell (i := 1) rfl
  have p0 := HP.out.cell (i := 0) rfl
  have p1 := HP.out.cell (i := 1) rfl
  clear hw1 HK hB
  have heq := map_nil none
  go_wp2_with fail
  go_quiet (fail)
  go_upto_region 5 with fail
  have HBa := Stow.mk (HB1.out.keep (Below.drewN' (Below.self _) nq))
  have HPa := Stow.mk (HP.out.drewN nq)
  have HWa := Stow.mk (Below.drewN' HW0.out nq)
  generalize hWa : World.drewN _ _ = Wa
  rw [hWa] at HBa HPa HWa
  clear hWa q1 p0 p1 HB1 HP HW0 heq hl
  have hmm := @run_makeMap Try.prog
  have hn8 : n < 8 := Nat.lt_of_lt_of_le hn HBa.out.ok.nodes
  have ba0 := Below.alloc' (Below.self Wa) (.map #[] 0)
  have HBX := Stow.mk ((HBa.out.keep ba0).keep (Below.drew (Below.self _)))
  obtain ⟨W2, hrun, hown, hg2⟩ := HBX.out.outer.update placeK Try.underlying129 (by unfold maxLen; omega) (plk_ok hn8 s) (show rb (.map (some Wa.heap.size)) = some (.lit (.int .i64 (Wa.heap.size : Int)), []) from rfl)
  have HMK := Stow.mk (BK.make (w := Wa.drew) (HBa.out.keep (Below.drew (Below.self Wa))) hn hbl rfl hown hg2)
  have HT2 : Stow (Turn F w0 W2) := ⟨(Turn.of_below (Below.drew HWa.out)).trans HMK.out.2 fun _ h => .inl h⟩
  have HP2 : Stow (Held W2 w0.heap.size [.int .i64 (n : Int), .bool s]) := ⟨held_turn ((HPa.out.kept ba0).drew) (Turn.of_grown (F := fun k => k = m) hg2 (.inl rfl)) (by omega)⟩
  have q1 := HBa.out.head.cell (i := 1) rfl
  have p0 := HPa.out.cell (i := 0) rfl
  have p1 := HPa.out.cell (i := 1) rfl
  have a0 := (HPa.out.kept ba0).cell (i := 0) rfl
  have a1 := (HPa.out.kept ba0).cell (i := 1) rfl
  have a2 := (HBa.out.head.kept ba0).cell (i := 1) rfl
  have hwa := HWa.out.size
  unfold plv at hrun
  clear ba0 hown hg2 HBX
  go_region
  all_goals
    clear q1 p0 p1 a0 a1 a2 hrun hmm
    obtain ⟨b, hb⟩ : ∃ b, Wa.heap.size = b := ⟨_, rfl⟩
    have hbW : Wa.drew.heap.size = b := hb
    obtain ⟨F2, hF2⟩ : ∃ F2, (fun k => F k ∨ k = Wa.drew.heap.size) = F2 := ⟨_, rfl⟩
    have HF2 : Stow (∀ k, F2 k → F k ∨ w0.heap.size ≤ k) := ⟨by
      subst hF2
      intro k hk
      rcases hk with h | h
      · exact .inl h
      · right; rw [hbW] at h; omega⟩
    have HB2 := Stow.mk HMK.out.1
    rw [hF2] at HB2
    obtain ⟨Do2, hDo2⟩ : ∃ Do2, (Do.put (plk n s) (.lit (.int .i64 (Wa.drew.heap.size : Nat)))) = Do2 := ⟨_, rfl⟩
    rw [hDo2] at HB2
    obtain ⟨blk2, hblk2⟩ : ∃ blk2, (fun n' s' => if n' = n ∧ s' = s then some Wa.drew.heap.size else blk n' s') = blk2 := ⟨_, rfl⟩
    rw [hblk2] at HB2
    have hbl2 : blk2 n s = some b := by subst hblk2; rw [← hbW]; simp
    obtain ⟨N2, hN2e⟩ : ∃ N2, N + 1 = N2 := ⟨_, rfl⟩
    rw [hN2e] at HB2
    have hN2 : N2 ≤ c + 1 := by omega
    clear hF2 hDo2 hblk2 HMK hbl hN hb hbW HBa HPa HWa hN2e
    go_upto_region 6 with fail
    obtain ⟨L, hL⟩ : ∃ L, S.bk n s = L := ⟨_, rfl⟩
    obtain ⟨got, hgot⟩ : ∃ x, (Bk.get L k).getD [] = x := ⟨_, rfl⟩
    obtain ⟨r, hr⟩ : ∃ x, Bk.has L k = x := ⟨_, rfl⟩
    have HLO : Stow (∀ W, BK W F2 g S m N2 Do2 blk2 → (Instr.lookup 129 (.map (some m)) (.agg #[.int .i64 (n : Int), .bool s]) false).run Try.prog W = .ok (.map (some b)) W) := ⟨fun W h => by
      have h1 := h.look (s := s) hn
      rw [hbl2] at h1
      exact h1⟩
    have HGE : Stow (∀ W, BK W F2 g S m N2 Do2 blk2 → (Instr.lookup 142 (.map (some b)) (.string (bs k)) true).run Try.prog W = .ok (.tuple #[.agg #[.string (bs got)], .bool r]) W) := ⟨fun W h => by
      have h1 := h.get (s := s) hn hk
      rw [hbl2, hL, hgot, hr] at h1
      exact h1⟩
    have q1 := HB2.out.head.cell (i := 1) rfl
    have p0 := HP2.out.cell (i := 0) rfl
    have p1 := HP2.out.cell (i := 1) rfl
    have ba : Below W2.heap.size W2 (W2.alloc (.cells #[.string ⟨#[]⟩] 144)).drew := Below.drew (Below.alloc' (Below.self W2) _)
    have l1 := HLO.out W2.drew (HB2.out.keep (Below.drew (Below.self W2)))
    have g1 := HGE.out W2.drew (HB2.out.keep (Below.drew (Below.self W2)))
    have l2 := HLO.out _ (HB2.out.keep ba)
    have g2 := HGE.out _ (HB2.out.keep ba)
    have z1 : (w0.heap.size == W2.heap.size) = false := by have := HP2.out.lt; simp; omega
    have z2 : (g == W2.heap.size) = false := by have := HB2.out.head.lt; simp; omega
    have z3 : w0.heap.size ≠ W2.heap.size := by have := HP2.out.lt; omega
    have z4 : g ≠ W2.heap.size := by have := HB2.out.head.lt; omega
    have ba0 := Below.alloc' (Below.self W2) (.cells #[.string ⟨#[]⟩] 144)
    have a0 := (HP2.out.kept ba0).cell (i := 0) rfl
    have a1 := (HP2.out.kept ba0).cell (i := 1) rfl
    have a2 := (HB2.out.head.kept ba0).cell (i := 1) rfl
    clear ba ba0
    go_region
    all_goals
      have ba3 : Below W2.heap.size W2 (W2.alloc (.cells #[.string (bs got)] 144)).drew := Below.drew (Below.alloc' (Below.self W2) _)
      have HB3 := Stow.mk (HB2.out.keep ba3)
      have HP3 := Stow.mk (HP2.out.kept ba3)
      have HW3 := Stow.mk (HT2.out.trans (Turn.of_below (F := F2) ba3) HF2.out)
      clear q1 p0 p1 l1 g1 l2 g2 z1 z2 z3 z4 a0 a1 a2 ba3
      generalize World.drew _ = W3 at HB3 HP3 HW3 ⊢
      clear HB2 HP2 HT2
      have hLd := HB3.out.ok.few n s
      have HLEN : Stow (∀ W, BK W F2 g S m N2 Do2 blk2 → (Builtin.len_ #[142] 3 #[.map (some b)]).run Try.prog W = .ok (.int .i64 (L.length : Nat)) W) := ⟨fun W h => by
        have h1 := World.ownsMap.len (h.inner n s b hn hbl2) Try.underlying142 3
        rw [Bk.dat_size, hL] at h1
        exact h1⟩
      have hlq : ∀ q, (Instr.lookup 129 (.map (some m)) (.agg #[.int .i64 (n : Int), .bool s]) false).run Try.prog (W3.drewN q) = .ok (.map (some b)) (W3.drewN q) := fun q => HLO.out _ (HB3.out.keep (Below.drewN' (Below.self _) q))
      have hnq : ∀ q, (Builtin.len_ #[142] 3 #[.map (some b)]).run Try.prog (W3.drewN q) = .ok (.int .i64 (L.length : Nat)) (W3.drewN q) := fun q => HLEN.out _ (HB3.out.keep (Below.drewN' (Below.self _) q))
      have q1 := HB3.out.head.cell (i := 1) rfl
      have p0 := HP3.out.cell (i := 0) rfl
      have p1 := HP3.out.cell (i := 1) rfl
      rw [hL] at hLd
      by_cases hfull : r = false ∧ 16 ≤ L.length
      · obtain ⟨rfl, h16⟩ := hfull
        have d1 : decide ((16 : Int) ≤ L.length) = true := by simp; omega
        have d1' : decide (16 ≤ L.length) = true := by simpa using h16
        have HSP := Stow.mk (Bk.put_full (v := v) hn (by rw [hL]; exact hr) (by rw [hL]; exact h16))
        have hlo := HB3.out.ok.lost
        go_wp2_with fail
        go_quiet (fail)
        have HB4 := Stow.mk (HB3.out.keep (Below.drewN' (Below.self _) nq))
        have HW4 := Stow.mk (HW3.out.trans (Turn.of_below (F := F2) (Below.drewN' (Below.self W3) nq)) HF2.out)
        generalize hW4 : World.drewN _ _ = W4
        rw [hW4] at HB4 HW4
        clear hW4 hlq hnq q1 p0 p1 HB3 HP3 HW3 HLEN HLO HGE
        have HBD := Stow.mk (HB4.out.keep (Below.drew (Below.self W4)))
        have HWD := Stow.mk (HW4.out.trans (Turn.of_below (F := F2) (Below.drew (Below.self W4))) HF2.out)
        have HLD := Stow.mk (i64_load ⟨g, 2, none⟩ _ _ (HBD.out.head.cell (i := 2) rfl))
        by_cases hm1 : S.lost < 1099511627776
        · obtain ⟨l1, hl1⟩ : ∃ l1, S.lost + 1 = l1 := ⟨_, rfl⟩
          have e1 : IntKind.i64.wrap ((S.lost : Int) + 1) = (l1 : Int) := by rw [IntWalk.i64_in _ (by omega)]; omega
          have HSQ : Stow (S.put n s k v = ({ S with lost := l1 }, false)) := ⟨by rw [HSP.out, ← hl1]; unfold Bk.bump; rw [if_pos hm1]⟩
          have e2 : (l1 : Int) ≤ 1099511627776 := by omega
          have e4 : min (l1 : Int) 1099511627776 = (l1 : Int) := Int.min_eq_left e2
          have HLO2 := Stow.mk (HBD.out.lose (l := l1) (by omega))
          have HST := Stow.mk (i64_store ⟨g, 2, none⟩ _ (l1 : Int) _ (HBD.out.head.cell (i := 2) rfl) (HBD.out.head.free 2))
          clear hl1 hm1 hlo
          go_wp2_with fail
          go_region_with (first
            | (go_at_call 89; refine HLD.out.mono ?_; rintro e w5 ⟨rfl, rfl⟩)
            | (go_at_call 88; refine HST.out.mono ?_; rintro e w6 ⟨rfl, rfl⟩))
          all_goals
            go_wp2_with fail
            go_ret
            unfold PutOut
            rw [HSQ.out]
            exact ⟨rfl, F2, ⟨m, N2, Do2, blk2, hN2, HLO2.out.1⟩, HF2.out, HWD.out.trans HLO2.out.2 HF2.out⟩
        · have e1 : IntKind.i64.wrap ((S.lost : Int) + 1) = 1099511627777 := by rw [IntWalk.i64_in _ (by omega)]; omega
          have HSQ : Stow (S.put n s k v = ({ S with lost := S.lost }, false)) := ⟨by rw [HSP.out]; unfold Bk.bump; rw [if_neg hm1]⟩
          have e3 : ((S.lost : Nat) : Int) = 1099511627776 := by omega
          have HLO2 := Stow.mk (HBD.out.lose (l := S.lost) hlo)
          have HST := Stow.mk (i64_store ⟨g, 2, none⟩ _ (S.lost : Int) _ (HBD.out.head.cell (i := 2) rfl) (HBD.out.head.free 2))
          have e4 : min (1099511627777 : Int) 1099511627776 = 1099511627776 := Int.min_eq_right (by omega)
          rw [e3] at HST HLO2
          clear hm1 hlo e3
          go_wp2_with fail
          go_region_with (first
            | (go_at_call 89; refine HLD.out.mono ?_; rintro e w5 ⟨rfl, rfl⟩)
            | (go_at_call 88; refine HST.out.mono ?_; rintro e w6 ⟨rfl, rfl⟩))
          all_goals
            go_wp2_with fail
            go_ret
            unfold PutOut
            rw [HSQ.out]
            exact ⟨rfl, F2, ⟨m, N2, Do2, blk2, hN2, HLO2.out.1⟩, HF2.out, HWD.out.trans HLO2.out.2 HF2.out⟩
      · have HFIT := Stow.mk (Bk.put_fits (v := v) HB3.out.ok (n := n) (s := s) (k := k) (by rw [hL, hr]; exact hfull))
        have HSP := Stow.mk (Bk.put_yes (v := v) hn (by rw [hL, hr]; exact hfull))
        cases r
        · have h16 : ¬ 16 ≤ L.length := fun h => hfull ⟨rfl, h⟩
          have d1 : decide ((16 : Int) ≤ L.length) = false := by simp; omega
          have d1' : decide (16 ≤ L.length) = false := by simp; omega
          go_wp2_with fail
          go_quiet (fail)
          have HB4 := Stow.mk (HB3.out.keep (Below.drewN' (Below.self _) nq))
          have HP4 := Stow.mk (HP3.out.drewN nq)
          have HW4 := Stow.mk (HW3.out.trans (Turn.of_below (F := F2) (Below.drewN' (Below.self W3) nq)) HF2.out)
          generalize hW4 : World.drewN _ _ = W4
          rw [hW4] at HB4 HP4 HW4
          clear hW4 hlq hnq q1 p0 p1 HB3 HP3 HW3 HLEN
          have HBD := Stow.mk (HB4.out.keep (Below.drew (Below.self W4)))
          have HWD := Stow.mk (HW4.out.trans (Turn.of_below (F := F2) (Below.drew (Below.self W4))) HF2.out)
          have hkey : keyOf Try.prog 9 (.string (bs k)) = some (.string k) := WideMaps.keyOf_string_mk Try.underlying9 (by simpa using hk)
          obtain ⟨w5, hrun, hown, hg5⟩ := (HBD.out.inner n s b hn hbl2).update strK Try.underlying142 (by have := HBD.out.ok.few n s; unfold maxLen; omega) hkey (rs_mk v)
          rw [Bk.dat_put] at hown
          have HEND := Stow.mk (HBD.out.store hn hbl2 HFIT.out hown hg5)
          have q1 := HB4.out.head.cell (i := 1) rfl
          have p0 := HP4.out.cell (i := 0) rfl
          have p1 := HP4.out.cell (i := 1) rfl
          have l1 := HLO.out W4.drew HBD.out
          clear hkey hown hg5 hL hr
          go_wp2_with fail
          go_region
          all_goals
            go_wp2_with fail
            go_ret
            unfold PutOut
            rw [HSP.out]
            exact ⟨rfl, F2, ⟨m, N2, Do2, blk2, hN2, HEND.out.1⟩, HF2.out, HWD.out.trans HEND.out.2 HF2.out⟩
        · go_wp2_with fail
          go_quiet (fail)
          have HB4 := Stow.mk (HB3.out.keep (Below.drewN' (Below.self _) nq))
          have HP4 := Stow.mk (HP3.out.drewN nq)
          have HW4 := Stow.mk (HW3.out.trans (Turn.of_below (F := F2) (Below.drewN' (Below.self W3) nq)) HF2.out)
          generalize hW4 : World.drewN _ _ = W4
          rw [hW4] at HB4 HP4 HW4
          clear hW4 hlq hnq q1 p0 p1 HB3 HP3 HW3 HLEN
          have HBD := Stow.mk (HB4.out.keep (Below.drew (Below.self W4)))
          have HWD := Stow.mk (HW4.out.trans (Turn.of_below (F := F2) (Below.drew (Below.self W4))) HF2.out)
          have hkey : keyOf Try.prog 9 (.string (bs k)) = some (.string k) := WideMaps.keyOf_string_mk Try.underlying9 (by simpa using hk)
          obtain ⟨w5, hrun, hown, hg5⟩ := (HBD.out.inner n s b hn hbl2).update strK Try.underlying142 (by have := HBD.out.ok.few n s; unfold maxLen; omega) hkey (rs_mk v)
          rw [Bk.dat_put] at hown
          have HEND := Stow.mk (HBD.out.store hn hbl2 HFIT.out hown hg5)
          have q1 := HB4.out.head.cell (i := 1) rfl
          have p0 := HP4.out.cell (i := 0) rfl
          have p1 := HP4.out.cell (i := 1) rfl
          have l1 := HLO.out W4.drew HBD.out
          clear hkey hown hg5 hL hr
          go_wp2_with fail
          go_region
          all_goals
            go_wp2_with fail
            go_ret
            unfold PutOut
            rw [HSP.out]
            exact ⟨rfl, F2, ⟨m, N2, Do2, blk2, hN2, HEND.out.1⟩, HF2.out, HWD.out.trans HEND.out.2 HF2.out⟩
/-- A key is put. -/
theorem bkPut_any (w : World) (F : Nat → Prop) (g c : Nat) (S : Bk.St) (n : Int) (s : Bool) (k v : Bk.Tx) (h : BKs w F g S c) (hc : c < 1000000) (hk : k.length ≤ maxLen) (hv : v.length ≤ maxLen) :
    Calls Try.prog 50 #[.pointer (some ⟨g, 0, none⟩), .int .i64 n, .bool s, .string (bs k), .string (bs v)] w fun e w' => PutOut (S.put n s k v).1 (S.put n s k v).2 F g c w e w' := by
  obtain ⟨b, hb⟩ : ∃ b, hasB S n = b := ⟨_, rfl⟩
  cases b
  · exact bkPut_no w F g c S n s k v h hb
  · obtain ⟨n, rfl, hn, _⟩ := hasB_yes hb
    obtain ⟨m, N, Do, blk, hN, hB⟩ := h
    cases hbl : blk n s with
    | none => exact bkPut_new w F g c m N Do blk S n s k v hB hN hc hn hbl hk hv
    | some b => exact bkPut_made w F g c m N b Do blk S n s k v hB hN hn hbl hk hv
end Go.Proofs.Ythbpcdoddcacdaa
