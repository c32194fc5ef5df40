/- Walk of book's Put. Conditions: the books' memory; texts no longer than a length may be. -/
import Derived.Test.YthbpcdoddcacdaaBkAll
import Derived.RegionTactic
import Derived.Deep.RegionWith
import Derived.Deep.RegionHeld3
import Derived.Laws.Cover3
namespace Go.Proofs.Ythbpcdoddcacdaa
open Go.RowKit
set_option linter.unusedVariables false

/-- What a put leaves. -/
def PutOut (S' : Bk.St) (r : Bool) (F : Nat → Prop) (g c : Nat) (w : World) (e : Ending) (w' : World) : Prop :=
  e = .returned (.bool r) ∧ ∃ F', BKs w' F' g S' (c + 1) ∧ (∀ k, F' k → F k ∨ w.heap.size ≤ k) ∧ Turn F w w'
theorem BKs.mono {w : World} {F : Nat → Prop} {g c c' : Nat} {S : Bk.St} (h : BKs w F g S c) (hc : c ≤ c') : BKs w F g S c' := let ⟨m, N, Do, blk, hn, hk⟩ := h; ⟨m, N, Do, blk, Nat.le_trans hn hc, hk⟩

set_option maxHeartbeats 1000000 in
set_option maxRecDepth 100000 in
theorem bkPut_no (w : World) (F : Nat → Prop) (g c : Nat) (S : Bk.St) (n : Int) (s : Bool) (k v : Bk.Tx) (h : BKs w F g S c) (hb : hasB S n = false) :
    Calls Try.prog 50 #[.pointer (some ⟨g, 0, none⟩), .int .i64 n, .bool s, .string (bs k), .string (bs v)] w fun e w' => PutOut (S.put n s k v).1 (S.put n s k v).2 F g c w e w' := by
  have e : S.put n s k v = (S, false) := by unfold Bk.St.put; rw [if_neg (by simpa [hasB] using hb)]
  rw [e]
  obtain ⟨m, N, Do, blk, hN, hB⟩ := h
  have HK := Stow.mk (bkHas_any g S n _ _ w hB.head)
  rw [hb] at HK
  have HO : Stow (PutOut S false F g c w (.returned (.bool false)) w) := ⟨rfl, F, BKs.mono ⟨m, N, Do, blk, hN, hB⟩ (Nat.le_succ c), fun _ h => .inl h, Turn.refl _ _⟩
  clear hb hB e
  go_enter Try.func50, Try.ntmps50
  go_wp2_with fail
  refine HK.out.mono ?_
  rintro e w1 ⟨rfl, rfl⟩
  go_wp2_with fail
  go_ret
  exact HO.out
theorem bkPut_nil (n : Int) (s : Bool) (k v : Value) (w : World) : Calls Try.prog 50 #[.pointer none, .int .i64 n, .bool s, k, v] w fun e w' => e = .returned (.bool false) ∧ w' = w := by
  go_enter Try.func50, Try.ntmps50
  go_wp2_with fail
  refine (bkHas_nil n w).mono ?_
  rintro e w1 ⟨rfl, rfl⟩
  go_wp2_with fail
  go_ret
  exact ⟨rfl, rfl⟩

theorem map_nil (b : Option Nat) (w : World) : (Go.binOp BinOp.eql 142 (Value.map b) (Value.map none)).run Try.prog w = Result.ok (Value.bool b.isNone) w := by
  simp only [Go.binOp]
  simp [run_equal_map_nil w _ _ _ b Try.underlying142]
theorem Bk.put_full {S : Bk.St} {n : Nat} {s : Bool} {k v : Bk.Tx} (hn : n < S.nodes) (h1 : Bk.has (S.bk n s) k = false) (h2 : 16 ≤ (S.bk n s).length) : S.put n s k v = ({ S with lost := Bk.bump S.lost }, false) := by
  unfold Bk.St.put
  rw [if_pos ⟨by omega, by omega⟩, Int.toNat_natCast, if_pos ⟨h1, h2⟩]
theorem Bk.put_yes {S : Bk.St} {n : Nat} {s : Bool} {k v : Bk.Tx} (hn : n < S.nodes) (h : ¬ (Bk.has (S.bk n s) k = false ∧ 16 ≤ (S.bk n s).length)) : S.put n s k v = ({ S with bk := fun n' s' => if n' = n ∧ s' = s then Bk.put (S.bk n s) k v else S.bk n' s' }, true) := by
  unfold Bk.St.put
  rw [if_pos ⟨by omega, by omega⟩, Int.toNat_natCast, if_neg h]
theorem Bk.put_fits {S : Bk.St} (ho : S.Ok) {n : Nat} {s : Bool} {k v : Bk.Tx} (h : ¬ (Bk.has (S.bk n s) k = false ∧ 16 ≤ (S.bk n s).length)) : (Bk.put (S.bk n s) k v).length ≤ 16 := by
  rw [Bk.put_len (ho.sorted n s)]
  have := ho.few n s
  by_cases h1 : Bk.has (S.bk n s) k = true
  · rw [if_pos h1]; exact this
  · rw [if_neg h1]
    have : ¬ 16 ≤ (S.bk n s).length := fun h2 => h ⟨by simpa using h1, h2⟩
    omega

set_option maxHeartbeats 4000000 in
set_option maxRecDepth 100000 in
theorem bkPut_made (w : World) (F : Nat → Prop) (g c m N b : Nat) (Do : DataW Unit) (blk : Nat → Bool → Option Nat) (S : Bk.St) (n : Nat) (s : Bool) (k v : Bk.Tx) (hB : BK w F g S m N Do blk) (hN : N ≤ c) (hn : n < S.nodes) (hbl : blk n s = some b) (hk : k.length ≤ maxLen) (hv : v.length ≤ maxLen) :
    Calls Try.prog 50 #[.pointer (some ⟨g, 0, none⟩), .int .i64 (n : Int), .bool s, .string (bs k), .string (bs v)] w fun e w' => PutOut (S.put n s k v).1 (S.put n s k v).2 F g c w e w' := by
  have HK := Stow.mk (bkHas_any g S n _ _ w hB.head)
  have hh : hasB S (n : Int) = true := by unfold hasB; simp; omega
  rw [hh] at HK
  have HW0 := Stow.mk (Below.alloc' (Below.self w) (.cells #[.int .i64 (n : Int), .bool s] 141))
  obtain ⟨w1, hw1⟩ : ∃ w1, w.alloc (.cells #[.int .i64 (n : Int), .bool s] 141) = w1 := ⟨_, rfl⟩
  have HP := Stow.mk (Held.made w [.int .i64 (n : Int), .bool s] 141)
  have HB1 := Stow.mk (hB.keep HW0.out)
  have hgw := hB.head.lt
  clear hh
  go_enter Try.func50, Try.ntmps50
  go_wp2_with fail
  refine HK.out.mono ?_
  rintro e w0 ⟨rfl, hw0⟩
  subst hw0
  go_upto_region 4 with fail
  have hl : ∀ q, (Instr.lookup 129 (.map (some m)) (.agg #[.int .i64 (n : Int), .bool s]) false).run Try.prog (w1.drewN q) = .ok (.map (some b)) (w1.drewN q) := fun q => by
    have h1 := (HB1.out.keep (Below.drewN' (Below.self _) q)).look (s := s) hn
    rw [hbl] at h1
    unfold plv at h1
    have e : (w0.alloc (.cells #[.int .i64 (n : Int), .bool s] 141)) = w1 := hw1
    rw [← e]
    exact h1
  rw [show (w0.alloc (.cells [.int .i64 (n : Int), .bool s].toArray 141)) = w1 from hw1] at HP
  rw [hw1] at HB1 HW0
  have q1 := HB1.out.head.cell (i := 1) rfl
  have p0 := HP.out.cell (i := 0) rfl
  have p1 := HP.out.cell (i := 1) rfl
  clear hw1 HK hB
  have heq := map_nil (some b)
  go_wp2_with fail
  go_quiet (fail)
  go_upto_region 6 with fail
  have HB2 := Stow.mk (HB1.out.keep (Below.drewN' (Below.self _) nq))
  have HP2 := Stow.mk (HP.out.drewN nq)
  have HW2 := Stow.mk (Below.drewN' HW0.out nq)
  generalize hW2 : World.drewN _ _ = W2
  rw [hW2] at HB2 HP2 HW2
  clear hW2 q1 p0 p1 HB1 HP HW0 heq hl
  have HT2 : Stow (Turn F w0 W2) := ⟨Turn.of_below HW2.out⟩
  have HF2 : Stow (∀ k, F k → F k ∨ w0.heap.size ≤ k) := ⟨fun _ h => .inl h⟩
  have hN2 : N ≤ c + 1 := Nat.le_succ_of_le hN
  obtain ⟨F2, hF2⟩ : ∃ F2, F = F2 := ⟨_, rfl⟩
  have HF2 : Stow (∀ k, F2 k → F k ∨ w0.heap.size ≤ k) := ⟨by rw [← hF2]; exact HF2.out⟩
  have HB2 : Stow (BK W2 F2 g S m N Do blk) := ⟨by rw [← hF2]; exact HB2.out⟩
  obtain ⟨N2, hN2e⟩ : ∃ N2, N = N2 := ⟨_, rfl⟩
  obtain ⟨Do2, hDo2⟩ : ∃ Do2, Do = Do2 := ⟨_, rfl⟩
  obtain ⟨blk2, hblk2⟩ : ∃ blk2, blk = blk2 := ⟨_, rfl⟩
  rw [hN2e, hDo2, hblk2] at HB2
  rw [hN2e] at hN2
  have hbl2 : blk2 n s = some b := by rw [← hblk2]; exact hbl
  clear hF2 hN2e hDo2 hblk2 HW2 hbl hN
  obtain ⟨L, hL⟩ : ∃ L, S.bk n s = L := ⟨_, rfl⟩
  obtain ⟨got, hgot⟩ : ∃ x, (Bk.get L k).getD [] = x := ⟨_, rfl⟩
  obtain ⟨r, hr⟩ : ∃ x, Bk.has L k = x := ⟨_, rfl⟩
  have HLO : Stow (∀ W, BK W F2 g S m N2 Do2 blk2 → (Instr.lookup 129 (.map (some m)) (.agg #[.int .i64 (n : Int), .bool s]) false).run Try.prog W = .ok (.map (some b)) W) := ⟨fun W h => by
    have h1 := h.look (s := s) hn
    rw [hbl2] at h1
    exact h1⟩
  have HGE : Stow (∀ W, BK W F2 g S m N2 Do2 blk2 → (Instr.lookup 142 (.map (some b)) (.string (bs k)) true).run Try.prog W = .ok (.tuple #[.agg #[.string (bs got)], .bool r]) W) := ⟨fun W h => by
    have h1 := h.get (s := s) hn hk
    rw [hbl2, hL, hgot, hr] at h1
    exact h1⟩
  have q1 := HB2.out.head.cell (i := 1) rfl
  have p0 := HP2.out.cell (i := 0) rfl
  have p1 := HP2.out.cell (i := 1) rfl
  have ba : Below W2.heap.size W2 (W2.alloc (.cells #[.string ⟨#[]⟩] 144)).drew := Below.drew (Below.alloc' (Below.self W2) _)
  have l1 := HLO.out W2.drew (HB2.out.keep (Below.drew (Below.self W2)))
  have g1 := HGE.out W2.drew (HB2.out.keep (Below.drew (Below.self W2)))
  have l2 := HLO.out _ (HB2.out.keep ba)
  have g2 := HGE.out _ (HB2.out.keep ba)
  have z1 : (w0.heap.size == W2.heap.size) = false := by have := HP2.out.lt; simp; omega
  have z2 : (g == W2.heap.size) = false := by have := HB2.out.head.lt; simp; omega
  have z3 : w0.heap.size ≠ W2.heap.size := by have := HP2.out.lt; omega
  have z4 : g ≠ W2.heap.size := by have := HB2.out.head.lt; omega
  have ba0 := Below.alloc' (Below.self W2) (.cells #[.string ⟨#[]⟩] 144)
  have a0 := (HP2.out.kept ba0).cell (i := 0) rfl
  have a1 := (HP2.out.kept ba0).cell (i := 1) rfl
  have a2 := (HB2.out.head.kept ba0).cell (i := 1) rfl
  clear ba ba0
  go_region
  all_goals
    have ba3 : Below W2.heap.size W2 (W2.alloc (.cells #[.string (bs got)] 144)).drew := Below.drew (Below.alloc' (Below.self W2) _)
    have HB3 := Stow.mk (HB2.out.keep ba3)
    have HP3 := Stow.mk (HP2.out.kept ba3)
    have HW3 := Stow.mk (HT2.out.trans (Turn.of_below (F := F2) ba3) HF2.out)
    clear q1 p0 p1 l1 g1 l2 g2 z1 z2 z3 z4 a0 a1 a2 ba3
    generalize World.drew _ = W3 at HB3 HP3 HW3 ⊢
    clear HB2 HP2 HT2
    have hLd := HB3.out.ok.few n s
    have HLEN : Stow (∀ W, BK W F2 g S m N2 Do2 blk2 → (Builtin.len_ #[142] 3 #[.map (some b)]).run Try.prog W = .ok (.int .i64 (L.length : Nat)) W) := ⟨fun W h => by
      have h1 := World.ownsMap.len (h.inner n s b hn hbl2) Try.underlying142 3
      rw [Bk.dat_size, hL] at h1
      exact h1⟩
    have hlq : ∀ q, (Instr.lookup 129 (.map (some m)) (.agg #[.int .i64 (n : Int), .bool s]) false).run Try.prog (W3.drewN q) = .ok (.map (some b)) (W3.drewN q) := fun q => HLO.out _ (HB3.out.keep (Below.drewN' (Below.self _) q))
    have hnq : ∀ q, (Builtin.len_ #[142] 3 #[.map (some b)]).run Try.prog (W3.drewN q) = .ok (.int .i64 (L.length : Nat)) (W3.drewN q) := fun q => HLEN.out _ (HB3.out.keep (Below.drewN' (Below.self _) q))
    have q1 := HB3.out.head.cell (i := 1) rfl
    have p0 := HP3.out.cell (i := 0) rfl
    have p1 := HP3.out.cell (i := 1) rfl
    rw [hL] at hLd
    by_cases hfull : r = false ∧ 16 ≤ L.length
    · obtain ⟨rfl, h16⟩ := hfull
      have d1 : decide ((16 : Int) ≤ L.length) = true := by simp; omega
      have d1' : decide (16 ≤ L.length) = true := by simpa using h16
      have HSP := Stow.mk (Bk.put_full (v := v) hn (by rw [hL]; exact hr) (by rw [hL]; exact h16))
      have hlo := HB3.out.ok.lost
      go_wp2_with fail
      go_quiet (fail)
      have HB4 := Stow.mk (HB3.out.keep (Below.drewN' (Below.self _) nq))
      have HW4 := Stow.mk (HW3.out.trans (Turn.of_below (F := F2) (Below.drewN' (Below.self W3) nq)) HF2.out)
      generalize hW4 : World.drewN _ _ = W4
      rw [hW4] at HB4 HW4
      clear hW4 hlq hnq q1 p0 p1 HB3 HP3 HW3 HLEN HLO HGE
      have HBD := Stow.mk (HB4.out.keep (Below.drew (Below.self W4)))
      have HWD := Stow.mk (HW4.out.trans (Turn.of_below (F := F2) (Below.drew (Below.self W4))) HF2.out)
      have HLD := Stow.mk (i64_load ⟨g, 2, none⟩ _ _ (HBD.out.head.cell (i := 2) rfl))
      by_cases hm1 : S.lost < 1099511627776
      · obtain ⟨l1, hl1⟩ : ∃ l1, S.lost + 1 = l1 := ⟨_, rfl⟩
        have e1 : IntKind.i64.wrap ((S.lost : Int) + 1) = (l1 : Int) := by rw [IntWalk.i64_in _ (by omega)]; omega
        have HSQ : Stow (S.put n s k v = ({ S with lost := l1 }, false)) := ⟨by rw [HSP.out, ← hl1]; unfold Bk.bump; rw [if_pos hm1]⟩
        have e2 : (l1 : Int) ≤ 1099511627776 := by omega
        have e4 : min (l1 : Int) 1099511627776 = (l1 : Int) := Int.min_eq_left e2
        have HLO2 := Stow.mk (HBD.out.lose (l := l1) (by omega))
        have HST := Stow.mk (i64_store ⟨g, 2, none⟩ _ (l1 : Int) _ (HBD.out.head.cell (i := 2) rfl) (HBD.out.head.free 2))
        clear hl1 hm1 hlo
        go_wp2_with fail
        go_region_with (first
          | (go_at_call 89; refine HLD.out.mono ?_; rintro e w5 ⟨rfl, rfl⟩)
          | (go_at_call 88; refine HST.out.mono ?_; rintro e w6 ⟨rfl, rfl⟩))
        all_goals
          go_wp2_with fail
          go_ret
          unfold PutOut
          rw [HSQ.out]
          exact ⟨rfl, F2, ⟨m, N2, Do2, blk2, hN2, HLO2.out.1⟩, HF2.out, HWD.out.trans HLO2.out.2 HF2.out⟩
      · have e1 : IntKind.i64.wrap ((S.lost : Int) + 1) = 1099511627777 := by rw [IntWalk.i64_in _ (by omega)]; omega
        have HSQ : Stow (S.put n s k v = ({ S with lost := S.lost }, false)) := ⟨by rw [HSP.out]; unfold Bk.bump; rw [if_neg hm1]⟩
        have e3 : ((S.lost : Nat) : Int) = 1099511627776 := by omega
        have HLO2 := Stow.mk (HBD.out.lose (l := S.lost) hlo)
        have HST := Stow.mk (i64_store ⟨g, 2, none⟩ _ (S.lost : Int) _ (HBD.out.head.cell (i := 2) rfl) (HBD.out.head.free 2))
        have e4 : min (1099511627777 : Int) 1099511627776 = 1099511627776 := Int.min_eq_right (by omega)
        rw [e3] at HST HLO2
        clear hm1 hlo e3
        go_wp2_with fail
        go_region_with (first
          | (go_at_call 89; refine HLD.out.mono ?_; rintro e w5 ⟨rfl, rfl⟩)
          | (go_at_call 88; refine HST.out.mono ?_; rintro e w6 ⟨rfl, rfl⟩))
        all_goals
          go_wp2_with fail
          go_ret
          unfold PutOut
          rw [HSQ.out]
          exact ⟨rfl, F2, ⟨m, N2, Do2, blk2, hN2, HLO2.out.1⟩, HF2.out, HWD.out.trans HLO2.out.2 HF2.out⟩
    · have HFIT := Stow.mk (Bk.put_fits (v := v) HB3.out.ok (n := n) (s := s) (k := k) (by rw [hL, hr]; exact hfull))
      have HSP := Stow.mk (Bk.put_yes (v := v) hn (by rw [hL, hr]; exact hfull))
      cases r
      · have h16 : ¬ 16 ≤ L.length := fun h => hfull ⟨rfl, h⟩
        have d1 : decide ((16 : Int) ≤ L.length) = false := by simp; omega
        have d1' : decide (16 ≤ L.length) = false := by simp; omega
        go_wp2_with fail
        go_quiet (fail)
        have HB4 := Stow.mk (HB3.out.keep (Below.drewN' (Below.self _) nq))
        have HP4 := Stow.mk (HP3.out.drewN nq)
        have HW4 := Stow.mk (HW3.out.trans (Turn.of_below (F := F2) (Below.drewN' (Below.self W3) nq)) HF2.out)
        generalize hW4 : World.drewN _ _ = W4
        rw [hW4] at HB4 HP4 HW4
        clear hW4 hlq hnq q1 p0 p1 HB3 HP3 HW3 HLEN
        have HBD := Stow.mk (HB4.out.keep (Below.drew (Below.self W4)))
        have HWD := Stow.mk (HW4.out.trans (Turn.of_below (F := F2) (Below.drew (Below.self W4))) HF2.out)
        have hkey : keyOf Try.prog 9 (.string (bs k)) = some (.string k) := WideMaps.keyOf_string_mk Try.underlying9 (by simpa using hk)
        obtain ⟨w5, hrun, hown, hg5⟩ := (HBD.out.inner n s b hn hbl2).update strK Try.underlying142 (by have := HBD.out.ok.few n s; unfold maxLen; omega) hkey (rs_mk v)
        rw [Bk.dat_put] at hown
        have HEND := Stow.mk (HBD.out.store hn hbl2 HFIT.out hown hg5)
        have q1 := HB4.out.head.cell (i := 1) rfl
        have p0 := HP4.out.cell (i := 0) rfl
        have p1 := HP4.out.cell (i := 1) rfl
        have l1 := HLO.out W4.drew HBD.out
        clear hkey hown hg5 hL hr
        go_wp2_with fail
        go_region
        all_goals
          go_wp2_with fail
          go_ret
          unfold PutOut
          rw [HSP.out]
          exact ⟨rfl, F2, ⟨m, N2, Do2, blk2, hN2, HEND.out.1⟩, HF2.out, HWD.out.trans HEND.out.2 HF2.out⟩
      · go_wp2_with fail
        go_quiet (fail)
        have HB4 := Stow.mk (HB3.out.keep (Below.drewN' (Below.self _) nq))
        have HP4 := Stow.mk (HP3.out.drewN nq)
        have HW4 := Stow.mk (HW3.out.trans (Turn.of_below (F := F2) (Below.drewN' (Below.self W3) nq)) HF2.out)
        generalize hW4 : World.drewN _ _ = W4
        rw [hW4] at HB4 HP4 HW4
        clear hW4 hlq hnq q1 p0 p1 HB3 HP3 HW3 HLEN
        have HBD := Stow.mk (HB4.out.keep (Below.drew (Below.self W4)))
        have HWD := Stow.mk (HW4.out.trans (Turn.of_below (F := F2) (Below.drew (Below.self W4))) HF2.out)
        have hkey : keyOf Try.prog 9 (.string (bs k)) = some (.string k) := WideMaps.keyOf_string_mk Try.underlying9 (by simpa using hk)
        obtain ⟨w5, hrun, hown, hg5⟩ := (HBD.out.inner n s b hn hbl2).update strK Try.underlying142 (by have := HBD.out.ok.few n s; unfold maxLen; omega) hkey (rs_mk v)
        rw [Bk.dat_put] at hown
        have HEND := Stow.mk (HBD.out.store hn hbl2 HFIT.out hown hg5)
        have q1 := HB4.out.head.cell (i := 1) rfl
        have p0 := HP4.out.cell (i := 0) rfl
        have p1 := HP4.out.cell (i := 1) rfl
        have l1 := HLO.out W4.drew HBD.out
        clear hkey hown hg5 hL hr
        go_wp2_with fail
        go_region
        all_goals
          go_wp2_with fail
          go_ret
          unfold PutOut
          rw [HSP.out]
          exact ⟨rfl, F2, ⟨m, N2, Do2, blk2, hN2, HEND.out.1⟩, HF2.out, HWD.out.trans HEND.out.2 HF2.out⟩

end Go.Proofs.Ythbpcdoddcacdaa
