/- Walks of the reference's at, Of and Get. Conditions: the books' memory. -/
import Derived.Test.YthbpcdoddcacdaaBkKnown
import Derived.Deep.MidRow
namespace Go.Proofs.Ythbpcdoddcacdaa
open Go.RowKit
set_option linter.unusedVariables false

/-- The reference's books in memory: a slice of slices. -/
structure RfR (w : World) (A : Option Addr) (cap : Nat) (rows : List Value) (S : Bk.St) : Prop where
  len : rows.length = 2 * S.nodes
  row : SlR w 1 (.slice A (2 * S.nodes) cap) (rows.map fun v => [v])
  each : ∀ i, i < 2 * S.nodes → ∃ A' c', rows[i]? = some (.slice A' (S.bk (i / 2) (decide (i % 2 = 1))).length c') ∧ EnR w A' c' (S.bk (i / 2) (decide (i % 2 = 1)))
  nodes : S.nodes ≤ 8
theorem RfR.keep {w w' : World} {A : Option Addr} {cap : Nat} {rows : List Value} {S : Bk.St} (h : RfR w A cap rows S) (hb : Below w.heap.size w w') : RfR w' A cap rows S :=
  ⟨h.len, h.row.keep hb, fun i hi => let ⟨A', c', h1, h2⟩ := h.each i hi; ⟨A', c', h1, h2.keep hb⟩, h.nodes⟩

/-- Where they lie. -/
def RfN (N : Nat → Prop) (A : Option Addr) (rows : List Value) : Prop := (∀ ad, A = some ad → N ad.block) ∧ ∀ v ∈ rows, ∀ ad n c, v = .slice (some ad) n c → N ad.block
theorem RfN.mono {N N' : Nat → Prop} {A : Option Addr} {rows : List Value} (h : RfN N A rows) (hN : ∀ b, N b → N' b) : RfN N' A rows := ⟨fun ad e => hN _ (h.1 ad e), fun v hv ad n c e => hN _ (h.2 v hv ad n c e)⟩
theorem RfN.set {N N' : Nat → Prop} {A A' A5 : Option Addr} {rows : List Value} (h : RfN N A rows) (hN : ∀ b, N b → N' b) (h1 : ∀ ad, A' = some ad → N' ad.block) (i n c : Nat) (h2 : ∀ ad, A5 = some ad → N' ad.block) : RfN N' A' (rows.set i (.slice A5 n c)) :=
  ⟨h1, fun v hv ad n' c' e => by
    rcases List.mem_or_eq_of_mem_set hv with hv | rfl
    · exact hN _ (h.2 v hv ad n' c' e)
    · cases e
      exact h2 ad rfl⟩
theorem cell_of_block {w w' : World} (p : Addr) (h : w'.heap[p.block]? = w.heap[p.block]?) : w'.cell? p = w.cell? p := by unfold World.cell?; rw [h]
theorem slr_turn {w w' : World} {F : Nat → Prop} {c : Nat} {A : Option Addr} {n cap : Nat} {L : List (List Value)} (h : SlR w c (.slice A n cap) L) (ht : Turn F w w') (hF : ∀ ad, A = some ad → ¬ F ad.block) : SlR w' c (.slice A n cap) L := by
  obtain ⟨A', cap', hv, h1, h2, h3⟩ := h
  simp only [Value.slice.injEq] at hv
  obtain ⟨rfl, rfl, rfl⟩ := hv
  refine ⟨_, _, rfl, h1, h2, fun hL => ?_⟩
  obtain ⟨b, off, rfl, hlt, hc⟩ := h3 hL
  exact ⟨b, off, rfl, Nat.lt_of_lt_of_le hlt ht.size, fun i x hx j u hu => (cell_of_block _ (ht.block b hlt (hF _ rfl))).trans (hc i x hx j u hu)⟩
theorem RfR.turn {w w' : World} {F : Nat → Prop} {A : Option Addr} {cap : Nat} {rows : List Value} {S : Bk.St} (h : RfR w A cap rows S) (ht : Turn F w w') (hN : RfN (fun b => ¬ F b) A rows) : RfR w' A cap rows S :=
  ⟨h.len, slr_turn h.row ht hN.1, fun i hi => let ⟨A', c', h1, h2⟩ := h.each i hi; ⟨A', c', h1, slr_turn h2 ht fun ad e => hN.2 _ (List.mem_of_getElem? h1) ad (S.bk (i / 2) (decide (i % 2 = 1))).length c' (by rw [e])⟩, h.nodes⟩

def Bk.at (N : Nat) (n : Int) (s : Bool) : Int := if 0 ≤ n ∧ n < N then (if s then 2 * n + 1 else 2 * n) else -1
set_option maxHeartbeats 1000000 in
set_option maxRecDepth 100000 in
theorem refAt_any (N : Nat) (v l : Value) (n : Int) (s : Bool) (w : World) (hN : N ≤ 8) :
    Calls Try.prog 85 #[.agg #[.int .i64 (N : Nat), v, l], .int .i64 n, .bool s] w fun e w' => e = .returned (.int .i64 (Bk.at N n s)) ∧ Below w.heap.size w w' := by
  have HB : Stow (Below w.heap.size w (w.alloc (.cells #[.int .i64 (N : Nat), v, l] 73))) := ⟨Below.alloc' (Below.self w) _⟩
  by_cases h0 : n < 0
  · have HE : Stow (Bk.at N n s = -1) := ⟨by unfold Bk.at; rw [if_neg (by omega)]⟩
    have d0 : decide (n < 0) = true := by simpa using h0
    go_enter Try.func85, Try.ntmps85
    go_wp2_with fail
    go_ret
    exact ⟨by rw [HE.out]; rfl, HB.out⟩
  have d0 : decide (n < 0) = false := by simpa using h0
  by_cases h1 : (N : Int) ≤ n
  · have HE : Stow (Bk.at N n s = -1) := ⟨by unfold Bk.at; rw [if_neg (by omega)]⟩
    have d1 : decide ((N : Int) ≤ n) = true := by simpa using h1
    clear h0
    go_enter Try.func85, Try.ntmps85
    go_wp2_with fail
    go_ret
    exact ⟨by rw [HE.out]; rfl, HB.out⟩
  have d1 : decide ((N : Int) ≤ n) = false := by simpa using h1
  have e1 : IntKind.i64.wrap (2 * n) = 2 * n := IntWalk.i64_in _ (by omega)
  have e2 : IntKind.i64.wrap (2 * n + 1) = 2 * n + 1 := IntWalk.i64_in _ (by omega)
  cases s
  · have HE : Stow (Bk.at N n false = 2 * n) := ⟨by unfold Bk.at; rw [if_pos (by omega)]; rfl⟩
    go_enter Try.func85, Try.ntmps85
    go_wp2_with fail
    go_ret
    exact ⟨by rw [HE.out]; rfl, HB.out⟩
  · have HE : Stow (Bk.at N n true = 2 * n + 1) := ⟨by unfold Bk.at; rw [if_pos (by omega)]; rfl⟩
    go_enter Try.func85, Try.ntmps85
    go_wp2_with fail
    go_ret
    exact ⟨by rw [HE.out]; rfl, HB.out⟩
abbrev rfv (A : Option Addr) (cap : Nat) (S : Bk.St) : Value := .agg #[.int .i64 (S.nodes : Nat), .slice A (2 * S.nodes) cap, .int .i64 (S.lost : Nat)]
theorem Bk.at_yes {N : Nat} {n : Nat} {s : Bool} (h : n < N) : Bk.at N (n : Int) s = ((if s then 2 * n + 1 else 2 * n : Nat) : Int) := by
  unfold Bk.at
  rw [if_pos (by omega)]
  cases s <;> simp
theorem Bk.at_no {N : Nat} {n : Int} {s : Bool} (h : ¬ (0 ≤ n ∧ n < N)) : Bk.at N n s = -1 := by unfold Bk.at; rw [if_neg h]
set_option maxHeartbeats 1000000 in
set_option maxRecDepth 100000 in
theorem refOf_any (w : World) (A : Option Addr) (cap : Nat) (rows : List Value) (S : Bk.St) (n : Int) (s : Bool) (h : RfR w A cap rows S) :
    Calls Try.prog 56 #[rfv A cap S, .int .i64 n, .bool s] w fun e w' => ∃ A' c', e = .returned (.slice A' (S.of n s).length c') ∧ EnR w' A' c' (S.of n s) ∧ Below w.heap.size w w' := by
  have hb1 : Below w.heap.size w (w.alloc (.cells #[.int .i64 (S.nodes : Nat), .slice A (2 * S.nodes) cap, .int .i64 (S.lost : Nat)] 73)) := Below.alloc' (Below.self w) _
  have HB := Stow.mk hb1
  have HH := Stow.mk (Held.made w [.int .i64 (S.nodes : Nat), .slice A (2 * S.nodes) cap, .int .i64 (S.lost : Nat)] 73)
  have HR := Stow.mk h
  have HA := Stow.mk (refAt_any S.nodes (.slice A (2 * S.nodes) cap) (.int .i64 (S.lost : Nat)) n s (w.alloc (.cells #[.int .i64 (S.nodes : Nat), .slice A (2 * S.nodes) cap, .int .i64 (S.lost : Nat)] 73)) h.nodes)
  have HRA : Stow ((w.alloc (.cells #[.int .i64 (S.nodes : Nat), .slice A (2 * S.nodes) cap, .int .i64 (S.lost : Nat)] 73)).rangeAt w.heap.size 0 [.int .i64 (S.nodes : Nat), .slice A (2 * S.nodes) cap, .int .i64 (S.lost : Nat)]) := ⟨fun j v hj => by rw [Nat.zero_add]; exact HH.out.cell hj⟩
  clear hb1 h
  by_cases hn : 0 ≤ n ∧ n < S.nodes
  · obtain ⟨k, rfl⟩ : ∃ k : Nat, n = k := ⟨n.toNat, by omega⟩
    have hk : k < S.nodes := by omega
    have hof : S.of (k : Int) s = S.bk k s := by unfold Bk.St.of; rw [if_pos hn]; rfl
    rw [Bk.at_yes hk] at HA
    obtain ⟨i, hi⟩ : ∃ i, (if s then 2 * k + 1 else 2 * k : Nat) = i := ⟨_, rfl⟩
    rw [hi] at HA
    have hi2 : i < 2 * S.nodes := by rw [← hi]; split <;> omega
    obtain ⟨A', c', hrow, hE⟩ := HR.out.each i hi2
    have e1 : i / 2 = k := by rw [← hi]; split <;> omega
    have e2 : decide (i % 2 = 1) = s := by
      rw [← hi]
      cases s
      · simp
      · simp
    rw [e1, e2] at hrow hE
    rw [hof]
    have HE := Stow.mk hE
    obtain ⟨b, off, rfl, hblt, _⟩ := HR.out.row.open (by simp only [List.length_map, HR.out.len]; omega)
    have HC : Stow (∀ W, Below w.heap.size w W → W.cell? ⟨b, off + i, none⟩ = some (.slice A' (S.bk k s).length c')) := ⟨fun W hW => by
      have hc := ((HR.out.keep hW).row.cells (i := i) (x := [.slice A' (S.bk k s).length c']) (by rw [List.getElem?_map, hrow]; rfl)).2 0 _ rfl
      simp only [Nat.add_zero, Nat.mul_one] at hc
      exact hc⟩
    have hii : (i : Int) < 2 * (S.nodes : Int) := by omega
    have hi3 : (i : Int) < ((2 * S.nodes : Nat) : Int) := by omega
    have hi0 : (0 : Int) ≤ i := by omega
    have d0 : decide ((i : Int) < 0) = false := by simp
    clear hrow hE hi e1 e2 hof hn
    go_enter Try.func56, Try.ntmps56
    go_upto_region 2 with (first
      | (refine wpList_load_mid rfl 73 (.tmp 3) rfl w.heap.size 0 rfl [.int .i64 (S.nodes : Nat), .slice (some ⟨b, off, none⟩) (2 * S.nodes) cap, .int .i64 (S.lost : Nat)] _ HRA.out Try.underlying73 rfl (by kernel_rfl) ?_)
      | (refine HA.out.mono ?_; rintro e w1 ⟨rfl, hb1⟩; have HB1 := Stow.mk hb1; clear hb1))
    have HW := Stow.mk (HB.out.trans (HB1.out.mono HB.out.size))
    have hc := HC.out _ HW.out
    have q1 := (HH.out.kept HB1.out).cell (i := 1) rfl
    have q0 := (HH.out.kept HB1.out).cell (i := 0) rfl
    have hbl : b < w1.heap.size := Nat.lt_of_lt_of_le hblt HW.out.size
    clear HA HRA HR HH HB
    go_wp2_with fail
    go_ret
    exact ⟨A', c', rfl, HE.out.keep HW.out, HW.out⟩
  · have hof : S.of n s = [] := by unfold Bk.St.of; rw [if_neg hn]
    rw [hof]
    rw [Bk.at_no hn] at HA
    clear hn hof
    go_enter Try.func56, Try.ntmps56
    go_upto_region 2 with (first
      | (refine wpList_load_mid rfl 73 (.tmp 3) rfl w.heap.size 0 rfl [.int .i64 (S.nodes : Nat), .slice A (2 * S.nodes) cap, .int .i64 (S.lost : Nat)] _ HRA.out Try.underlying73 rfl (by kernel_rfl) ?_)
      | (refine HA.out.mono ?_; rintro e w1 ⟨rfl, hb1⟩; have HB1 := Stow.mk hb1; clear hb1))
    have HW := Stow.mk (HB.out.trans (HB1.out.mono HB.out.size))
    clear HA HRA HR HH HB
    go_wp2_with fail
    go_ret
    exact ⟨none, 0, rfl, SlR.nil _ _, HW.out⟩
end Go.Proofs.Ythbpcdoddcacdaa
