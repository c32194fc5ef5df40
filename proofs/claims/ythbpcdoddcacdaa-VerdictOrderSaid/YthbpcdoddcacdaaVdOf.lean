/- Walks of verdict.whole, Of and Tree. Conditions: a slice's own; numbers of children are no giants. -/
import Derived.Test.YthbpcdoddcacdaaVdFns
namespace Go.Proofs.Ythbpcdoddcacdaa
open Go.RowKit
set_option linter.unusedVariables false

theorem trRoots_len (A : Option Addr) (cap : Nat) (L : List Sp) (hn : L.length ≤ 1000000) {n : Nat} (h : (Tr.roots L).length = n) (W : World) (hS : SpR W A cap L) : Calls Try.prog 24 #[.slice A L.length cap] W fun e w' => ∃ vA vc, e = .returned (.slice vA n vc) ∧ Below W.heap.size W w' :=
  (trRoots_any A cap L W hS hn).mono fun e w' ⟨v, he, hr, hb⟩ => by
    obtain ⟨A1, c1, rfl⟩ := own_form hr
    exact ⟨A1, c1, by rw [he, h], hb⟩
theorem trOrphans_len (A : Option Addr) (cap : Nat) (L : List Sp) (hn : L.length ≤ 1000000) {n : Nat} (h : (Tr.orphans L).length = n) (W : World) (hS : SpR W A cap L) : Calls Try.prog 26 #[.slice A L.length cap] W fun e w' => ∃ vA vc, e = .returned (.slice vA n vc) ∧ Below W.heap.size W w' :=
  (trOrphans_any A cap L W hS hn).mono fun e w' ⟨v, he, hr, hb⟩ => by
    obtain ⟨A1, c1, rfl⟩ := own_form hr
    exact ⟨A1, c1, by rw [he, h], hb⟩
theorem eq1_no {n : Nat} (h : n ≠ 1) : (n == 1) = false ∧ ((n : Int) == 1) = false ∧ ¬ (n : Int) = 1 ∧ (n != 1) = true ∧ ((n : Int) != 1) = true := by
  refine ⟨by simpa using h, ?_, by omega, by simpa using h, ?_⟩
  · rw [beq_eq_false_iff_ne]; omega
  · rw [bne_iff_ne]; omega
theorem eq0_no {n : Nat} (h : n ≠ 0) : (n == 0) = false ∧ ((n : Int) == 0) = false ∧ ¬ (n : Int) = 0 := by
  refine ⟨by simpa using h, ?_, by omega⟩
  rw [beq_eq_false_iff_ne]; omega

set_option maxHeartbeats 2000000 in
set_option maxRecDepth 100000 in
theorem vdWhole_any (A : Option Addr) (cap hi lo : Nat) (L : List Sp) (x c : Bool) (w : World) (hS : SpR w A cap L) (hn : L.length ≤ 1000000) (hkd : KdOk L) :
    Calls Try.prog 81 #[ktv hi lo A cap L x c] w fun e w' => e = .returned (.bool (Tr.whole L x)) ∧ Below w.heap.size w w' := by
  have hb1 : Below w.heap.size w (w.alloc (.cells (ktc hi lo A cap L x c).toArray 58)) := Below.alloc' (Below.self w) _
  have HB := Stow.mk hb1
  have HS := Stow.mk (hS.keep hb1)
  have HH := Stow.mk (Held.made w (ktc hi lo A cap L x c) 58)
  have HCL : Stow (Tr.whole L x = (!x && decide ((Tr.roots L).length = 1) && decide ((Tr.orphans L).length = 0) && decide (Tr.lacks L = 0))) := ⟨rfl⟩
  rw [HCL.out]
  obtain ⟨nr, hnr⟩ : ∃ n, (Tr.roots L).length = n := ⟨_, rfl⟩
  obtain ⟨nl, hnl⟩ : ∃ n, (Tr.orphans L).length = n := ⟨_, rfl⟩
  have HKR := Stow.mk (trRoots_len A cap L hn hnr)
  have HKL := Stow.mk (trOrphans_len A cap L hn hnl)
  have HKE : Stow (∀ W, SpR W A cap L → Calls Try.prog 44 #[ktv hi lo A cap L x c] W fun e w' => e = .returned (.int .i64 (Tr.lacks L)) ∧ Below W.heap.size W w') := ⟨fun W h1 => vdLacks_any A cap hi lo L x c W h1 hn hkd⟩
  obtain ⟨m, hm⟩ : ∃ n, Tr.lacks L = n := ⟨_, rfl⟩
  rw [hm] at HKE ⊢
  rw [hnr, hnl]
  clear hb1 hS HCL hnr hnl hm hkd
  unfold ktv
  cases x
  · by_cases h1 : nr ≠ 1
    · obtain ⟨d1, d2, d3, _⟩ := eq1_no h1
      rw [decide_eq_false h1]
      go_enter Try.func81, Try.ntmps81
      go_wp2_with fail
      refine (HKR.out _ HS.out).mono ?_
      rintro e w1 ⟨A1, c1, rfl, hb1⟩
      have HB1 := Stow.mk (HB.out.trans (hb1.mono HB.out.size))
      clear hb1
      go_wp2_with fail
      go_ret
      exact ⟨rfl, HB1.out⟩
    · obtain rfl : nr = 1 := by omega
      by_cases h2 : nl ≠ 0
      · obtain ⟨d1, d2, d3⟩ := eq0_no h2
        rw [decide_eq_false h2]
        go_enter Try.func81, Try.ntmps81
        go_wp2_with fail
        refine (HKR.out _ HS.out).mono ?_
        rintro e w1 ⟨A1, c1, rfl, hb1⟩
        have HB1 := Stow.mk (HB.out.trans (hb1.mono HB.out.size))
        have HS1 := Stow.mk (HS.out.keep hb1)
        have HH1 := Stow.mk (HH.out.kept hb1)
        have q2 := HH1.out.cell (i := 2) rfl
        clear hb1
        go_wp2_with fail
        refine (HKL.out _ HS1.out).mono ?_
        rintro e w2 ⟨A2, c2, rfl, hb2⟩
        have HB2 := Stow.mk (HB1.out.trans (hb2.mono HB1.out.size))
        clear hb2
        go_wp2_with fail
        go_ret
        exact ⟨rfl, HB2.out⟩
      · obtain rfl : nl = 0 := by omega
        obtain ⟨b3, hb3⟩ : ∃ b, decide (m = 0) = b := ⟨_, rfl⟩
        have d3 : (m == 0) = b3 := by rw [← hb3, Bool.eq_iff_iff]; simp
        rw [hb3]
        clear hb3
        go_enter Try.func81, Try.ntmps81
        go_wp2_with fail
        refine (HKR.out _ HS.out).mono ?_
        rintro e w1 ⟨A1, c1, rfl, hb1⟩
        have HB1 := Stow.mk (HB.out.trans (hb1.mono HB.out.size))
        have HS1 := Stow.mk (HS.out.keep hb1)
        have HH1 := Stow.mk (HH.out.kept hb1)
        have q2 := HH1.out.cell (i := 2) rfl
        clear hb1
        go_wp2_with fail
        refine (HKL.out _ HS1.out).mono ?_
        rintro e w2 ⟨A2, c2, rfl, hb2⟩
        have HB2 := Stow.mk (HB1.out.trans (hb2.mono HB1.out.size))
        have HS2 := Stow.mk (HS1.out.keep hb2)
        have HH2 := Stow.mk (HH1.out.kept hb2)
        have q0 := HH2.out.cell (i := 0) rfl
        have q1 := HH2.out.cell (i := 1) rfl
        have q2 := HH2.out.cell (i := 2) rfl
        have q3 := HH2.out.cell (i := 3) rfl
        have q4 := HH2.out.cell (i := 4) rfl
        clear hb2
        go_wp2_with fail
        refine (HKE.out _ HS2.out).mono ?_
        rintro e w3 ⟨rfl, hb3⟩
        have HB3 := Stow.mk (HB2.out.trans (hb3.mono HB2.out.size))
        clear hb3
        go_wp2_with fail
        go_ret
        exact ⟨by simp, HB3.out⟩
  · go_enter Try.func81, Try.ntmps81
    go_wp2_with fail
    go_ret
    exact ⟨by simp, HB.out⟩

set_option maxHeartbeats 2000000 in
set_option maxRecDepth 100000 in
theorem vdOf_any (A : Option Addr) (cap hi lo : Nat) (L : List Sp) (x c : Bool) (w : World) (hS : SpR w A cap L) (hn : L.length ≤ 1000000) (hkd : KdOk L) :
    Calls Try.prog 42 #[ktv hi lo A cap L x c] w fun e w' => e = .returned (.int .i64 (Tr.said L x c : Nat)) ∧ Below w.heap.size w w' := by
  have hb1 : Below w.heap.size w (w.alloc (.cells (ktc hi lo A cap L x c).toArray 58)) := Below.alloc' (Below.self w) _
  have HB := Stow.mk hb1
  have HS := Stow.mk (hS.keep hb1)
  have HH := Stow.mk (Held.made w (ktc hi lo A cap L x c) 58)
  have HCL : Stow (Tr.said L x c = if Tr.clashes L c then 2 else if Tr.whole L x then 1 else 0) := ⟨rfl⟩
  rw [HCL.out]
  have HKR : Stow (∀ W, SpR W A cap L → Calls Try.prog 80 #[ktv hi lo A cap L x c] W fun e w' => e = .returned (.bool (Tr.clashes L c)) ∧ Below W.heap.size W w') := ⟨fun W h1 => vdClashes_any A cap hi lo L x c W h1 hn⟩
  have HKE : Stow (∀ W, SpR W A cap L → Calls Try.prog 81 #[ktv hi lo A cap L x c] W fun e w' => e = .returned (.bool (Tr.whole L x)) ∧ Below W.heap.size W w') := ⟨fun W h1 => vdWhole_any A cap hi lo L x c W h1 hn hkd⟩
  obtain ⟨b1, hb1⟩ : ∃ n, Tr.clashes L c = n := ⟨_, rfl⟩
  obtain ⟨b2, hb2⟩ : ∃ n, Tr.whole L x = n := ⟨_, rfl⟩
  rw [hb1] at HKR ⊢
  rw [hb2] at HKE ⊢
  clear hS HCL hb1 hb2 hkd
  unfold ktv
  cases b1
  · go_enter Try.func42, Try.ntmps42
    go_wp2_with fail
    refine (HKR.out _ HS.out).mono ?_
    rintro e w1 ⟨rfl, hb1⟩
    have HB1 := Stow.mk (HB.out.trans (hb1.mono HB.out.size))
    have HS1 := Stow.mk (HS.out.keep hb1)
    have HH1 := Stow.mk (HH.out.kept hb1)
    have q0 := HH1.out.cell (i := 0) rfl
    have q1 := HH1.out.cell (i := 1) rfl
    have q2 := HH1.out.cell (i := 2) rfl
    have q3 := HH1.out.cell (i := 3) rfl
    have q4 := HH1.out.cell (i := 4) rfl
    clear hb1
    go_wp2_with fail
    refine (HKE.out _ HS1.out).mono ?_
    rintro e w2 ⟨rfl, hb2⟩
    have HB2 := Stow.mk (HB1.out.trans (hb2.mono HB1.out.size))
    clear hb2
    cases b2
    · go_wp2_with fail
      go_ret
      exact ⟨rfl, HB2.out⟩
    · go_wp2_with fail
      go_ret
      exact ⟨rfl, HB2.out⟩
  · go_enter Try.func42, Try.ntmps42
    go_wp2_with fail
    refine (HKR.out _ HS.out).mono ?_
    rintro e w1 ⟨rfl, hb1⟩
    have HB1 := Stow.mk (HB.out.trans (hb1.mono HB.out.size))
    clear hb1
    go_wp2_with fail
    go_ret
    exact ⟨rfl, HB1.out⟩

/-- The tree of a trace. -/
def Tr.treeN (L : List Sp) (x c : Bool) : List Nv := if Tr.said L x c = 1 then Tr.nodes L ((Tr.roots L).headD 0) else []
theorem Tr.treeN_no {L : List Sp} {x c : Bool} (h : Tr.said L x c ≠ 1) : Tr.treeN L x c = [] := by unfold Tr.treeN; rw [if_neg h]
theorem Tr.treeN_yes {L : List Sp} {x c : Bool} (h : Tr.said L x c = 1) : ∃ r, Tr.roots L = [r] ∧ r < L.length ∧ Tr.treeN L x c = (Tr.walk L r).map (Tr.node L) := by
  obtain ⟨r, hr, hl, _⟩ := (Tr.said_is h).top
  refine ⟨r, hr, hl, ?_⟩
  unfold Tr.treeN
  rw [if_pos h, hr]
  rfl
def TreeOut (M : List Nv) (b : Bool) (w : World) (e : Ending) (w' : World) : Prop := ∃ vA vc, e = .returned (.tuple #[.slice vA M.length vc, .bool b]) ∧ NvR w' vA vc M ∧ Below w.heap.size w w'
theorem nvr_nil (w : World) : NvR w none 0 [] := SlR.nil w 4


set_option maxHeartbeats 2000000 in
set_option maxRecDepth 100000 in
theorem vdTree_any (A : Option Addr) (cap hi lo : Nat) (L : List Sp) (x c : Bool) (w : World) (hS : SpR w A cap L) (hn : L.length ≤ 1000000) (hkd : KdOk L) :
    Calls Try.prog 40 #[ktv hi lo A cap L x c] w fun e w' => TreeOut (Tr.treeN L x c) (decide (Tr.said L x c = 1)) w e w' := by
  have HKO : Stow (∀ W, SpR W A cap L → Calls Try.prog 42 #[ktv hi lo A cap L x c] W fun e w' => e = .returned (.int .i64 (Tr.said L x c : Nat)) ∧ Below W.heap.size W w') := ⟨fun W h1 => vdOf_any A cap hi lo L x c W h1 hn hkd⟩
  have HKR0 : Stow (∀ W, SpR W A cap L → _) := ⟨fun W h => trRoots_any A cap L W h hn⟩
  have HKN0 : Stow (∀ W r, SpR W A cap L → r < L.length → _) := ⟨fun W r h _ => trNodes_any A cap L r W h hn⟩
  have hb1 : Below w.heap.size w (w.alloc (.cells (ktc hi lo A cap L x c).toArray 58)) := Below.alloc' (Below.self w) _
  have HB := Stow.mk hb1
  have HS := Stow.mk (hS.keep hb1)
  have HH := Stow.mk (Held.made w (ktc hi lo A cap L x c) 58)
  obtain ⟨n, hn1⟩ : ∃ n, Tr.said L x c = n := ⟨_, rfl⟩
  rw [hn1] at HKO
  by_cases h1 : n = 1
  · subst h1
    obtain ⟨r, hr, hrl, hM⟩ := Tr.treeN_yes hn1
    rw [hM, hn1]
    obtain ⟨M, hM⟩ : ∃ M, (Tr.walk L r).map (Tr.node L) = M := ⟨_, rfl⟩
    rw [hM]
    have HKR : Stow (∀ W, SpR W A cap L → Calls Try.prog 24 #[.slice A L.length cap] W fun e w' => ∃ g vc, e = .returned (.slice (some ⟨g, 0, none⟩) 1 vc) ∧ w'.cell? ⟨g, 0, none⟩ = some (.int .i64 (r : Int)) ∧ Below W.heap.size W w') := ⟨fun W h => (HKR0.out W h).mono fun e w' ⟨v, he, hr1, hb⟩ => by
      rw [hr] at hr1
      obtain ⟨A1, c1, rfl⟩ := own_form hr1
      obtain ⟨g, rfl, _, _, q⟩ := IRow.at_ hr1 (i := 0) (by simp)
      exact ⟨g, c1, he, q, hb⟩⟩
    have HKN : Stow (∀ W, SpR W A cap L → Calls Try.prog 35 #[.slice A L.length cap, .int .i64 (r : Int)] W fun e w' => ∃ vA vc, e = .returned (.slice vA M.length vc) ∧ NvR w' vA vc M ∧ Below W.heap.size W w') := ⟨fun W h => (HKN0.out W r h hrl).mono fun e w' h => nv_of hM h⟩
    have SF : Stow (∀ W', Held W' w.heap.size (ktc hi lo A cap L x c) → W'.cell? ⟨w.heap.size, 2, none⟩ = some (.slice A L.length cap)) := ⟨fun W' h => h.cell (i := 2) rfl⟩
    clear hb1 hS hr hM hn1 HKR0 HKN0
    unfold ktv
    go_enter Try.func40, Try.ntmps40
    go_wp2_with fail
    refine (HKO.out _ HS.out).mono ?_
    rintro e w1 ⟨rfl, hb1⟩
    have HB1 := Stow.mk (HB.out.trans (hb1.mono HB.out.size))
    have HS1 := Stow.mk (HS.out.keep hb1)
    have HH1 := Stow.mk (HH.out.kept hb1)
    have q2 := SF.out _ HH1.out
    clear hb1
    go_wp2_with fail
    go_region_with
      (first
        | (go_at_call 24; refine (HKR.out _ HS1.out.drew).mono ?_; rintro e w5 ⟨g5, vc5, rfl, p5, hb5⟩; have HB5 := Stow.mk (Below.call (Below.drew (Below.self w1)) hb5); have HS5 := Stow.mk (HS1.out.keep HB5.out); have HH5 := Stow.mk (HH1.out.kept HB5.out); have hk6 := SF.out w5 HH5.out)
        | (go_at_call 35; refine (HKN.out _ HS5.out).mono ?_; rintro e w6 ⟨vA6, vc6, rfl, hr6, hb6⟩; have HB6 := Stow.mk (HB5.out.trans (hb6.mono HB5.out.size)); have HN6 := Stow.mk hr6; have hk6 := SF.out w6 (HH5.out.kept hb6)))
    all_goals
      have HB7 := Stow.mk (HB1.out.trans (HB6.out.mono HB1.out.size))
      clear hb5 hb6 hr6 hk6
      go_wp2_with fail
      go_ret2
      exact ⟨_, _, rfl, HN6.out, HB7.out⟩
  · obtain ⟨e1, e2, e3, e4, e5⟩ := eq1_no h1
    have HE1 : Stow (decide (n = 1) = false) := ⟨by simpa using h1⟩
    rw [Tr.treeN_no (by rw [hn1]; exact h1), hn1, HE1.out]
    clear hb1 hS hn1 h1 HE1 HKR0 HKN0
    unfold ktv
    go_enter Try.func40, Try.ntmps40
    go_wp2_with fail
    refine (HKO.out _ HS.out).mono ?_
    rintro e w1 ⟨rfl, hb1⟩
    have HB1 := Stow.mk (HB.out.trans (hb1.mono HB.out.size))
    clear hb1
    go_wp2_with fail
    refine bodyPost_ret (results_tmp2 rfl _ _ _) rfl ?_
    exact ⟨none, 0, rfl, nvr_nil _, HB1.out⟩
end Go.Proofs.Ythbpcdoddcacdaa
