/- Walks of slices.Clone at names, rules and predicates and of rule.copied. Conditions: the lists' memory; not longer than a thousand.; Walks of rule.Order's comparison and of slices' insertion sort at rules. Conditions: the row is the call's own; not longer than twenty.; Walk of rule.Order. Conditions: the rules' memory; fewer than twenty.; Walks of table.version and Compile. Conditions: the rules' and the names' memory; what may be; a small version. -/
import Derived.Test.YtfbhdkkmcfnghaaGreatDoorQ0
import Derived.Test.YtfbhdkkmcfnghaaGreatDoorApp
import Derived.Test.YtfbhdkkmcfnghaaGreatDoorOwnKit
import Derived.Test.YtfbhdkkmcfnghaaGreatDoorCfRdRule
import Derived.BigRegion
import Derived.Deep.MidRow
import Derived.Test.YtfbhdkkmcfnghaaGreatDoorQ1
import Derived.Deep.RegionHeld3
import Derived.Deep.Onto

section
namespace Go.Proofs.YtfbhdkkmcfnghaaGreatDoor
open Go.RowKit
set_option linter.unusedVariables false
set_option linter.unusedSimpArgs false

def strC (l : List UInt8) : List Value := [.string (bs l)]
theorem strC_one (l : List UInt8) : ∀ u ∈ strC l, u.oneCell' = true := by
  intro u hu
  simp [strC] at hu
  subst hu
  rfl
theorem info_strC : (Tryz.prog.info? 9).map (fun i => (i.zero, i.size, i.bytes)) = some (some (.string ⟨#[]⟩), 1, 16) := by kernel_rfl
set_option maxHeartbeats 1000000 in
set_option maxRecDepth 100000 in
theorem cloneN_any (L : List (List UInt8)) (A : Option Addr) (cap : Nat) (w : World) (hS : SlR w 1 (.slice A L.length cap) (L.map strC)) (hn : L.length ≤ 1000) :
    Calls Tryz.prog 49 #[.slice A L.length cap] w fun e w' => ∃ A' c', e = .returned (.slice A' L.length c') ∧ w'.ownsRow w.heap.size 9 1 (.slice A' L.length c') L.length (L.flatMap strC) ∧ Below w.heap.size w w' := by
  have q22 := fun (w : World) (a : Option Addr) (n c n' c' : Nat) => Lib.run_eql_slice_nil (P := Tryz.prog) w 38 9 a n c n' c' Tryz.underlying38
  rcases A with _ | ad
  · have hL := slr_none hS
    obtain rfl : L = [] := by simpa using hL
    clear hS
    go_enter Tryz.func49, Tryz.ntmps49
    go_wp2_with fail
    go_ret
    exact ⟨none, 0, rfl, World.ownsRow_nil _ _ _ _, Below.self _⟩
  · have HS := Stow.mk (hS.alloc (.cells #[] 9))
    clear hS
    have K : Stow ((∀ x ∈ L.map strC, x.length = 1) ∧ (∀ x ∈ L.map strC, ∀ u ∈ x, u.oneCell' = true) ∧ 0 + L.length ≤ maxLen ∧ (0 + L.length) * 16 ≤ 140737488355328) := ⟨fun x hx => by
      obtain ⟨y, _, rfl⟩ := List.mem_map.1 hx
      rfl, fun x hx u hu => by
      obtain ⟨y, _, rfl⟩ := List.mem_map.1 hx
      exact strC_one y u hu, by unfold maxLen; omega, by omega⟩
    go_enter Tryz.func49, Tryz.ntmps49
    go_wp2_with (at_builtin; refine wpList_append_slr (World.ownsRow_made w #[] 0 (Nat.le_refl _) (Nat.zero_le _) (by simp)) (L.map strC) (some ad) L.length cap HS.out (fun h => by cases h) K.out.1 K.out.2.1 rfl (.tmp 5) (.tmp 6) 38 rfl Tryz.underlying38 info_strC rfl (by decide) rfl rfl K.out.2.2.1 K.out.2.2.2 (by simp) ?_; intro A4 c4 w4 h4 hg4 hb4)
    have HB := Stow.mk ((Below.alloc' (Below.self w) (.cells #[] 9)).trans hb4)
    rw [Nat.zero_add, List.nil_append, ← List.flatMap_def] at h4
    have H4 := Stow.mk h4
    clear hg4 hb4 h4
    go_ret
    exact ⟨A4, c4, rfl, H4.out, HB.out⟩
set_option maxHeartbeats 1000000 in
set_option maxRecDepth 100000 in
theorem cloneR_any (L : List Rm) (A : Option Addr) (cap : Nat) (w : World) (hS : SlR w 10 (.slice A L.length cap) (L.map Rm.cells)) (hn : L.length ≤ 1000) :
    Calls Tryz.prog 53 #[.slice A L.length cap] w fun e w' => ∃ A' c', e = .returned (.slice A' L.length c') ∧ w'.ownsRow w.heap.size 95 10 (.slice A' L.length c') L.length (L.flatMap Rm.cells) ∧ Below w.heap.size w w' := by
  have q22 := fun (w : World) (a : Option Addr) (n c n' c' : Nat) => Lib.run_eql_slice_nil (P := Tryz.prog) w 44 95 a n c n' c' Tryz.underlying44
  rcases A with _ | ad
  · have hL := slr_none hS
    obtain rfl : L = [] := by simpa using hL
    clear hS
    go_enter Tryz.func53, Tryz.ntmps53
    go_wp2_with fail
    go_ret
    exact ⟨none, 0, rfl, World.ownsRow_nil _ _ _ _, Below.self _⟩
  · have HS := Stow.mk (hS.alloc (.cells #[] 95))
    clear hS
    have K : Stow ((∀ x ∈ L.map Rm.cells, x.length = 10) ∧ (∀ x ∈ L.map Rm.cells, ∀ u ∈ x, u.oneCell' = true) ∧ 0 + L.length ≤ maxLen ∧ (0 + L.length) * 112 ≤ 140737488355328) := ⟨fun x hx => by
      obtain ⟨y, _, rfl⟩ := List.mem_map.1 hx
      rfl, fun x hx u hu => by
      obtain ⟨y, _, rfl⟩ := List.mem_map.1 hx
      exact Rm.one y u hu, by unfold maxLen; omega, by omega⟩
    go_enter Tryz.func53, Tryz.ntmps53
    go_wp2_with (at_builtin; refine wpList_append_slr (World.ownsRow_made w #[] 0 (Nat.le_refl _) (Nat.zero_le _) (by simp)) (L.map Rm.cells) (some ad) L.length cap HS.out (fun h => by cases h) K.out.1 K.out.2.1 rfl (.tmp 5) (.tmp 6) 44 rfl Tryz.underlying44 info_rule rfl (by decide) rfl rfl K.out.2.2.1 K.out.2.2.2 (by simp) ?_; intro A4 c4 w4 h4 hg4 hb4)
    have HB := Stow.mk ((Below.alloc' (Below.self w) (.cells #[] 95)).trans hb4)
    rw [Nat.zero_add, List.nil_append, ← List.flatMap_def] at h4
    have H4 := Stow.mk h4
    clear hg4 hb4 h4
    go_ret
    exact ⟨A4, c4, rfl, H4.out, HB.out⟩
set_option maxHeartbeats 1000000 in
set_option maxRecDepth 100000 in
theorem cloneP_any (L : List Pd) (A : Option Addr) (cap : Nat) (w : World) (hS : SlR w 3 (.slice A L.length cap) (L.map Pd.cells)) (hn : L.length ≤ 1000) :
    Calls Tryz.prog 54 #[.slice A L.length cap] w fun e w' => ∃ A' c', e = .returned (.slice A' L.length c') ∧ w'.ownsRow w.heap.size 98 3 (.slice A' L.length c') L.length (L.flatMap Pd.cells) ∧ Below w.heap.size w w' := by
  have q22 := fun (w : World) (a : Option Addr) (n c n' c' : Nat) => Lib.run_eql_slice_nil (P := Tryz.prog) w 93 98 a n c n' c' Tryz.underlying93
  rcases A with _ | ad
  · have hL := slr_none hS
    obtain rfl : L = [] := by simpa using hL
    clear hS
    go_enter Tryz.func54, Tryz.ntmps54
    go_wp2_with fail
    go_ret
    exact ⟨none, 0, rfl, World.ownsRow_nil _ _ _ _, Below.self _⟩
  · have HS := Stow.mk (hS.alloc (.cells #[] 98))
    clear hS
    have K : Stow ((∀ x ∈ L.map Pd.cells, x.length = 3) ∧ (∀ x ∈ L.map Pd.cells, ∀ u ∈ x, u.oneCell' = true) ∧ 0 + L.length ≤ maxLen ∧ (0 + L.length) * 40 ≤ 140737488355328) := ⟨fun x hx => by
      obtain ⟨y, _, rfl⟩ := List.mem_map.1 hx
      rfl, fun x hx u hu => by
      obtain ⟨y, _, rfl⟩ := List.mem_map.1 hx
      exact Pd.one y u hu, by unfold maxLen; omega, by omega⟩
    go_enter Tryz.func54, Tryz.ntmps54
    go_wp2_with (at_builtin; refine wpList_append_slr (World.ownsRow_made w #[] 0 (Nat.le_refl _) (Nat.zero_le _) (by simp)) (L.map Pd.cells) (some ad) L.length cap HS.out (fun h => by cases h) K.out.1 K.out.2.1 rfl (.tmp 5) (.tmp 6) 93 rfl Tryz.underlying93 info_pred rfl (by decide) rfl rfl K.out.2.2.1 K.out.2.2.2 (by simp) ?_; intro A4 c4 w4 h4 hg4 hb4)
    have HB := Stow.mk ((Below.alloc' (Below.self w) (.cells #[] 98)).trans hb4)
    rw [Nat.zero_add, List.nil_append, ← List.flatMap_def] at h4
    have H4 := Stow.mk h4
    clear hg4 hb4 h4
    go_ret
    exact ⟨A4, c4, rfl, H4.out, HB.out⟩
/-- Rules of one's own: the row, and the predicates apart from it. -/
structure RsO (w : World) (B : Nat) (A : Option Addr) (cap : Nat) (R : List Rm) : Prop where
  own : w.ownsRow B 95 10 (.slice A R.length cap) R.length (R.flatMap Rm.cells)
  each : ∀ m ∈ R, RmR w m
  apart : ∀ m ∈ R, ∀ a, m.A = some a → B ≤ a.block ∧ ∀ ad, A = some ad → a.block ≠ ad.block
  lt : ∀ m ∈ R, ∀ a, m.A = some a → a.block < w.heap.size
theorem RsO.read {w : World} {B : Nat} {A : Option Addr} {cap : Nat} {R : List Rm} (h : RsO w B A cap R) : RsR w A cap R := ⟨own_of_cells (fun _ => rfl) h.own rfl, h.each⟩
theorem RsO.keep {w w' : World} {B : Nat} {A : Option Addr} {cap : Nat} {R : List Rm} (h : RsO w B A cap R) (hb : Below w.heap.size w w') : RsO w' B A cap R := ⟨own_kept h.own hb, fun m hm => (h.each m hm).keep hb, h.apart, fun m hm a e => Nat.lt_of_lt_of_le (h.lt m hm a e) hb.size⟩
/-- The copying, j rules on. -/
structure CpR (w : World) (B g n cap : Nat) (R Q : List Rm) (j : Nat) : Prop where
  len : Q.length = j
  same : Q.map Rm.r = (R.take j).map Rm.r
  own : w.ownsRow B 95 10 (.slice (some ⟨g, 0, none⟩) n cap) n ((Q ++ R.drop j).flatMap Rm.cells)
  each : ∀ m ∈ Q, RmR w m
  apart : ∀ m ∈ Q, ∀ a, m.A = some a → B ≤ a.block ∧ a.block ≠ g
  lt : ∀ m ∈ Q, ∀ a, m.A = some a → a.block < w.heap.size
theorem CpR.keep {w w' : World} {B g n cap j : Nat} {R Q : List Rm} (h : CpR w B g n cap R Q j) (hb : Below w.heap.size w w') : CpR w' B g n cap R Q j :=
  ⟨h.len, h.same, own_kept h.own hb, fun m hm => (h.each m hm).keep hb, h.apart, fun m hm a e => Nat.lt_of_lt_of_le (h.lt m hm a e) hb.size⟩
theorem rm_flat_len : ∀ Q : List Rm, (Q.flatMap Rm.cells).length = Q.length * 10
  | [] => rfl
  | m :: t => by rw [List.flatMap_cons, List.length_append, rm_flat_len t, Rm.cells_len, List.length_cons]; omega
theorem CpR.next {w : World} {B g n cap j : Nat} {R Q : List Rm} {m : Rm} (h : CpR w B g n cap R Q j) (hj : j < R.length) (hm : R[j] = m) (A : Option Addr) (c : Nat) (hR : RmR w ⟨m.r, A, c⟩) (hA : ∀ a, A = some a → B ≤ a.block ∧ a.block ≠ g) (hl : ∀ a, A = some a → a.block < w.heap.size) :
    CpR (w.setCell ⟨g, j * 10 + 1, none⟩ (.slice A m.r.ps.length c)) B g n cap R (Q ++ [⟨m.r, A, c⟩]) (j + 1) := by
  have ht := Turn.setC w g (j * 10 + 1) (.slice A m.r.ps.length c)
  refine ⟨by simp [h.len], ?_, ?_, ?_, ?_, ?_⟩
  · rw [List.map_append, h.same, List.take_succ_eq_append_getElem hj, List.map_append, hm]
    rfl
  · have h1 := h.own
    rw [List.drop_eq_getElem_cons hj, hm] at h1
    have h2 := (World.ownsRow.stored h1 (j * 10 + 1) (.slice A m.r.ps.length c)).1
    have e : ((Q ++ m :: R.drop (j + 1)).flatMap Rm.cells).set (j * 10 + 1) (.slice A m.r.ps.length c) = (Q ++ [(⟨m.r, A, c⟩ : Rm)] ++ R.drop (j + 1)).flatMap Rm.cells := by
      simp only [List.flatMap_append, List.flatMap_cons, List.flatMap_nil, List.append_assoc]
      have hl := rm_flat_len Q
      rw [h.len] at hl
      rw [List.set_append_right _ _ (by omega), hl]
      have : j * 10 + 1 - j * 10 = 1 := by omega
      rw [this]
      rfl
    rw [e] at h2
    exact h2
  · intro x hx
    rcases List.mem_append.1 hx with hx | hx
    · exact (h.each x hx).turn ht (fun a e => (h.apart x hx a e).2)
    · simp only [List.mem_singleton] at hx
      subst hx
      exact hR.turn ht (fun a e => (hA a e).2)
  · intro x hx
    rcases List.mem_append.1 hx with hx | hx
    · exact h.apart x hx
    · simp only [List.mem_singleton] at hx
      subst hx
      exact hA
  · intro x hx a e
    refine Nat.lt_of_lt_of_le ?_ ht.size
    rcases List.mem_append.1 hx with hx | hx
    · exact h.lt x hx a e
    · simp only [List.mem_singleton] at hx
      subst hx
      exact hl a e
theorem CpR.at_ {w : World} {B g n cap j : Nat} {R Q : List Rm} (h : CpR w B g n cap R Q j) (hn : n = R.length) (hj : j < R.length) : g < w.heap.size ∧ w.rangeAt g (j * 10) R[j].cells ∧ w.frozen? ⟨g, j * 10 + 1, none⟩ = false := by
  have hjQ : j < (Q ++ R.drop j).length := by simp [h.len]; omega
  have hlen : (Q ++ R.drop j).length = n := by simp [h.len]; omega
  obtain ⟨hgl, hra⟩ := rm_at (own_of_cells (fun _ => rfl) h.own hlen.symm) hjQ
  have hel : (Q ++ R.drop j)[j] = R[j] := by
    rw [List.getElem_append_right (by rw [h.len]; exact Nat.le_refl _)]
    simp [h.len]
  rw [hel, Nat.zero_add] at hra
  exact ⟨hgl, hra, World.ownsRow.frozenAt h.own _⟩
theorem CpR.done {w : World} {B g cap : Nat} {R Q : List Rm} (h : CpR w B g R.length cap R Q R.length) : RsO w B (some ⟨g, 0, none⟩) cap Q ∧ Q.map Rm.r = R.map Rm.r ∧ Q.length = R.length := by
  refine ⟨⟨?_, h.each, fun m hm a e => ⟨(h.apart m hm a e).1, fun ad ha => by cases ha; exact (h.apart m hm a e).2⟩, h.lt⟩, by rw [h.same, List.take_length], h.len⟩
  have := h.own
  rw [h.len]
  simpa using this
set_option maxHeartbeats 4000000 in
set_option maxRecDepth 100000 in
theorem ruleCopied_any (A : Option Addr) (cap : Nat) (R : List Rm) (w : World) (h : RsR w A cap R) (hn : R.length ≤ 1000) (hp : ∀ m ∈ R, m.r.ps.length ≤ 1000) :
    Calls Tryz.prog 142 #[.slice A R.length cap] w fun e w' => ∃ A' cap' R', e = .returned (.slice A' R.length cap') ∧ R'.map Rm.r = R.map Rm.r ∧ RsO w' w.heap.size A' cap' R' ∧ Below w.heap.size w w' := by
  have HF := Stow.mk h
  have HPL := Stow.mk hp
  have HC := Stow.mk (cloneR_any R A cap w h.row hn)
  obtain ⟨n, hnn⟩ : ∃ n, R.length = n := ⟨_, rfl⟩
  have HNL := Stow.mk hnn
  rw [hnn] at hn HC ⊢
  clear h hp
  go_enter Tryz.func142, Tryz.ntmps142
  go_wp2_with fail
  refine HC.out.mono ?_
  rintro e w1 ⟨A1, c1, rfl, hO1, hb1⟩
  have HO1 := Stow.mk hO1
  have HB := Stow.mk hb1
  clear hO1 hb1 HC
  have hn1000 : (n : Int) ≤ 1000 := by omega
  by_cases hL0 : n = 0
  · subst hL0
    obtain rfl := List.eq_nil_of_length_eq_zero hnn
    go_wp2_with fail
    go_loopw [10] (fun v wr => v = .int .i64 0 ∧ wr = w1) (fun _ _ => 0)
    case atStart => exact ⟨rfl, rfl⟩
    case round =>
      obtain ⟨rfl, rfl⟩ := hrel
      go_wp2_with fail
      go_ret
      exact ⟨A1, c1, [], rfl, rfl, ⟨HO1.out, by simp, by simp, by simp⟩, HB.out⟩
  obtain ⟨g, c1', hform, hge, hlt⟩ := World.ownsRow.form HO1.out (by omega)
  simp only [Value.slice.injEq, true_and] at hform
  obtain ⟨rfl, rfl⟩ := hform
  have HCP : Stow (CpR w1 w.heap.size g n c1 R [] 0) := ⟨⟨rfl, rfl, HO1.out, (fun x hx => by cases hx), (fun x hx => by cases hx), (fun x hx => by cases hx)⟩⟩
  clear HO1 hlt hnn
  go_wp2_with fail
  go_loopw [4, 5, 10] (fun _ _ v wr => ∃ j : Nat, v = .int .i64 (j : Int) ∧ j ≤ n ∧ Stow (∃ Q, CpR wr w.heap.size g n c1 R Q j) ∧ Stow (Below w.heap.size w wr)) (fun _ _ v _ => n - (intOf v).toNat)
  case atStart => exact ⟨0, rfl, by omega, ⟨[], HCP.out⟩, HB⟩
  case round =>
    obtain ⟨j, rfl, hj, HCQ, HB⟩ := hrel
    by_cases hjl : j < n
    · obtain ⟨Q, hQ⟩ := HCQ.out
      have hjR : j < R.length := by rw [HNL.out]; exact hjl
      obtain ⟨hgl, hra, hf1⟩ := hQ.at_ HNL.out.symm hjR
      have HM := Stow.mk ((HF.out.each _ (List.getElem_mem hjR)).keep HB.out)
      have hps := HPL.out _ (List.getElem_mem hjR)
      obtain ⟨m, hm⟩ : ∃ m, R[j] = m := ⟨_, rfl⟩
      rw [hm] at hra HM hps
      have HMJ := Stow.mk hm
      have HQ := Stow.mk hQ
      obtain ⟨⟨rank, ps, tg, ap, st, dp, dt, mp, mi, sm⟩, mA, mcap⟩ := m
      simp only at hps
      have q0 : wr.cell? ⟨g, j * 10, none⟩ = some (.int .i64 rank) := hra 0 _ rfl
      have q1 := hra 1 _ rfl
      have q2 := hra 2 _ rfl
      have q3 := hra 3 _ rfl
      have q4 := hra 4 _ rfl
      have q5 := hra 5 _ rfl
      have q6 := hra 6 _ rfl
      have q7 := hra 7 _ rfl
      have q8 := hra 8 _ rfl
      have q9 := hra 9 _ rfl
      simp only at q1 q2 q3 q4 q5 q6 q7 q8 q9
      have hji : (j : Int) < n := by omega
      have hj0 : (0 : Int) ≤ j := by omega
      have HBX := Stow.mk (Below.alloc' (Below.self wr) (.cells #[.int .i64 rank, .slice mA ps.length mcap, .string (bs tg), .int .i64 ap, .int .i64 st, .int .i64 dp, .int .i64 dt, .int .i64 mp, .string (bs mi), .int .i64 sm] 95))
      have HCL := Stow.mk (cloneP_any ps mA mcap (wr.alloc (.cells #[.int .i64 rank, .slice mA ps.length mcap, .string (bs tg), .int .i64 ap, .int .i64 st, .int .i64 dp, .int .i64 dt, .int .i64 mp, .string (bs mi), .int .i64 sm] 95)) (SlR.keep HM.out.row HBX.out) hps)
      clear hQ hra hm HCQ
      go_wp2_with fail
      refine HCL.out.mono ?_
      rintro e w3 ⟨A3, c3, rfl, hO3, hb3⟩
      have hb3' := HBX.out.trans (hb3.mono HBX.out.size)
      have HQ3 := Stow.mk (HQ.out.keep hb3')
      have HB3 := Stow.mk (HB.out.trans (hb3'.mono HB.out.size))
      obtain ⟨_, hra3, hf3⟩ := HQ3.out.at_ HNL.out.symm hjR
      rw [HMJ.out] at hra3
      have q3 := hra3 1 _ rfl
      have hA3 : ∀ a, A3 = some a → w.heap.size ≤ a.block ∧ a.block ≠ g := fun a e => by
        have := World.ownsRow.lt hO3 a.block (by subst e; rfl)
        have h2 := HBX.out.size
        have h3 := HB.out.size
        constructor
        · omega
        · omega
      have HN3 : Stow (CpR (w3.setCell ⟨g, j * 10 + 1, none⟩ (.slice A3 ps.length c3)) w.heap.size g n c1 R (Q ++ [⟨⟨rank, ps, tg, ap, st, dp, dt, mp, mi, sm⟩, A3, c3⟩]) (j + 1)) := ⟨HQ3.out.next hjR HMJ.out A3 c3 ⟨own_of_cells (fun _ => rfl) hO3 rfl, HM.out.fits, HM.out.tg, HM.out.mi⟩ hA3 (fun a e => (World.ownsRow.lt hO3 a.block (by subst e; rfl)).2)⟩
      have HBN : Stow (Below w.heap.size w (w3.setCell ⟨g, j * 10 + 1, none⟩ (.slice A3 ps.length c3))) := ⟨HB3.out.setCell (p := ⟨g, j * 10 + 1, none⟩) hge _⟩
      clear hO3 hb3 hb3' hra3 hA3 HCL HQ3 HB3 q0 q1 q2 q4 q5 q6 q7 q8 q9 hf1 HBX
      go_wp2_with fail
      exact ⟨⟨j + 1, by simp, by omega, ⟨_, HN3.out⟩, HBN⟩, by simp [intOf]; omega⟩
    · obtain rfl : j = n := by omega
      obtain ⟨Q, hQ⟩ := HCQ.out
      have hji : ¬ (j : Int) < j := by omega
      have HD : Stow (RsO wr w.heap.size (some ⟨g, 0, none⟩) c1 Q ∧ Q.map Rm.r = R.map Rm.r ∧ Q.length = R.length) := ⟨by
        have h := hQ
        rw [← HNL.out] at h
        exact h.done⟩
      clear hQ HCQ
      go_wp2_with fail
      go_ret
      exact ⟨_, _, rfl, Q, HD.out.2.1, HD.out.1, HB.out⟩
end Go.Proofs.YtfbhdkkmcfnghaaGreatDoor
end

section
namespace Go.Proofs.YtfbhdkkmcfnghaaGreatDoor
open Go.RowKit
set_option linter.unusedVariables false
set_option linter.unusedSimpArgs false

def Ct.cmp (a b : Int) : Int := if b < a then -1 else if a < b then 1 else 0
set_option maxHeartbeats 1000000 in
set_option maxRecDepth 100000 in
theorem ordFn_any (a b : Rm) (w : World) : Calls Tryz.prog 144 #[.agg a.cells.toArray, .agg b.cells.toArray] w fun e w' => e = .returned (.int .i64 (Ct.cmp a.r.rank b.r.rank)) ∧ Below w.heap.size w w' := by
  have hb1 := Below.alloc' (Below.self w) (.cells a.cells.toArray 95)
  have hb := Below.call hb1 (Below.alloc' (Below.self (w.alloc (.cells a.cells.toArray 95))) (.cells b.cells.toArray 95))
  have HB := Stow.mk hb
  clear hb1 hb
  obtain ⟨⟨r1, ps1, tg1, ap1, st1, dp1, dt1, mp1, mi1, sm1⟩, A1, c1⟩ := a
  obtain ⟨⟨r2, ps2, tg2, ap2, st2, dp2, dt2, mp2, mi2, sm2⟩, A2, c2⟩ := b
  unfold Rm.cells at *
  simp only at *
  by_cases h1 : r2 < r1
  · have HE : Stow (Ct.cmp r1 r2 = -1) := ⟨by unfold Ct.cmp; rw [if_pos h1]⟩
    go_enter Tryz.func144, Tryz.ntmps144
    go_wp2_with fail
    go_ret
    exact ⟨by rw [HE.out]; rfl, HB.out⟩
  · by_cases h2 : r1 < r2
    · have HE : Stow (Ct.cmp r1 r2 = 1) := ⟨by unfold Ct.cmp; rw [if_neg h1, if_pos h2]⟩
      go_enter Tryz.func144, Tryz.ntmps144
      go_wp2_with fail
      go_ret
      exact ⟨by rw [HE.out]; rfl, HB.out⟩
    · have HE : Stow (Ct.cmp r1 r2 = 0) := ⟨by unfold Ct.cmp; rw [if_neg h1, if_neg h2]⟩
      go_enter Tryz.func144, Tryz.ntmps144
      go_wp2_with fail
      go_ret
      exact ⟨by rw [HE.out]; rfl, HB.out⟩
/-- A row of rules in block g. -/
abbrev RuRow (w : World) (B g n cap : Nat) (L : List Rm) : Prop := w.ownsRow B 95 10 (.slice (some ⟨g, 0, none⟩) n cap) n (L.flatMap Rm.cells)
theorem RuRow.at_ {w : World} {B g n cap j : Nat} {L : List Rm} (h : RuRow w B g n cap L) (hn : L.length = n) (hj : j < L.length) : g < w.heap.size ∧ w.rangeAt g (j * 10) L[j].cells := by
  obtain ⟨hgl, hra⟩ := rm_at (own_of_cells (fun _ => rfl) h hn.symm) hj
  rw [Nat.zero_add] at hra
  exact ⟨hgl, hra⟩
/-- The row with x at place j: before it P, behind it Q. -/
theorem RuRow.swap {w : World} {B g n cap : Nat} {P Q : List Rm} {x y : Rm} (h : RuRow w B g n cap (P ++ y :: x :: Q)) : RuRow ((w.setCells g ((P.length + 1) * 10) y.cells).setCells g (P.length * 10) x.cells) B g n cap (P ++ x :: y :: Q) := by
  have h1 := own_putAll y.cells w ((P.length + 1) * 10) _ h
  have h2 := own_putAll x.cells _ (P.length * 10) _ h1
  have e : putL (putL ((P ++ y :: x :: Q).flatMap Rm.cells) ((P.length + 1) * 10) y.cells) (P.length * 10) x.cells = (P ++ x :: y :: Q).flatMap Rm.cells := by
    have l1 := rm_flat_len P
    have e1 : (P ++ y :: x :: Q).flatMap Rm.cells = (P.flatMap Rm.cells ++ y.cells) ++ (x.cells ++ Q.flatMap Rm.cells) := by simp [List.flatMap_append]
    have l2 : (P.flatMap Rm.cells ++ y.cells).length = (P.length + 1) * 10 := by rw [List.length_append, l1, Rm.cells_len]; omega
    rw [e1, ← l2, putL_mid y.cells (P.flatMap Rm.cells ++ y.cells) x.cells (Q.flatMap Rm.cells) rfl]
    rw [List.append_assoc, ← l1, putL_mid x.cells (P.flatMap Rm.cells) y.cells (y.cells ++ Q.flatMap Rm.cells) rfl]
    simp [List.flatMap_append]
  rw [e] at h2
  exact h2
theorem Ct.ins_stop {P : List Rm} {x : Rm} {j : Nat} (hj : j ≤ P.length) (hf : Ct.Falls (P.map Rm.r)) (h0 : j = 0 ∨ ∃ y : Rm, P[j - 1]? = some y ∧ x.r.rank ≤ y.r.rank) (hd : ∀ z ∈ P.drop j, z.r.rank < x.r.rank) :
    (P.take j ++ x :: P.drop j).map Rm.r = Ct.ins x.r (P.map Rm.r) := by
  have e : P.map Rm.r = (P.take j).map Rm.r ++ (P.drop j).map Rm.r := by rw [← List.map_append, List.take_append_drop]
  rw [e, Ct.ins_at]
  · simp
  · intro z hz
    obtain ⟨m, hm, rfl⟩ := List.mem_map.1 hz
    obtain ⟨i, hi, rfl⟩ := List.getElem_of_mem hm
    rw [List.length_take] at hi
    rw [List.getElem_take]
    rcases h0 with rfl | ⟨y, hy, hle⟩
    · omega
    · obtain ⟨hlt, rfl⟩ := List.getElem?_eq_some_iff.1 hy
      by_cases e2 : i = j - 1
      · subst e2; exact hle
      · have hp := List.pairwise_iff_getElem.1 hf i (j - 1) (by rw [List.length_map]; omega) (by rw [List.length_map]; omega) (by omega)
        simp only [List.getElem_map] at hp
        omega
  · intro z hz
    obtain ⟨m, hm, rfl⟩ := List.mem_map.1 hz
    exact hd m hm
theorem setCells10 (W : World) (g o : Nat) (v0 v1 v2 v3 v4 v5 v6 v7 v8 v9 : Value) : W.setCells g o [v0, v1, v2, v3, v4, v5, v6, v7, v8, v9] = (((((((((W.setCell ⟨g, o, none⟩ v0).setCell ⟨g, o + 1, none⟩ v1).setCell ⟨g, o + 2, none⟩ v2).setCell ⟨g, o + 3, none⟩ v3).setCell ⟨g, o + 4, none⟩ v4).setCell ⟨g, o + 5, none⟩ v5).setCell ⟨g, o + 6, none⟩ v6).setCell ⟨g, o + 7, none⟩ v7).setCell ⟨g, o + 8, none⟩ v8).setCell ⟨g, o + 9, none⟩ v9 := rfl
/-- The sorting, k rules on. -/
structure SrtR (w : World) (B g n cap : Nat) (R P : List Rm) (k : Nat) : Prop where
  row : RuRow w B g n cap (P ++ R.drop k)
  len : P.length = k
  perm : P.Perm (R.take k)
  ord : P.map Rm.r = Ct.order ((R.take k).map Rm.r)
/-- One rule on its way: at place j. -/
structure MvR (w : World) (B g n cap : Nat) (P Q : List Rm) (x : Rm) (j : Nat) : Prop where
  row : RuRow w B g n cap (P.take j ++ x :: (P.drop j ++ Q))
  less : ∀ z ∈ P.drop j, z.r.rank < x.r.rank
theorem MvR.keep {w w' : World} {B g n cap j : Nat} {P Q : List Rm} {x : Rm} (h : MvR w B g n cap P Q x j) (hb : Below w.heap.size w w') : MvR w' B g n cap P Q x j := ⟨own_kept h.row hb, h.less⟩
theorem MvR.drew {w : World} {B g n cap j : Nat} {P Q : List Rm} {x : Rm} (h : MvR w B g n cap P Q x j) : MvR w.drew B g n cap P Q x j := ⟨h.row, h.less⟩
theorem Only.drew {g : Nat} {w w' : World} (h : Only g w w') : Only g w w'.drew := h.trans (Only.drewN g w' 1)
theorem MvR.start {w : World} {B g n cap k : Nat} {R P : List Rm} (h : SrtR w B g n cap R P k) (hk : k < R.length) : MvR w B g n cap P (R.drop (k + 1)) R[k] k := by
  refine ⟨?_, ?_⟩
  · have := h.row
    rw [List.drop_eq_getElem_cons hk] at this
    rw [List.take_of_length_le (by rw [h.len]; exact Nat.le_refl _), List.drop_eq_nil_of_le (by rw [h.len]; exact Nat.le_refl _)]
    exact this
  · rw [List.drop_eq_nil_of_le (by rw [h.len]; exact Nat.le_refl _)]
    intro z hz
    cases hz
theorem MvR.step {w : World} {B g n cap j : Nat} {P Q : List Rm} {x y : Rm} (h : MvR w B g n cap P Q x (j + 1)) (hy : P[j]? = some y) (hlt : y.r.rank < x.r.rank) : MvR ((w.setCells g ((j + 1) * 10) y.cells).setCells g (j * 10) x.cells) B g n cap P Q x j := by
  obtain ⟨hjl, rfl⟩ := List.getElem?_eq_some_iff.1 hy
  have h1 := h.row
  rw [List.take_succ_eq_append_getElem hjl, List.append_assoc] at h1
  have h2 := RuRow.swap h1
  rw [List.length_take, Nat.min_eq_left (by omega)] at h2
  have e : P.drop j = P[j] :: P.drop (j + 1) := List.drop_eq_getElem_cons hjl
  refine ⟨?_, ?_⟩
  · rw [e]
    exact h2
  · rw [e]
    intro z hz
    rcases List.mem_cons.1 hz with rfl | hz
    · exact hlt
    · exact h.less z hz
theorem SrtR.next {w w' : World} {B g n cap k j : Nat} {R P : List Rm} (h : SrtR w B g n cap R P k) (hk : k < R.length) (hj : j ≤ k) (h0 : j = 0 ∨ ∃ y : Rm, P[j - 1]? = some y ∧ R[k].r.rank ≤ y.r.rank) (hm : MvR w' B g n cap P (R.drop (k + 1)) R[k] j) :
    SrtR w' B g n cap R (P.take j ++ R[k] :: P.drop j) (k + 1) := by
  refine ⟨?_, ?_, ?_, ?_⟩
  · have := hm.row
    simpa using this
  · have := h.len
    simp
    omega
  · rw [List.take_succ_eq_append_getElem hk]
    refine List.Perm.trans ?_ (List.Perm.append_right [R[k]] h.perm)
    refine List.Perm.trans List.perm_middle ?_
    rw [List.take_append_drop]
    exact (List.perm_append_singleton _ _).symm
  · rw [Ct.ins_stop (by rw [h.len]; exact hj) (by rw [h.ord]; exact Ct.order_falls _) h0 hm.less, h.ord, List.map_take, List.map_take, Ct.order_take (by rw [List.length_map]; exact hk)]
    simp
theorem SrtR.keep {w w' : World} {B g n cap k : Nat} {R P : List Rm} (h : SrtR w B g n cap R P k) (hb : Below w.heap.size w w') : SrtR w' B g n cap R P k := ⟨own_kept h.row hb, h.len, h.perm, h.ord⟩
set_option maxHeartbeats 4000000 in
set_option maxRecDepth 100000 in
theorem insRule_any (R : List Rm) (B g n cap : Nat) (w : World) (hR : RuRow w B g n cap R) (hn : R.length = n) (h20 : n ≤ 1000) :
    Calls Tryz.prog 204 #[.slice (some ⟨g, 0, none⟩) n cap, .int .i64 0, .int .i64 (n : Int), .func (.func 144) #[] #[]] w fun e w' => e = .returned (.tuple #[]) ∧ ∃ L, RuRow w' B g n cap L ∧ L.Perm R ∧ L.map Rm.r = Ct.order (R.map Rm.r) ∧ Only g w w' := by
  have HNL := Stow.mk hn
  by_cases h0 : n = 0
  · subst h0
    obtain rfl := List.eq_nil_of_length_eq_zero hn
    have HR := Stow.mk hR
    clear hR hn
    go_enter Tryz.func204, Tryz.ntmps204
    go_wp2_with fail
    go_loopw [8, 9] (fun u v wr => u = .int .i64 1 ∧ wr = w) (fun _ _ _ => 0)
    case atStart => exact ⟨rfl, rfl⟩
    case round =>
      obtain ⟨rfl, rfl⟩ := hrel
      go_wp2_with fail
      first | go_end0 | refine bodyPost_ret (results_none rfl _ _ _) rfl ?_
      exact ⟨rfl, [], HR.out, List.Perm.refl _, rfl, Only.refl _ _⟩
  have HST : Stow (SrtR w B g n cap R (R.take 1) 1) := ⟨⟨by
    rw [List.take_append_drop]; exact hR, by rw [List.length_take]; omega, List.Perm.refl _, by
    rcases R with _ | ⟨x, t⟩
    · simp at hn; omega
    · rfl⟩⟩
  clear hR hn
  go_enter Tryz.func204, Tryz.ntmps204
  go_wp2_with fail
  go_loopw [8] (fun v wr => ∃ k : Nat, v = .int .i64 (k : Int) ∧ 1 ≤ k ∧ k ≤ n ∧ Stow (∃ P, SrtR wr B g n cap R P k) ∧ Stow (Only g w wr)) (fun v _ => n - (intOf v).toNat)
  case atStart => exact ⟨1, rfl, by omega, by omega, ⟨_, HST.out⟩, ⟨Only.refl _ _⟩⟩
  case round =>
    obtain ⟨k, rfl, hk1, hk, HP, HO⟩ := hrel
    by_cases hkn : k < n
    · obtain ⟨P, hP⟩ := HP.out
      have hkR : k < R.length := by rw [HNL.out]; exact hkn
      have HPS := Stow.mk hP
      have HM0 := Stow.mk (MvR.start hP hkR)
      obtain ⟨x, hx⟩ : ∃ x, R[k] = x := ⟨_, rfl⟩
      rw [hx] at HM0
      have HX := Stow.mk hx
      have HPL := Stow.mk hP.len
      have hki : (k : Int) < n := by omega
      clear hP HP hx
      go_wp2_with fail
      go_loopw [9] (fun v wi => ∃ j : Nat, v = .int .i64 (j : Int) ∧ j ≤ k ∧ Stow (MvR wi B g n cap P (R.drop (k + 1)) x j) ∧ Stow (Only g wr wi)) (fun v _ => (intOf v).toNat)
      case atStart => exact ⟨k, rfl, by omega, HM0, ⟨Only.refl _ _⟩⟩
      case round =>
        obtain ⟨j, rfl, hjk, HM, HOI⟩ := hrel
        rcases j with _ | j
        · go_upto_region 4 with fail
          go_quiet (fail)
          have HNX : Stow (SrtR wr B g n cap R (P.take 0 ++ R[k] :: P.drop 0) (k + 1)) := ⟨HPS.out.next hkR (by omega) (.inl rfl) (by rw [HX.out]; exact HM.out)⟩
          have HON := Stow.mk (HO.out.trans HOI.out)
          go_wp2_with fail
          exact ⟨⟨k + 1, by simp, by omega, by omega, ⟨_, HNX.out.keep (Below.drewN' (Below.self _) _)⟩, ⟨HON.out.trans (Only.drewN g _ _)⟩⟩, by simp [intOf]; omega⟩
        · have hjP : j < P.length := by rw [HPL.out]; omega
          obtain ⟨y, hy⟩ : ∃ y, P[j] = y := ⟨_, rfl⟩
          have HY : Stow (P[j]? = some y) := ⟨by rw [List.getElem?_eq_getElem hjP, hy]⟩
          have hlen : (P.take (j + 1) ++ x :: (P.drop (j + 1) ++ R.drop (k + 1))).length = n := by
            have := HPL.out
            have := HNL.out
            simp
            omega
          have hy1 : (P.take (j + 1) ++ x :: (P.drop (j + 1) ++ R.drop (k + 1)))[j]'(by omega) = y := by
            rw [List.getElem_append_left (by simp; omega), List.getElem_take, hy]
          have hx1 : (P.take (j + 1) ++ x :: (P.drop (j + 1) ++ R.drop (k + 1)))[j + 1]'(by have := HPL.out; omega) = x := by
            have e : (P.take (j + 1)).length = j + 1 := by simp; omega
            rw [List.getElem_append_right (by omega)]
            simp [e]
          obtain ⟨hgl, hray⟩ := HM.out.row.at_ hlen (j := j) (by omega)
          obtain ⟨_, hrax⟩ := HM.out.row.at_ hlen (j := j + 1) (by have := HPL.out; omega)
          rw [hy1] at hray
          rw [hx1] at hrax
          have HCMP : Stow (∀ z : Later wr.heap.size wr, Calls Tryz.prog 144 #[.agg x.cells.toArray, .agg y.cells.toArray] z.1 fun e w' => e = .returned (.int .i64 (Ct.cmp x.r.rank y.r.rank)) ∧ Below z.1.heap.size z.1 w') := ⟨fun z => ordFn_any x y z.1⟩
          clear hlen hy1 hx1 hy
          have HRX := Stow.mk hrax
          have HRY := Stow.mk hray
          obtain ⟨⟨rankx, psx, tgx, apx, stx, dpx, dtx, mpx, mix, smx⟩, Ax, cpx⟩ := x
          obtain ⟨⟨ranky, psy, tgy, apy, sty, dpy, dty, mpy, miy, smy⟩, Ay, cpy⟩ := y
          have hji : (0 : Int) < ((j + 1 : Nat) : Int) := by omega
          have hj1 : ((j + 1 : Nat) : Int) - 1 = (j : Int) := by omega
          have hj2 : ((j + 1 : Nat) : Int) < n := by omega
          have hj3 : (j : Int) < n := by omega
          unfold Rm.cells at HCMP
          simp only at HCMP
          by_cases hlt : ranky < rankx
          · have HE : Ct.cmp rankx ranky = -1 := by unfold Ct.cmp; rw [if_pos hlt]
            rw [HE] at HCMP
            have HLT := Stow.mk hlt
            clear HE hlt
            go_upto_region 4 with fail
            have c0x : ∀ z : Later wr.heap.size wr, z.1.cell? ⟨g, (j + 1) * 10, none⟩ = some (.int .i64 rankx) := fun z => z.cell (hrax 0 _ rfl) hgl
            have c1x : ∀ z : Later wr.heap.size wr, z.1.cell? ⟨g, (j + 1) * 10 + 1, none⟩ = some (.slice Ax psx.length cpx) := fun z => z.cell (hrax 1 _ rfl) hgl
            have c2x : ∀ z : Later wr.heap.size wr, z.1.cell? ⟨g, (j + 1) * 10 + 2, none⟩ = some (.string (bs tgx)) := fun z => z.cell (hrax 2 _ rfl) hgl
            have c3x : ∀ z : Later wr.heap.size wr, z.1.cell? ⟨g, (j + 1) * 10 + 3, none⟩ = some (.int .i64 apx) := fun z => z.cell (hrax 3 _ rfl) hgl
            have c4x : ∀ z : Later wr.heap.size wr, z.1.cell? ⟨g, (j + 1) * 10 + 4, none⟩ = some (.int .i64 stx) := fun z => z.cell (hrax 4 _ rfl) hgl
            have c5x : ∀ z : Later wr.heap.size wr, z.1.cell? ⟨g, (j + 1) * 10 + 5, none⟩ = some (.int .i64 dpx) := fun z => z.cell (hrax 5 _ rfl) hgl
            have c6x : ∀ z : Later wr.heap.size wr, z.1.cell? ⟨g, (j + 1) * 10 + 6, none⟩ = some (.int .i64 dtx) := fun z => z.cell (hrax 6 _ rfl) hgl
            have c7x : ∀ z : Later wr.heap.size wr, z.1.cell? ⟨g, (j + 1) * 10 + 7, none⟩ = some (.int .i64 mpx) := fun z => z.cell (hrax 7 _ rfl) hgl
            have c8x : ∀ z : Later wr.heap.size wr, z.1.cell? ⟨g, (j + 1) * 10 + 8, none⟩ = some (.string (bs mix)) := fun z => z.cell (hrax 8 _ rfl) hgl
            have c9x : ∀ z : Later wr.heap.size wr, z.1.cell? ⟨g, (j + 1) * 10 + 9, none⟩ = some (.int .i64 smx) := fun z => z.cell (hrax 9 _ rfl) hgl
            have c0y : ∀ z : Later wr.heap.size wr, z.1.cell? ⟨g, j * 10, none⟩ = some (.int .i64 ranky) := fun z => z.cell (hray 0 _ rfl) hgl
            have c1y : ∀ z : Later wr.heap.size wr, z.1.cell? ⟨g, j * 10 + 1, none⟩ = some (.slice Ay psy.length cpy) := fun z => z.cell (hray 1 _ rfl) hgl
            have c2y : ∀ z : Later wr.heap.size wr, z.1.cell? ⟨g, j * 10 + 2, none⟩ = some (.string (bs tgy)) := fun z => z.cell (hray 2 _ rfl) hgl
            have c3y : ∀ z : Later wr.heap.size wr, z.1.cell? ⟨g, j * 10 + 3, none⟩ = some (.int .i64 apy) := fun z => z.cell (hray 3 _ rfl) hgl
            have c4y : ∀ z : Later wr.heap.size wr, z.1.cell? ⟨g, j * 10 + 4, none⟩ = some (.int .i64 sty) := fun z => z.cell (hray 4 _ rfl) hgl
            have c5y : ∀ z : Later wr.heap.size wr, z.1.cell? ⟨g, j * 10 + 5, none⟩ = some (.int .i64 dpy) := fun z => z.cell (hray 5 _ rfl) hgl
            have c6y : ∀ z : Later wr.heap.size wr, z.1.cell? ⟨g, j * 10 + 6, none⟩ = some (.int .i64 dty) := fun z => z.cell (hray 6 _ rfl) hgl
            have c7y : ∀ z : Later wr.heap.size wr, z.1.cell? ⟨g, j * 10 + 7, none⟩ = some (.int .i64 mpy) := fun z => z.cell (hray 7 _ rfl) hgl
            have c8y : ∀ z : Later wr.heap.size wr, z.1.cell? ⟨g, j * 10 + 8, none⟩ = some (.string (bs miy)) := fun z => z.cell (hray 8 _ rfl) hgl
            have c9y : ∀ z : Later wr.heap.size wr, z.1.cell? ⟨g, j * 10 + 9, none⟩ = some (.int .i64 smy) := fun z => z.cell (hray 9 _ rfl) hgl
            clear hrax hray
            refine wp_region_later wr.heap.size (by kernel_rfl) (by kernel_rfl) ?_
            repeat (go_big_quiet_step ((go_at_call 144; exact Calls.later (Nat.le_refl _) (HCMP.out _))))
            refine wpQuiet_nil ?_
            rintro ⟨wx, hbx⟩
            have HM := Stow.mk (HM.out.keep hbx)
            have HOI := Stow.mk (HOI.out.trans (Only.of_below (g := g) hbx))
            have hrax : wx.rangeAt g ((j + 1) * 10) _ := fun i v hi => (hbx.cell hgl).trans (HRX.out i v hi)
            have hray : wx.rangeAt g (j * 10) _ := fun i v hi => (hbx.cell hgl).trans (HRY.out i v hi)
            clear c0x c1x c2x c3x c4x c5x c6x c7x c8x c9x c0y c1y c2y c3y c4y c5y c6y c7y c8y c9y
            go_upto_region 6 with fail
            have HFR := Stow.mk (fun o => World.ownsRow.frozenAt HM.out.row o)
            have hfr : ∀ o, wx.frozen? ⟨g, o, none⟩ = false := fun o => HFR.out o
            have a0x : wx.cell? ⟨g, (j + 1) * 10, none⟩ = some (.int .i64 rankx) := hrax 0 _ rfl
            have a1x : wx.cell? ⟨g, (j + 1) * 10 + 1, none⟩ = some (.slice Ax psx.length cpx) := hrax 1 _ rfl
            have a2x : wx.cell? ⟨g, (j + 1) * 10 + 2, none⟩ = some (.string (bs tgx)) := hrax 2 _ rfl
            have a3x : wx.cell? ⟨g, (j + 1) * 10 + 3, none⟩ = some (.int .i64 apx) := hrax 3 _ rfl
            have a4x : wx.cell? ⟨g, (j + 1) * 10 + 4, none⟩ = some (.int .i64 stx) := hrax 4 _ rfl
            have a5x : wx.cell? ⟨g, (j + 1) * 10 + 5, none⟩ = some (.int .i64 dpx) := hrax 5 _ rfl
            have a6x : wx.cell? ⟨g, (j + 1) * 10 + 6, none⟩ = some (.int .i64 dtx) := hrax 6 _ rfl
            have a7x : wx.cell? ⟨g, (j + 1) * 10 + 7, none⟩ = some (.int .i64 mpx) := hrax 7 _ rfl
            have a8x : wx.cell? ⟨g, (j + 1) * 10 + 8, none⟩ = some (.string (bs mix)) := hrax 8 _ rfl
            have a9x : wx.cell? ⟨g, (j + 1) * 10 + 9, none⟩ = some (.int .i64 smx) := hrax 9 _ rfl
            have a0y : wx.cell? ⟨g, j * 10, none⟩ = some (.int .i64 ranky) := hray 0 _ rfl
            have a1y : wx.cell? ⟨g, j * 10 + 1, none⟩ = some (.slice Ay psy.length cpy) := hray 1 _ rfl
            have a2y : wx.cell? ⟨g, j * 10 + 2, none⟩ = some (.string (bs tgy)) := hray 2 _ rfl
            have a3y : wx.cell? ⟨g, j * 10 + 3, none⟩ = some (.int .i64 apy) := hray 3 _ rfl
            have a4y : wx.cell? ⟨g, j * 10 + 4, none⟩ = some (.int .i64 sty) := hray 4 _ rfl
            have a5y : wx.cell? ⟨g, j * 10 + 5, none⟩ = some (.int .i64 dpy) := hray 5 _ rfl
            have a6y : wx.cell? ⟨g, j * 10 + 6, none⟩ = some (.int .i64 dty) := hray 6 _ rfl
            have a7y : wx.cell? ⟨g, j * 10 + 7, none⟩ = some (.int .i64 mpy) := hray 7 _ rfl
            have a8y : wx.cell? ⟨g, j * 10 + 8, none⟩ = some (.string (bs miy)) := hray 8 _ rfl
            have a9y : wx.cell? ⟨g, j * 10 + 9, none⟩ = some (.int .i64 smy) := hray 9 _ rfl
            clear hrax hray
            have hmn := (HM.out.step HY.out HLT.out).drew
            have hon := Only.drew (HOI.out.trans ((only_all (g := g) (Rm.cells ⟨⟨ranky, psy, tgy, apy, sty, dpy, dty, mpy, miy, smy⟩, Ay, cpy⟩) wx ((j + 1) * 10)).trans (only_all (g := g) (Rm.cells ⟨⟨rankx, psx, tgx, apx, stx, dpx, dtx, mpx, mix, smx⟩, Ax, cpx⟩) _ (j * 10))))
            unfold Rm.cells at hmn hon
            simp only at hmn hon
            rw [setCells10, setCells10] at hmn hon
            have HMN := Stow.mk hmn
            have HON := Stow.mk hon
            clear hmn hon
            go_region
            clear a0x a1x a2x a3x a4x a5x a6x a7x a8x a9x a0y a1y a2y a3y a4y a5y a6y a7y a8y a9y hfr
            go_wp2_with fail
            exact ⟨⟨j, rfl, by omega, HMN, HON⟩, by simp [intOf]⟩
          · obtain ⟨c, hc⟩ : ∃ c, Ct.cmp rankx ranky = c := ⟨_, rfl⟩
            rw [hc] at HCMP
            have hc0 : decide (c < 0) = false := by
              rw [← hc]; unfold Ct.cmp; rw [if_neg hlt]; split <;> simp
            have HLE : Stow (rankx ≤ ranky) := ⟨by omega⟩
            clear hc hlt
            go_upto_region 4 with fail
            have c0x : ∀ z : Later wr.heap.size wr, z.1.cell? ⟨g, (j + 1) * 10, none⟩ = some (.int .i64 rankx) := fun z => z.cell (hrax 0 _ rfl) hgl
            have c1x : ∀ z : Later wr.heap.size wr, z.1.cell? ⟨g, (j + 1) * 10 + 1, none⟩ = some (.slice Ax psx.length cpx) := fun z => z.cell (hrax 1 _ rfl) hgl
            have c2x : ∀ z : Later wr.heap.size wr, z.1.cell? ⟨g, (j + 1) * 10 + 2, none⟩ = some (.string (bs tgx)) := fun z => z.cell (hrax 2 _ rfl) hgl
            have c3x : ∀ z : Later wr.heap.size wr, z.1.cell? ⟨g, (j + 1) * 10 + 3, none⟩ = some (.int .i64 apx) := fun z => z.cell (hrax 3 _ rfl) hgl
            have c4x : ∀ z : Later wr.heap.size wr, z.1.cell? ⟨g, (j + 1) * 10 + 4, none⟩ = some (.int .i64 stx) := fun z => z.cell (hrax 4 _ rfl) hgl
            have c5x : ∀ z : Later wr.heap.size wr, z.1.cell? ⟨g, (j + 1) * 10 + 5, none⟩ = some (.int .i64 dpx) := fun z => z.cell (hrax 5 _ rfl) hgl
            have c6x : ∀ z : Later wr.heap.size wr, z.1.cell? ⟨g, (j + 1) * 10 + 6, none⟩ = some (.int .i64 dtx) := fun z => z.cell (hrax 6 _ rfl) hgl
            have c7x : ∀ z : Later wr.heap.size wr, z.1.cell? ⟨g, (j + 1) * 10 + 7, none⟩ = some (.int .i64 mpx) := fun z => z.cell (hrax 7 _ rfl) hgl
            have c8x : ∀ z : Later wr.heap.size wr, z.1.cell? ⟨g, (j + 1) * 10 + 8, none⟩ = some (.string (bs mix)) := fun z => z.cell (hrax 8 _ rfl) hgl
            have c9x : ∀ z : Later wr.heap.size wr, z.1.cell? ⟨g, (j + 1) * 10 + 9, none⟩ = some (.int .i64 smx) := fun z => z.cell (hrax 9 _ rfl) hgl
            have c0y : ∀ z : Later wr.heap.size wr, z.1.cell? ⟨g, j * 10, none⟩ = some (.int .i64 ranky) := fun z => z.cell (hray 0 _ rfl) hgl
            have c1y : ∀ z : Later wr.heap.size wr, z.1.cell? ⟨g, j * 10 + 1, none⟩ = some (.slice Ay psy.length cpy) := fun z => z.cell (hray 1 _ rfl) hgl
            have c2y : ∀ z : Later wr.heap.size wr, z.1.cell? ⟨g, j * 10 + 2, none⟩ = some (.string (bs tgy)) := fun z => z.cell (hray 2 _ rfl) hgl
            have c3y : ∀ z : Later wr.heap.size wr, z.1.cell? ⟨g, j * 10 + 3, none⟩ = some (.int .i64 apy) := fun z => z.cell (hray 3 _ rfl) hgl
            have c4y : ∀ z : Later wr.heap.size wr, z.1.cell? ⟨g, j * 10 + 4, none⟩ = some (.int .i64 sty) := fun z => z.cell (hray 4 _ rfl) hgl
            have c5y : ∀ z : Later wr.heap.size wr, z.1.cell? ⟨g, j * 10 + 5, none⟩ = some (.int .i64 dpy) := fun z => z.cell (hray 5 _ rfl) hgl
            have c6y : ∀ z : Later wr.heap.size wr, z.1.cell? ⟨g, j * 10 + 6, none⟩ = some (.int .i64 dty) := fun z => z.cell (hray 6 _ rfl) hgl
            have c7y : ∀ z : Later wr.heap.size wr, z.1.cell? ⟨g, j * 10 + 7, none⟩ = some (.int .i64 mpy) := fun z => z.cell (hray 7 _ rfl) hgl
            have c8y : ∀ z : Later wr.heap.size wr, z.1.cell? ⟨g, j * 10 + 8, none⟩ = some (.string (bs miy)) := fun z => z.cell (hray 8 _ rfl) hgl
            have c9y : ∀ z : Later wr.heap.size wr, z.1.cell? ⟨g, j * 10 + 9, none⟩ = some (.int .i64 smy) := fun z => z.cell (hray 9 _ rfl) hgl
            clear hrax hray
            refine wp_region_later wr.heap.size (by kernel_rfl) (by kernel_rfl) ?_
            repeat (go_big_quiet_step ((go_at_call 144; exact Calls.later (Nat.le_refl _) (HCMP.out _))))
            refine wpQuiet_nil ?_
            rintro ⟨wx, hbx⟩
            have HM := Stow.mk (HM.out.keep hbx)
            have HOI := Stow.mk (HOI.out.trans (Only.of_below (g := g) hbx))
            have hrax : wx.rangeAt g ((j + 1) * 10) _ := fun i v hi => (hbx.cell hgl).trans (HRX.out i v hi)
            have hray : wx.rangeAt g (j * 10) _ := fun i v hi => (hbx.cell hgl).trans (HRY.out i v hi)
            clear c0x c1x c2x c3x c4x c5x c6x c7x c8x c9x c0y c1y c2y c3y c4y c5y c6y c7y c8y c9y
            clear hrax hray
            have HNX : Stow (SrtR wx B g n cap R (P.take (j + 1) ++ R[k] :: P.drop (j + 1)) (k + 1)) := ⟨HPS.out.next hkR hjk (.inr ⟨_, HY.out, by rw [HX.out]; exact HLE.out⟩) (by rw [HX.out]; exact HM.out)⟩
            have HON := Stow.mk (HO.out.trans HOI.out)
            go_wp2_with fail
            exact ⟨⟨k + 1, by simp, by omega, by omega, ⟨_, HNX.out⟩, HON⟩, by simp [intOf]; omega⟩
    · obtain rfl : k = n := by omega
      obtain ⟨P, hP⟩ := HP.out
      have HL : Stow (RuRow wr B g k cap P ∧ P.Perm R ∧ P.map Rm.r = Ct.order (R.map Rm.r)) := ⟨by
        have h1 := hP.row
        have h2 := hP.perm
        have h3 := hP.ord
        have e1 : R.drop k = [] := List.drop_eq_nil_of_le (by rw [HNL.out]; exact Nat.le_refl _)
        have e2 : R.take k = R := List.take_of_length_le (by rw [HNL.out]; exact Nat.le_refl _)
        rw [e1, List.append_nil] at h1
        rw [e2] at h2 h3
        exact ⟨h1, h2, h3⟩⟩
      have hki : ¬ (k : Int) < k := by omega
      clear hP HP
      go_wp2_with fail
      first | go_end0 | refine bodyPost_ret (results_none rfl _ _ _) rfl ?_
      exact ⟨rfl, P, HL.out.1, HL.out.2.1, HL.out.2.2, HO.out⟩
end Go.Proofs.YtfbhdkkmcfnghaaGreatDoor
end

section
namespace Go.Proofs.YtfbhdkkmcfnghaaGreatDoor
open Go.RowKit
set_option linter.unusedVariables false
set_option linter.unusedSimpArgs false

set_option maxHeartbeats 1000000 in
set_option maxRecDepth 100000 in
theorem sortR_nil (A : Option Addr) (cap : Nat) (w : World) : Calls Tryz.prog 143 #[.slice A 0 cap, .func (.func 144) #[] #[]] w fun e w' => e = .returned (.tuple #[]) ∧ w' = w := by
  have H1 : Stow (Calls Tryz.prog 204 #[.slice A 0 cap, .int .i64 0, .int .i64 0, .func (.func 144) #[] #[]] w fun e w' => e = .returned (.tuple #[]) ∧ w' = w) := ⟨by
    go_enter Tryz.func204, Tryz.ntmps204
    go_wp2_with fail
    go_loopw [8, 9] (fun u v wr => u = .int .i64 1 ∧ wr = w) (fun _ _ _ => 0)
    case atStart => exact ⟨rfl, rfl⟩
    case round =>
      obtain ⟨rfl, rfl⟩ := hrel
      go_wp2_with fail
      first | go_end0 | refine bodyPost_ret (results_none rfl _ _ _) rfl ?_
      exact ⟨rfl, rfl⟩⟩
  have H2 : Stow (Calls Tryz.prog 180 #[.slice A 0 cap, .int .i64 0, .func (.func 144) #[] #[]] w fun e w' => e = .returned (.tuple #[]) ∧ w' = w) := ⟨by
    go_enter Tryz.func180, Tryz.ntmps180
    go_wp2_with fail
    go_loopw [7, 8] (fun u v wr => u = .int .i64 0 ∧ v = .int .i64 20 ∧ wr = w) (fun _ _ _ => 0)
    case atStart => exact ⟨rfl, rfl, rfl⟩
    case round =>
      obtain ⟨rfl, rfl, rfl⟩ := hrel
      go_wp2_with fail
      refine H1.out.mono ?_
      rintro e w1 ⟨rfl, rfl⟩
      go_wp2_with fail
      go_loopw [6, 7, 8, 9] (fun u _ _ _ wr => u = .int .i64 20 ∧ wr = w1) (fun _ _ _ _ _ => 0)
      case atStart => exact ⟨rfl, rfl⟩
      case round =>
        obtain ⟨rfl, rfl⟩ := hrel
        go_wp2_with fail
        first | go_end0 | refine bodyPost_ret (results_none rfl _ _ _) rfl ?_
        exact ⟨rfl, rfl⟩⟩
  clear H1
  go_enter Tryz.func143, Tryz.ntmps143
  go_wp2_with fail
  refine H2.out.mono ?_
  rintro e w1 ⟨rfl, rfl⟩
  go_wp2_with fail
  first | go_end0 | refine bodyPost_ret (results_none rfl _ _ _) rfl ?_
  exact ⟨rfl, rfl⟩
set_option maxHeartbeats 1000000 in
set_option maxRecDepth 100000 in
theorem sortR_any (R : List Rm) (B g n cap : Nat) (w : World) (hR : RuRow w B g n cap R) (hn : R.length = n) (h20 : n < 20) :
    Calls Tryz.prog 143 #[.slice (some ⟨g, 0, none⟩) n cap, .func (.func 144) #[] #[]] w fun e w' => e = .returned (.tuple #[]) ∧ ∃ L, RuRow w' B g n cap L ∧ L.Perm R ∧ L.map Rm.r = Ct.order (R.map Rm.r) ∧ Only g w w' := by
  have H1 := Stow.mk (insRule_any R B g n cap w hR hn (by omega))
  have h20i : ¬ (20 : Int) ≤ n := by omega
  have h20j : ¬ (20 : Int) < n := by omega
  clear hR hn
  have H2 : Stow (Calls Tryz.prog 180 #[.slice (some ⟨g, 0, none⟩) n cap, .int .i64 (n : Int), .func (.func 144) #[] #[]] w fun e w' => e = .returned (.tuple #[]) ∧ ∃ L, RuRow w' B g n cap L ∧ L.Perm R ∧ L.map Rm.r = Ct.order (R.map Rm.r) ∧ Only g w w') := ⟨by
    go_enter Tryz.func180, Tryz.ntmps180
    go_wp2_with fail
    go_loopw [7, 8] (fun u v wr => u = .int .i64 0 ∧ v = .int .i64 20 ∧ wr = w) (fun _ _ _ => 0)
    case atStart => exact ⟨rfl, rfl, rfl⟩
    case round =>
      obtain ⟨rfl, rfl, rfl⟩ := hrel
      go_wp2_with fail
      refine H1.out.mono ?_
      rintro e w1 ⟨rfl, L, hL⟩
      have HL := Stow.mk hL
      clear hL
      go_wp2_with fail
      go_loopw [6, 7, 8, 9] (fun u _ _ _ wr => u = .int .i64 20 ∧ wr = w1) (fun _ _ _ _ _ => 0)
      case atStart => exact ⟨rfl, rfl⟩
      case round =>
        obtain ⟨rfl, rfl⟩ := hrel
        go_wp2_with fail
        first | go_end0 | refine bodyPost_ret (results_none rfl _ _ _) rfl ?_
        exact ⟨rfl, L, HL.out⟩⟩
  clear H1
  go_enter Tryz.func143, Tryz.ntmps143
  go_wp2_with fail
  refine H2.out.mono ?_
  rintro e w1 ⟨rfl, L, hL⟩
  have HL := Stow.mk hL
  clear hL
  go_wp2_with fail
  first | go_end0 | refine bodyPost_ret (results_none rfl _ _ _) rfl ?_
  exact ⟨rfl, L, HL.out⟩
set_option maxHeartbeats 1000000 in
set_option maxRecDepth 100000 in
theorem ruleOrder_any (A : Option Addr) (cap : Nat) (R : List Rm) (w : World) (h : RsR w A cap R) (hn : R.length < 20) (hp : ∀ m ∈ R, m.r.ps.length ≤ 1000) :
    Calls Tryz.prog 103 #[.slice A R.length cap] w fun e w' => ∃ A' cap' R', e = .returned (.slice A' R.length cap') ∧ R'.map Rm.r = Ct.order (R.map Rm.r) ∧ RsO w' w.heap.size A' cap' R' ∧ Below w.heap.size w w' := by
  have HC := Stow.mk (ruleCopied_any A cap R w h (by omega) hp)
  obtain ⟨n, hnn⟩ : ∃ n, R.length = n := ⟨_, rfl⟩
  have HNL := Stow.mk hnn
  rw [hnn] at hn HC ⊢
  clear h hp hnn
  go_enter Tryz.func103, Tryz.ntmps103
  go_wp2_with fail
  refine HC.out.mono ?_
  rintro e w1 ⟨A1, c1, R1, rfl, he1, hO1, hb1⟩
  have HO1 := Stow.mk hO1
  have HE1 := Stow.mk he1
  have hl1 : R1.length = n := by have := congrArg List.length he1; simp at this; rw [this, HNL.out]
  have HL1 := Stow.mk hl1
  have HB := Stow.mk hb1
  clear hO1 he1 hb1 HC hl1
  by_cases h0 : n = 0
  · subst h0
    have HS := Stow.mk (sortR_nil A1 c1 w1)
    have HR : Stow (R1.map Rm.r = Ct.order (R.map Rm.r)) := ⟨by
      obtain rfl := List.eq_nil_of_length_eq_zero HL1.out
      obtain rfl := List.eq_nil_of_length_eq_zero HNL.out
      rfl⟩
    go_wp2_with fail
    refine HS.out.mono ?_
    rintro e w2 ⟨rfl, rfl⟩
    go_wp2_with fail
    go_ret
    exact ⟨_, _, R1, rfl, HR.out, HO1.out, HB.out⟩
  · have hrow := HO1.out.own
    obtain ⟨g, c1', hform, hge, hlt⟩ := World.ownsRow.form hrow (by rw [HL1.out]; omega)
    simp only [Value.slice.injEq] at hform
    obtain ⟨rfl, _, rfl⟩ := hform
    rw [HL1.out] at hrow
    have HS := Stow.mk (sortR_any R1 w.heap.size g n c1 w1 hrow HL1.out hn)
    clear hrow hlt
    go_wp2_with fail
    refine HS.out.mono ?_
    rintro e w2 ⟨rfl, L, hL1, hL2, hL3, hL4⟩
    have HR : Stow (L.map Rm.r = Ct.order (R.map Rm.r)) := ⟨by rw [hL3, HE1.out]⟩
    have hll : L.length = n := by rw [hL2.length_eq, HL1.out]
    have HN : Stow (RsO w2 w.heap.size (some ⟨g, 0, none⟩) c1 L) := ⟨⟨by rw [hll]; exact hL1, fun m hm => (HO1.out.each m (hL2.mem_iff.1 hm)).turn (F := (· = g)) (Turn.of_grown hL4 (.inl rfl)) (fun a e => (HO1.out.apart m (hL2.mem_iff.1 hm) a e).2 _ rfl), fun m hm => HO1.out.apart m (hL2.mem_iff.1 hm), fun m hm a e => Nat.lt_of_lt_of_le (HO1.out.lt m (hL2.mem_iff.1 hm) a e) hL4.size⟩⟩
    have HB2 : Stow (Below w.heap.size w w2) := ⟨HB.out.trans (hL4.below hge HB.out.size)⟩
    clear hL1 hL2 hL3 hL4 hll HS HO1 HB
    go_wp2_with fail
    go_ret
    exact ⟨_, _, L, rfl, HR.out, HN.out, HB2.out⟩
end Go.Proofs.YtfbhdkkmcfnghaaGreatDoor
end

section
namespace Go.Proofs.YtfbhdkkmcfnghaaGreatDoor
open Go.RowKit
set_option linter.unusedVariables false
set_option linter.unusedSimpArgs false

set_option maxHeartbeats 1000000 in
set_option maxRecDepth 100000 in
theorem tbVersion_yes (n : Int) (w : World) (h1 : 1 ≤ n) (h2 : n ≤ 1099511627776) : Calls Tryz.prog 102 #[.int .i64 n] w fun e w' => e = .returned (.bool true) ∧ w' = w := by
  have d1 : decide (1 ≤ n) = true := by simpa using h1
  have d2 : decide (n ≤ 1099511627776) = true := by simpa using h2
  clear h1 h2
  go_enter Tryz.func102, Tryz.ntmps102
  go_wp2_with fail
  go_ret
  exact ⟨rfl, rfl⟩
theorem tb_results (W : World) (g : Nat) (a b c d : Value) (tmps : Array Value) (hH : Held W g [a, b, c]) (h2 : tmps[6]?.getD undef = .pointer (some ⟨g, 0, none⟩)) (h3 : tmps[7]?.getD undef = d) :
    (results Tryz.f51 tmps).run Tryz.prog W = .ok (.tuple #[.agg #[a, b, c], d]) W := by
  have c0 := hH.cell (i := 0) rfl
  have c1 := hH.cell (i := 1) rfl
  have c2 := hH.cell (i := 2) rfl
  simp [results, Tryz.results51, go_sem, h2, h3, c0, c1, c2]
/-- A table in new memory. -/
structure TbN (w w' : World) (t : Tm) : Prop where
  own : RsO w' w.heap.size t.A t.cap t.R
  below : Below w.heap.size w w'
theorem Ct.check_small {N : List (List UInt8)} {c : Cf} (h : Ct.check N c = 0) : c.rs.length ≤ 16 ∧ (∀ r ∈ c.rs, r.ps.length ≤ 4) ∧ c.f.length ≤ 120 := by
  unfold Ct.check at h
  split at h
  · cases h
  rename_i h1
  split at h
  · cases h
  rename_i h2
  refine ⟨by omega, fun r hr => ?_, ?_⟩
  · have h3 := Cf.firstErr_zero h r hr
    unfold Ct.rcheck at h3
    split at h3
    · cases h3
    · split at h3
      · cases h3
      · omega
  · unfold Cf.fmtOk at h1
    simp at h1
    exact h1.2
set_option maxHeartbeats 4000000 in
set_option maxRecDepth 100000 in
theorem tbCompile_any (N : List (List UInt8)) (NA : Option Addr) (nc : Nat) (c : Cf) (A : Option Addr) (cap : Nat) (R : List Rm) (n : Nat) (w : World) (hN : SlR w 1 (.slice NA N.length nc) (strs N)) (h : RsR w A cap R) (hc : c.rs = R.map Rm.r) (hk : Ct.check N c = 0) (hn : 1 ≤ n ∧ n ≤ 1000) :
    Calls Tryz.prog 51 #[.agg #[.slice A R.length cap, .string (bs c.f)], .int .i64 (n : Int), .slice NA N.length nc] w fun e w' => ∃ t : Tm, e = .returned (.tuple #[.agg t.cells.toArray, .int .i64 0]) ∧ t.n = n ∧ t.c = ⟨Ct.order c.rs, c.f⟩ ∧ TbN w w' t := by
  obtain ⟨hs1, hs2, hs3⟩ := Ct.check_small hk
  have hRl : R.length ≤ 16 := by rw [hc, List.length_map] at hs1; exact hs1
  have hps : ∀ m ∈ R, m.r.ps.length ≤ 1000 := fun m hm => by have := hs2 m.r (by rw [hc]; exact List.mem_map_of_mem hm); omega
  have hba := Below.alloc' (Below.self w) (.cells #[.slice A R.length cap, .string (bs c.f)] 54)
  have hb := Below.call hba (Below.alloc' (Below.self (w.alloc (.cells #[.slice A R.length cap, .string (bs c.f)] 54))) (.cells #[.int .i64 0, .slice none 0 0, .string ⟨#[]⟩] 46))
  have hp := (Held.made w [.slice A R.length cap, .string (bs c.f)] 54).kept (Below.alloc' (Below.self (w.alloc (.cells #[.slice A R.length cap, .string (bs c.f)] 54))) (.cells #[.int .i64 0, .slice none 0 0, .string ⟨#[]⟩] 46))
  have hq := Held.made (w.alloc (.cells #[.slice A R.length cap, .string (bs c.f)] 54)) [.int .i64 0, .slice none 0 0, .string ⟨#[]⟩] 46
  obtain ⟨W, hW⟩ : ∃ W, (w.alloc (.cells #[.slice A R.length cap, .string (bs c.f)] 54)).alloc (.cells #[.int .i64 0, .slice none 0 0, .string ⟨#[]⟩] 46) = W := ⟨_, rfl⟩
  rw [show (w.alloc (.cells #[.slice A R.length cap, .string (bs c.f)] 54)).alloc (.cells [.int .i64 0, .slice none 0 0, .string ⟨#[]⟩].toArray 46) = W from hW] at hq
  rw [hW] at hp hb
  have hq : Held W (w.heap.size + 1) [.int .i64 0, .slice none 0 0, .string ⟨#[]⟩] := by simpa using hq
  have hsz : W.heap.size = w.heap.size + 1 + 1 := by rw [← hW]; simp
  have HP := Stow.mk hp
  have HQ := Stow.mk hq
  have HB := Stow.mk hb
  have HW := Stow.mk hW
  have HV := Stow.mk (tbVersion_yes (n : Int) W (by omega) (by omega))
  have HCK := Stow.mk (tbCheck_any N NA nc c A cap R W (hN.keep hb) (h.keep hb) hc (by omega))
  rw [hk] at HCK
  have HR := Stow.mk h
  have HSZ := Stow.mk hsz
  have HO := Stow.mk (fun V hv => ruleOrder_any A cap R V hv (by omega) hps)
  have HC := Stow.mk hc
  have p0 := HP.out.cell (i := 0) rfl
  have p1 := HP.out.cell (i := 1) rfl
  clear hba hb hp hq hsz hW hN h hc hk hs1 hs2 hs3 hRl hps
  go_enter Tryz.func51, Tryz.ntmps51
  go_upto_region 1 with fail
  rw [HW.out]
  go_wp2_with fail
  refine HV.out.mono ?_
  rintro e w1 ⟨rfl, rfl⟩
  go_wp2_with fail
  refine HCK.out.mono ?_
  rintro e w1 ⟨rfl, hb1⟩
  have HP := Stow.mk (HP.out.kept hb1)
  have HQ := Stow.mk (HQ.out.kept hb1)
  have HSZ1 : Stow (w.heap.size + 1 + 1 ≤ w1.heap.size) := ⟨by rw [← HSZ.out]; exact hb1.size⟩
  have HB := Stow.mk (HB.out.trans (hb1.mono HB.out.size))
  have HR := Stow.mk (HR.out.keep HB.out)
  clear p0 p1 hb1 HCK HV HW HSZ
  have p0 := HP.out.cell (i := 0) rfl
  have p1 := HP.out.cell (i := 1) rfl
  go_upto_region 6 with fail
  have hk1 := p0
  have hk2 := p1
  go_region_held3 (fun w' => w'.cell? ⟨w.heap.size, 0, none⟩ = some (.slice A R.length cap) ∧ w'.cell? ⟨w.heap.size, 1, none⟩ = some (.string (bs c.f))) (first | go_keep | exact ⟨hk1, hk2⟩)
    (first | (go_at_call 103; refine (HO.out _ (HR.out.keep (Below.drew (Below.self w1)))).mono ?_; rintro e w2 ⟨A2, c2, R2, rfl, he2, hO2, hb2⟩; have hB2 : Below w1.heap.size w1 w2 := Below.call (Below.drew (Below.self w1)) hb2; have hH2 := HP.out.kept hB2; have hk1 := hH2.cell (i := 0) rfl; have hk2 := hH2.cell (i := 1) rfl; have hQ2 := HQ.out.kept hB2; have r0 := hQ2.cell (i := 0) rfl; have r1 := hQ2.cell (i := 1) rfl; have r2 := hQ2.cell (i := 2) rfl; have s0 := hQ2.free 0; have s1 := hQ2.free 1; have s2 := hQ2.free 2))
  have HN := Stow.mk (((hQ2.set 0 (.int .i64 (n : Int))).set 1 (.slice A2 R.length c2)).set 2 (.string (bs c.f)))
  have hl2 : R2.length = R.length := by have := congrArg List.length he2; simpa [Ct.order_len] using this
  have ho : Only (w.heap.size + 1) w2 (((w2.setCell ⟨w.heap.size + 1, 0, none⟩ (.int .i64 (n : Int))).setCell ⟨w.heap.size + 1, 1, none⟩ (.slice A2 R.length c2)).setCell ⟨w.heap.size + 1, 2, none⟩ (.string (bs c.f))) := ((Only.set _ _ 0 _).trans (Only.set _ _ 1 _)).trans (Only.set _ _ 2 _)
  have HO3 : Stow (RsO (((w2.setCell ⟨w.heap.size + 1, 0, none⟩ (.int .i64 (n : Int))).setCell ⟨w.heap.size + 1, 1, none⟩ (.slice A2 R.length c2)).setCell ⟨w.heap.size + 1, 2, none⟩ (.string (bs c.f))) w.heap.size A2 c2 R2) := ⟨by
    have hge : w.heap.size + 1 < w1.heap.size := by have := HSZ1.out; omega
    have h0 : RsO w2 w1.heap.size A2 c2 R2 := hO2
    refine ⟨World.ownsRow.mono (own_undr h0.own ho hge) (by omega), fun m hm => (h0.each m hm).turn (F := (· = w.heap.size + 1)) (Turn.of_grown ho (.inl rfl)) (fun a e => by have := (h0.apart m hm a e).1; omega), fun m hm a e => ⟨by have := (h0.apart m hm a e).1; omega, (h0.apart m hm a e).2⟩, fun m hm a e => Nat.lt_of_lt_of_le (h0.lt m hm a e) ho.size⟩⟩
  have HB3 := Stow.mk ((HB.out.trans (hB2.mono HB.out.size)).trans (ho.below (Nat.le_succ _) (HB.out.trans (hB2.mono HB.out.size)).size))
  have HE2 := Stow.mk he2
  have HL2 := Stow.mk hl2
  clear hk1 hk2 hH2 hQ2 r0 r1 r2 s0 s1 s2 ho hO2 hb2 he2 hl2 p0 p1
  go_wp2_with fail
  refine bodyPost_ret (tb_results _ (w.heap.size + 1) (.int .i64 (n : Int)) (.slice A2 R.length c2) (.string (bs c.f)) (.int .i64 0) _ HN.out rfl rfl) rfl ?_
  refine ⟨⟨n, A2, c2, R2, c.f⟩, ?_, rfl, ?_, HO3.out, HB3.out⟩
  · unfold Tm.cells
    simp only [HL2.out]
  · unfold Tm.c
    simp only [HE2.out, HC.out]
end Go.Proofs.YtfbhdkkmcfnghaaGreatDoor
end
