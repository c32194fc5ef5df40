/- Walks of flow's takes and of the reference's Takes; the frame at work in its row. Conditions: the row is the call's own; texts no longer than a length may be. -/
import Derived.Test.YthbpcdoddcacdaaFlCopy
namespace Go.Proofs.Ythbpcdoddcacdaa
open Go.RowKit
set_option linter.unusedVariables false

/-- The frame at work: the last one of a row. -/
def FT (w : World) (B g cap : Nat) (Q : List Fm) (x : Fm) : Prop := w.ownsRow B 30 13 (.slice (some ⟨g, 0, none⟩) (Q.length + 1) cap) (Q.length + 1) (Q.flatMap Fm.cells ++ x.cells)
section
variable {w w' : World} {B g cap : Nat} {Q : List Fm} {x y : Fm}
theorem FT.keep (h : FT w B g cap Q x) (hb : Below w.heap.size w w') : FT w' B g cap Q x := own_kept h hb
theorem FT.drew (h : FT w B g cap Q x) : FT w.drew B g cap Q x := h
theorem FT.lt (h : FT w B g cap Q x) : B ≤ g ∧ g < w.heap.size := World.ownsRow.lt h g rfl
theorem FT.cell (h : FT w B g cap Q x) {j : Nat} {v : Value} (hv : x.cells[j]? = some v) : w.cell? ⟨g, Q.length * 13 + j, none⟩ = some v := by
  have hj : j < 13 := by
    rcases Nat.lt_or_ge j x.cells.length with h1 | h1
    · exact h1
    · rw [List.getElem?_eq_none h1] at hv; cases hv
  rw [World.ownsRow.cellAt h _ (by rw [Nat.succ_mul]; omega), List.getElem?_append_right (by rw [fm_flat_len]; omega), fm_flat_len, Nat.add_sub_cancel_left]
  exact hv
theorem FT.free (h : FT w B g cap Q x) (j : Nat) : w.frozen? ⟨g, j, none⟩ = false := World.ownsRow.frozenAt h j
theorem FT.range (h : FT w B g cap Q x) : w.rangeAt g (Q.length * 13) x.cells := fun j v hv => h.cell hv
theorem FT.set (h : FT w B g cap Q x) (j : Nat) (u : Value) (hy : x.cells.set j u = y.cells) : FT (w.setCell ⟨g, Q.length * 13 + j, none⟩ u) B g cap Q y := by
  have h1 := (World.ownsRow.stored h (Q.length * 13 + j) u).1
  rw [List.set_append_right _ _ (by rw [fm_flat_len]; omega), fm_flat_len, Nat.add_sub_cancel_left, hy] at h1
  exact h1
theorem FT.only {k : Nat} (h : FT w B g cap Q x) (ho : Only k w w') (hk : k ≠ g) : FT w' B g cap Q x := World.ownsRow.kept h ho (.inr (by simp [Value.ownBlock]; omega))
theorem FT.of (h : FlO w B (some ⟨g, 0, none⟩) cap (Q ++ [x])) : FT w B g cap Q x := by
  unfold FT
  unfold FlO at h
  rw [List.flatMap_append, List.length_append] at h
  simpa using h
theorem FT.flo (h : FT w B g cap Q x) : FlO w B (some ⟨g, 0, none⟩) cap (Q ++ [x]) := by
  unfold FlO
  unfold FT at h
  rw [List.flatMap_append, List.length_append]
  simpa using h
end
/-- A body takes a text. -/
def tk (b s : Txt) : Txt := (b ++ s).take 200
def Fm.takes (x : Fm) (s : Txt) : Fm := { x with c := { x.c with body := tk x.c.body s } }
set_option maxHeartbeats 1000000 in
set_option maxRecDepth 100000 in
theorem takes_any (w : World) (B g cap : Nat) (Q : List Fm) (x : Fm) (s : Txt) (h : FT w B g cap Q x) (hl : x.c.body.length + s.length ≤ 9223372036854775807) :
    Calls Try.prog 65 #[.pointer (some ⟨g, Q.length * 13, none⟩), .string (bs s)] w fun e w' => e = .returned (.tuple #[]) ∧ FT w' B g cap Q (x.takes s) ∧ Only g w w' := by
  obtain ⟨all, hall⟩ : ∃ a, x.c.body ++ s = a := ⟨_, rfl⟩
  have hal : all.length = x.c.body.length + s.length := by rw [← hall]; simp
  obtain ⟨o, ho⟩ : ∃ o, Q.length * 13 = o := ⟨_, rfl⟩
  have c4 := h.cell (j := 4) rfl
  have f4 := h.free (Q.length * 13 + 4)
  have h1 := h.set (y := { x with c := { x.c with body := all } }) 4 (.string (bs all)) rfl
  have d4 := h1.cell (j := 4) rfl
  have e4 := h1.free (Q.length * 13 + 4)
  have hO1 : Only g w (w.setCell ⟨g, Q.length * 13 + 4, none⟩ (.string (bs all))) := Only.set _ _ _ _
  have h2 := (h1.drew).set (y := x.takes s) 4 (.string (bs (all.take 200))) (by unfold Fm.takes tk; rw [hall]; rfl)
  rw [ho] at c4 f4 h1 d4 e4 h2 hO1
  have H2 := Stow.mk h2
  have HO1 := Stow.mk hO1
  have HA := Stow.mk hall
  simp only at d4
  obtain ⟨body, hbody⟩ : ∃ b, x.c.body = b := ⟨_, rfl⟩
  rw [hbody] at c4 hal HA hl
  have hcat : bs body ++ bs s = bs all := by rw [← HA.out]; simp
  clear h h1 h2 hO1 hall hbody
  rw [ho]
  clear ho
  go_enter Try.func65, Try.ntmps65
  go_upto_region 1 with fail
  obtain ⟨W1, hW1⟩ : ∃ W, w.setCell ⟨g, o + 4, none⟩ (.string (bs all)) = W := ⟨_, rfl⟩
  rw [hW1] at d4 e4 H2 HO1
  rw [hW1]
  clear hW1 c4 f4
  have hal2 : all.length ≤ 9223372036854775807 := by omega
  have H3 := Stow.mk (show FT (W1.setCell ⟨g, o + 4, none⟩ (.string (bs (all.take 200)))) B g cap Q (x.takes s) from H2.out)
  clear H2 hal HA hcat
  go_region
  all_goals
    try go_wp2_with fail
  all_goals
    first | go_end0 | (simp only [Exit.inBlock, Exit.then]; refine bodyPost_ret (results_none rfl _ _ _) rfl ?_) | refine bodyPost_ret (results_none rfl _ _ _) rfl ?_
    first
      | exact ⟨rfl, H3.out, (HO1.out.trans (Only.set g W1 _ _)).trans (Only.drewN g _ 1)⟩
      | (rw [List.take_of_length_le (show all.length ≤ 200 by omega)] at H3
         exact ⟨rfl, H3.out, (HO1.out.trans (Only.set g W1 _ _)).trans (Only.drewN g _ 1)⟩)
set_option maxHeartbeats 1000000 in
set_option maxRecDepth 100000 in
theorem refTakes_any (b s : Txt) (w : World) (hl : b.length + s.length ≤ 9223372036854775807) :
    Calls Try.prog 66 #[.string (bs b), .string (bs s)] w fun e w' => e = .returned (.string (bs (tk b s))) ∧ Below w.heap.size w w' := by
  obtain ⟨all, hall⟩ : ∃ a, b ++ s = a := ⟨_, rfl⟩
  have hal : all.length = b.length + s.length := by rw [← hall]; simp
  have hcat : bs b ++ bs s = bs all := by rw [← hall]; simp
  have HT := Stow.mk (show tk b s = all.take 200 by unfold tk; rw [hall])
  by_cases h2 : 200 < all.length
  · have d1 : (200 : Int) < all.length := by omega
    have hk2 : 200 ≤ all.length := by omega
    clear hall
    go_enter Try.func66, Try.ntmps66
    go_wp2_with fail
    go_ret
    exact ⟨by rw [HT.out]; first | rfl | simp, Below.self _⟩
  · have d1 : ¬ (200 : Int) < all.length := by omega
    have HT2 := Stow.mk (show tk b s = all by rw [HT.out, List.take_of_length_le (by omega)])
    clear hall
    go_enter Try.func66, Try.ntmps66
    go_wp2_with fail
    go_ret
    exact ⟨by rw [HT2.out]; rfl, Below.self _⟩
end Go.Proofs.Ythbpcdoddcacdaa
