/- Walks of the reference's Same and Fresh. Condition: windows as they come of numbers. -/
import Derived.Test.YtbcokngjcgldpaaDdRef
import Derived.Laws.AppendOwnNone
namespace Go.Proofs.Ytbcokngjcgldpaa
open Go.RowKit Go.Lib Go.Sort
set_option linter.unusedVariables false

theorem wis_at {R R' : List Wm} (h : wis R = wis R') {j : Nat} (hj : j < R.length) (hj' : j < R'.length) : R'[j].w = R[j].w := by
  have h1 : (wis R)[j]? = (wis R')[j]? := by rw [h]
  simpa [List.getElem?_map, hj, hj'] using h1.symm
theorem wis_len {R R' : List Wm} (h : wis R = wis R') : R.length = R'.length := by simpa using congrArg List.length h

set_option maxHeartbeats 1000000 in
set_option maxRecDepth 100000 in
theorem refSame_any (v v' : Value) (R R' : List Wm) (w : World) (hW : WinR w v R) (hW' : WinR w v' R') (he : wis R = wis R') :
    Calls Try.prog 24 #[v, v'] w fun e w' => e = .returned (.bool true) ∧ Below w.heap.size w w' := by
  obtain ⟨A, cap, hv, _⟩ := hW.row.form
  obtain ⟨A', cap', hv', _⟩ := hW'.row.form
  rw [List.length_map] at hv hv'
  rw [← wis_len he] at hv'
  have HLL := Stow.mk (wis_len he)
  subst hv hv'
  have HW := Stow.mk hW
  have HW' := Stow.mk hW'
  have HE := Stow.mk he
  have hlen := hW.row.len
  simp only [List.length_map] at hlen
  clear hW hW' he
  go_enter Try.func24, Try.ntmps24
  go_wp2_with fail
  go_loopw [5] (fun v wr => ∃ j : Nat, v = .int .i64 (j : Int) ∧ j ≤ R.length ∧ Below w.heap.size w wr) (fun v _ => R.length - (intOf v).toNat)
  case atStart => exact ⟨0, rfl, by omega, Below.self _⟩
  case round =>
    obtain ⟨j, rfl, hj, hbr⟩ := hrel
    by_cases hlt : j < R.length
    · have hlt' : j < R'.length := by rw [← HLL.out]; exact hlt
      have hll : R.length = R'.length := HLL.out
      obtain ⟨b, off, rfl, hblt, _⟩ := HW.out.row.open (by simp; omega)
      obtain ⟨b', off', rfl, hblt', _⟩ := HW'.out.row.open (by simp; omega)
      have hsp := win_at (HW.out.row.keep hbr) hlt
      have hsp' := win_at (HW'.out.row.keep hbr) hlt'
      have hi := (HW.out.ints _ (List.getElem_mem hlt)).keep hbr
      have hi' := (HW'.out.ints _ (List.getElem_mem hlt')).keep hbr
      have hww := wis_at HE.out hlt hlt'
      clear hll
      generalize R[j] = p at *
      generalize R'[j] = p' at *
      obtain ⟨⟨n, h, s⟩, PA, pc⟩ := p
      obtain ⟨wp, PA', pc'⟩ := p'
      simp only at hww
      subst hww
      obtain ⟨hltb, q0, q1, q2⟩ := hsp
      obtain ⟨hltb', p0, p1, p2⟩ := hsp'
      simp only [Wm.v] at q0 q1 q2 p0 p1 p2 hi hi'
      have HI := Stow.mk hi
      have HI' := Stow.mk hi'
      have g0 : ∀ x : Later wr.heap.size wr, x.1.cell? ⟨b, off + j * 3, none⟩ = _ := fun x => x.cell q0 hltb
      have g1 : ∀ x : Later wr.heap.size wr, x.1.cell? ⟨b, off + j * 3 + 1, none⟩ = _ := fun x => x.cell q1 hltb
      have g2 : ∀ x : Later wr.heap.size wr, x.1.cell? ⟨b, off + j * 3 + 2, none⟩ = _ := fun x => x.cell q2 hltb
      have k0 : ∀ x : Later wr.heap.size wr, x.1.cell? ⟨b', off' + j * 3, none⟩ = _ := fun x => x.cell p0 hltb'
      have k1 : ∀ x : Later wr.heap.size wr, x.1.cell? ⟨b', off' + j * 3 + 1, none⟩ = _ := fun x => x.cell p1 hltb'
      have k2 : ∀ x : Later wr.heap.size wr, x.1.cell? ⟨b', off' + j * 3 + 2, none⟩ = _ := fun x => x.cell p2 hltb'
      have hji : (j : Int) < R.length := by omega
      clear q0 q1 q2 p0 p1 p2 hi hi'
      go_wp2_with fail
      refine wp_region_later wr.heap.size (by kernel_rfl) (by kernel_rfl) ?_
      repeat (go_big_quiet_step (first | (go_at_call 29; exact Calls.later (Nat.le_refl _) (refInts_any s PA PA' pc pc' _ (HI.out.keep (Subtype.property _)) (HI'.out.keep (Subtype.property _))))))
      refine wpQuiet_nil ?_
      rintro ⟨wx, hbx⟩
      clear g0 g1 g2 k0 k1 k2
      go_wp2_with fail
      exact ⟨⟨j + 1, rfl, by omega, hbr.trans (hbx.mono hbr.size)⟩, by simp [intOf]; omega⟩
    · obtain rfl : j = R.length := by omega
      go_wp2_with fail
      go_ret
      exact ⟨rfl, hbr⟩

/-- What stands when the first numbers were looked at. -/
def insF (x : Int) (s : List Int) : List Int := s.filter (· < x) ++ if s.any (x < ·) then x :: s.filter (x < ·) else []
theorem insF_lt {x v : Int} {s : List Int} (ha : s.any (x < ·) = false) (hv : v < x) : insF x (s ++ [v]) = insF x s ++ [v] := by
  have hnv : ¬ x < v := by omega
  unfold insF
  simp [List.filter_append, List.any_append, ha, hv, hnv]
theorem insF_first {x v : Int} {s : List Int} (ha : s.any (x < ·) = false) (hv : x < v) : insF x (s ++ [v]) = insF x s ++ [x, v] := by
  have hnv : ¬ v < x := by omega
  have hf : s.filter (x < ·) = [] := by
    rw [List.filter_eq_nil_iff]
    intro y hy
    have := List.any_eq_false.1 ha y hy
    simpa using this
  unfold insF
  simp [List.filter_append, List.any_append, ha, hv, hnv, hf]
theorem insF_gt {x v : Int} {s : List Int} (ha : s.any (x < ·) = true) (hv : x < v) : insF x (s ++ [v]) = insF x s ++ [v] := by
  have hnv : ¬ v < x := by omega
  unfold insF
  simp [List.filter_append, List.any_append, ha, hv, hnv]
theorem insF_end {x : Int} {s : List Int} (ha : s.any (x < ·) = true) : insF x s = Dd.ins x s := by
  unfold insF Dd.ins
  rw [if_pos ha]
theorem insF_len (x : Int) (s : List Int) : (insF x s).length ≤ 2 * s.length + 1 := by
  have h1 := List.length_filter_le (fun y => decide (y < x)) s
  have h2 := List.length_filter_le (fun y => decide (x < y)) s
  unfold insF
  split <;> simp <;> omega
theorem any_next {x v : Int} {s : List Int} {j : Nat} (hs : s.Pairwise (· < ·)) (hj : j < s.length) (ha : (s.take j).any (x < ·) = true) : x < s[j] := by
  obtain ⟨y, hy, hxy⟩ := List.any_eq_true.1 ha
  obtain ⟨i, hi, rfl⟩ := List.mem_take_iff_getElem.1 hy
  have := List.pairwise_iff_getElem.1 hs i j (by omega) hj (by omega)
  simp at hxy
  omega
end Go.Proofs.Ytbcokngjcgldpaa
