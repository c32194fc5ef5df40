/- Walks of the law's known, of what it asks of headers, and of the laws MsgWrites, MsgAnswers, MsgReads. Conditions: what the form's reach gives; what the library's variables hold. -/
import Derived.Test.YtbnaicgomabigaaDoorMsRefRead
import Derived.Test.YtbnaicgomabigaaDoorFewQ
namespace Go.Proofs.YtbnaicgomabigaaDoor
open Go.RowKit
set_option linter.unusedVariables false

def fewH (L : List Hd) : Bool := decide (L.length ≤ 60) && L.all fun m => decide (m.1.length + m.2.length ≤ 400)

set_option maxHeartbeats 1000000 in
set_option maxRecDepth 100000 in
theorem few04_any (L : List Hd) (A : Option Addr) (cap : Nat) (w : World) (hS : HdR w A cap L) :
    Calls Tryd.prog 22 #[.slice A L.length cap] w fun e w' => e = .returned (.bool (fewH L)) ∧ Below w.heap.size w w' := by
  have HS := Stow.mk hS.slr
  have HF := Stow.mk hS.few
  have hlen := hS.slr.len
  simp only [List.length_map] at hlen
  clear hS
  by_cases h60 : 60 < L.length
  · have HB : Stow (fewH L = false) := ⟨by simp [fewH]; omega⟩
    go_enter Tryd.func22, Tryd.ntmps22
    go_wp2_with fail
    go_ret
    refine ⟨by rw [HB.out]; rfl, ?_⟩
    (repeat (first | exact Below.self _ | refine Below.alloc' ?_ _ | refine Below.drew ?_ | refine Below.drewN' ?_ _ | (refine Below.call ?_ (by assumption))))
  have HB : Stow (fewH L = L.all fun m => decide (m.1.length + m.2.length ≤ 400)) := ⟨by simp [fewH]; omega⟩
  go_enter Tryd.func22, Tryd.ntmps22
  go_wp2_with fail
  go_loopw [3] (fun v wr => ∃ j : Nat, v = .int .i64 j ∧ j ≤ L.length ∧ Stow ((L.take j).all (fun m => decide (m.1.length + m.2.length ≤ 400)) = true) ∧ Below w.heap.size w wr) (fun v _ => L.length - (intOf v).toNat)
  case atStart => exact ⟨0, rfl, by omega, ⟨rfl⟩, Below.self _⟩
  case round =>
    obtain ⟨j, rfl, hj, HJ, hbr⟩ := hrel
    by_cases hlt : j < L.length
    · obtain ⟨b, off, rfl, hblt, _⟩ := HS.out.open (by simp; omega)
      have hsp := head_at (HS.out.keep hbr) hlt
      have hff := HF.out _ (List.getElem_mem hlt)
      obtain ⟨s, hs⟩ : ∃ s, L[j] = s := ⟨_, rfl⟩
      have HSJ := Stow.mk hs
      rw [hs] at hsp hff
      clear hs
      obtain ⟨x, y⟩ := s
      obtain ⟨hltb, q0, q1⟩ := hsp
      simp only at q0 q1 hff
      obtain ⟨hx, hy⟩ := hff
      have hji : (j : Int) < L.length := by omega
      have HBR := Stow.mk hbr
      clear hbr
      by_cases h400 : 400 < x.length + y.length
      · have HBF : Stow (fewH L = false) := ⟨by rw [HB.out]; exact allp_false_of hlt (by rw [HSJ.out]; simp; omega)⟩
        have hi4 : (400 : Int) < x.length + y.length := by omega
        go_wp2_with fail
        go_quiet (fail)
        go_wp2_with fail
        go_ret
        exact ⟨by rw [HBF.out]; rfl, Below.drewN' HBR.out _⟩
      · have hi4 : ¬ (400 : Int) < x.length + y.length := by omega
        have HN : Stow ((L.take (j + 1)).all (fun m => decide (m.1.length + m.2.length ≤ 400)) = true) := ⟨allp_take_succ hlt HJ.out (by rw [HSJ.out]; simp; omega)⟩
        go_wp2_with fail
        go_quiet (fail)
        go_wp2_with fail
        exact ⟨⟨j + 1, rfl, by omega, HN, Below.drewN' HBR.out _⟩, by simp [intOf]; omega⟩
    · obtain rfl : j = L.length := by omega
      have h := HJ.out
      rw [List.take_length] at h
      have HN : Stow (fewH L = true) := ⟨by rw [HB.out]; exact h⟩
      go_wp2_with fail
      go_ret
      exact ⟨by rw [HN.out]; rfl, hbr⟩

def kQ : Rq := ⟨[71, 69, 84], [97], [47, 120], [([107], [118])], [104, 105]⟩
def kP : Rs := ⟨200, [], [120]⟩
theorem kQ_c : Ms.check kQ = 0 := by decide +kernel
theorem kP_c : Ms.checkBack kP = 0 := by decide +kernel
theorem kQ_w : Ms.write kQ = [71, 69, 84, 32, 97, 32, 47, 120, 10, 107, 58, 32, 118, 10, 10, 104, 105] := by decide +kernel
theorem kP_t : Ms.textBack kP = [50, 48, 48, 10, 10, 120] := by
  unfold Ms.textBack
  rw [show kP.st = 200 from rfl, Pg.itoa3 (by decide) (by decide)]
  decide +kernel
theorem kP_w : Ms.writeBack kP = [50, 48, 48, 10, 10, 120] := by
  unfold Ms.writeBack
  rw [if_pos kP_c, kP_t]
theorem kQ_r : Ms.read [71, 69, 84, 32, 97, 32, 47, 120, 10, 107, 58, 32, 118, 10, 10, 104, 105] = some kQ := by
  have h := Ms.read_text kQ_c
  have e : Ms.text kQ = Ms.write kQ := by unfold Ms.write; rw [if_pos kQ_c]
  rw [e, kQ_w] at h
  exact h
theorem kP_r : Ms.readBack [50, 48, 48, 10, 10, 120] = some kP := by
  have h := Ms.readBack_text kP_c
  rw [kP_t] at h
  exact h

theorem hd_one (w : World) : HdR (w.alloc (.cells #[.string ⟨#[107]⟩, .string ⟨#[118]⟩] 90)) (some ⟨w.heap.size, 0, none⟩) 1 [([107], [118])] := by
  have h : HRow (w.alloc (.cells #[.string ⟨#[107]⟩, .string ⟨#[118]⟩] 90)) w.heap.size (.slice (some ⟨w.heap.size, 0, none⟩) 1 1) [([107], [118])] :=
    ⟨rfl, .inr ⟨w.heap.size, 1, _, rfl, Nat.le_refl _, heap_alloc_new w _, Nat.le_refl _, by unfold maxLen; omega, rfl, rfl⟩⟩
  exact ⟨h.slr, by intro m hm; simp at hm; subst hm; decide⟩

set_option maxHeartbeats 2000000 in
set_option maxRecDepth 100000 in
theorem known05_any (w : World) (hm : PgEnv w) : Calls Tryd.prog 32 #[] w fun e w' => e = .returned (.bool true) ∧ Below w.heap.size w w' := by
  have HM := Stow.mk hm
  clear hm
  go_enter Tryd.func32, Tryd.ntmps32
  go_wp2_with fail
  generalize hWe : World.alloc _ _ = W
  have hW : HdR W (some ⟨w.heap.size, 0, none⟩) 1 [([107], [118])] ∧ Below w.heap.size w W ∧ Held W (w.heap.size + 1) [.string ⟨#[71, 69, 84]⟩, .string ⟨#[97]⟩, .string ⟨#[47, 120]⟩, .slice (some ⟨w.heap.size, 0, none⟩) 1 1, .string ⟨#[104, 105]⟩] ∧ Held W (w.heap.size + 2) [.int .i64 200, .slice none 0 0, .string ⟨#[120]⟩] := by
    subst hWe
    have e1 : (w.alloc (.cells #[.string ⟨#[107]⟩, .string ⟨#[118]⟩] 90)).heap.size = w.heap.size + 1 := by simp
    have e2 : ((w.alloc (.cells #[.string ⟨#[107]⟩, .string ⟨#[118]⟩] 90)).alloc (.cells #[.string ⟨#[71, 69, 84]⟩, .string ⟨#[97]⟩, .string ⟨#[47, 120]⟩, .slice (some ⟨w.heap.size, 0, none⟩) 1 1, .string ⟨#[104, 105]⟩] 58)).heap.size = w.heap.size + 2 := by simp
    have h1 := Held.made (w.alloc (.cells #[.string ⟨#[107]⟩, .string ⟨#[118]⟩] 90)) [.string ⟨#[71, 69, 84]⟩, .string ⟨#[97]⟩, .string ⟨#[47, 120]⟩, .slice (some ⟨w.heap.size, 0, none⟩) 1 1, .string ⟨#[104, 105]⟩] 58
    have h2 := Held.made ((w.alloc (.cells #[.string ⟨#[107]⟩, .string ⟨#[118]⟩] 90)).alloc (.cells #[.string ⟨#[71, 69, 84]⟩, .string ⟨#[97]⟩, .string ⟨#[47, 120]⟩, .slice (some ⟨w.heap.size, 0, none⟩) 1 1, .string ⟨#[104, 105]⟩] 58)) [.int .i64 200, .slice none 0 0, .string ⟨#[120]⟩] 63
    rw [e1] at h1
    rw [e2] at h2
    exact ⟨((hd_one w).alloc _).alloc _, Below.alloc' (Below.alloc' (Below.alloc' (Below.self _) _) _) _, h1.kept (Below.alloc' (Below.self _) _), h2⟩
  obtain ⟨hS, hB, hQ, hP⟩ := hW
  have HS := Stow.mk hS
  have HB := Stow.mk hB
  have HQ := Stow.mk hQ
  have HP := Stow.mk hP
  clear hS hB hQ hP hWe
  refine (msWrite_any kQ _ 1 _ HS.out ⟨by decide, by decide, by decide, by decide⟩).mono ?_
  rw [kQ_w, kQ_c]
  rintro e w1 ⟨rfl, hb1⟩
  have HB1 : Stow (Below w.heap.size w w1) := ⟨HB.out.trans (hb1.mono HB.out.size)⟩
  have HS1 := Stow.mk (HS.out.keep hb1)
  have HQ1 := Stow.mk (HQ.out.kept hb1)
  have HP1 := Stow.mk (HP.out.kept hb1)
  clear hb1
  go_wp2_with fail
  refine (msRead_any [71, 69, 84, 32, 97, 32, 47, 120, 10, 107, 58, 32, 118, 10, 10, 104, 105] _ (by decide) (HM.out.keep HB1.out)).mono ?_
  rw [kQ_r]
  rintro e w2 ⟨A2, c2, rfl, hS2, hb2⟩
  have HB2 : Stow (Below w.heap.size w w2) := ⟨HB1.out.trans (hb2.mono HB1.out.size)⟩
  have HS2 := Stow.mk (HS1.out.keep hb2)
  have HR2 : Stow (SlR w2 2 (.slice A2 1 c2) ([([107], [118])].map Hd.cells)) := ⟨hS2⟩
  have HQ2 := Stow.mk (HQ1.out.kept hb2)
  have HP2 := Stow.mk (HP1.out.kept hb2)
  have hlp := HP2.out.lt
  have hlq := HQ2.out.lt
  have p0 := HP2.out.cell (i := 0) rfl
  have p1 := HP2.out.cell (i := 1) rfl
  have p2 := HP2.out.cell (i := 2) rfl
  have hnp : (w2.heap.size == w.heap.size + 2) = false := by simp; omega
  clear hb2 hS2
  simp only [Option.getD_some, Option.isSome_some, if_true, kQ, Rq.val, List.length_cons, List.length_nil, Nat.zero_add]
  have HX2 := rq_box w2 [71, 69, 84] [97] [47, 120] A2 1 c2 [104, 105]
  go_wp2_with fail
  refine (msWriteBack_any kP none 0 _ ⟨SlR.nil _ _, by intro m hm; simp [kP] at hm⟩ (by decide) (HM.out.keep (Below.alloc HB2.out HB2.out.size _)).pow).mono ?_
  rw [kP_w, kP_c]
  rintro e w3 ⟨rfl, hb3⟩
  obtain ⟨hX3, hB3⟩ := HX2.out w3 hb3
  have HB3 : Stow (Below w.heap.size w w3) := ⟨HB2.out.trans (hB3.mono HB2.out.size)⟩
  have HX3 := Stow.mk hX3
  have HS3 := Stow.mk (HS2.out.keep hB3)
  have HR3 := Stow.mk (HR2.out.keep hB3)
  have HQ3 := Stow.mk (HQ2.out.kept hB3)
  have HP3 := Stow.mk (HP2.out.kept hB3)
  clear hb3 hB3 hX3 p0 p1 p2 hnp
  go_wp2_with fail
  refine (msReadBack_any [50, 48, 48, 10, 10, 120] _ (by decide) (HM.out.keep HB3.out)).mono ?_
  rw [kP_r]
  rintro e w4 ⟨A4, c4, rfl, hS4, hb4⟩
  have HB4 : Stow (Below w.heap.size w w4) := ⟨HB3.out.trans (hb4.mono HB3.out.size)⟩
  have HS4 := Stow.mk (HS3.out.keep hb4)
  have HR4 := Stow.mk (HR3.out.keep hb4)
  have HX4 := Stow.mk (HX3.out.kept hb4)
  have HQ4 := Stow.mk (HQ3.out.kept hb4)
  have HP4 := Stow.mk (HP3.out.kept hb4)
  have HT4 : Stow (SlR w4 2 (.slice A4 0 c4) (([] : List Hd).map Hd.cells)) := ⟨hS4⟩
  clear hb4 hS4
  simp only [Option.getD_some, Option.isSome_some, if_true, kP, Rs.val, List.length_nil]
  have l4q := HQ4.out.lt
  have l4p := HP4.out.lt
  have l4x := HX4.out.lt
  have n4q : (w4.heap.size == w.heap.size + 1) = false := by simp; omega
  have n4p : (w4.heap.size == w.heap.size + 2) = false := by simp; omega
  have n4x : (w4.heap.size == w2.heap.size) = false := by simp; omega
  have q0 := HQ4.out.cell (i := 0) rfl
  have q1 := HQ4.out.cell (i := 1) rfl
  have q2 := HQ4.out.cell (i := 2) rfl
  have q3 := HQ4.out.cell (i := 3) rfl
  have q4 := HQ4.out.cell (i := 4) rfl
  have x0 := HX4.out.cell (i := 0) rfl
  have x1 := HX4.out.cell (i := 1) rfl
  have x2 := HX4.out.cell (i := 2) rfl
  have x3 := HX4.out.cell (i := 3) rfl
  have x4 := HX4.out.cell (i := 4) rfl
  have HY := rs_box w4 200 A4 0 c4 [120]
  go_wp2_with fail
  refine (msSame_any kQ _ _ _ _ _ (HR4.out.alloc _) (HS4.out.slr.alloc _)).mono ?_
  rintro e w5 ⟨rfl, hb5⟩
  obtain ⟨hY5, hB5⟩ := HY.out w5 hb5
  have HB5 : Stow (Below w.heap.size w w5) := ⟨HB4.out.trans (hB5.mono HB4.out.size)⟩
  have HT5 := Stow.mk (HT4.out.keep hB5)
  have hP5 := HP4.out.kept hB5
  clear q0 q1 q2 q3 q4 x0 x1 x2 x3 x4 n4q n4p n4x
  have y0 := hY5.cell (i := 0) rfl
  have y1 := hY5.cell (i := 1) rfl
  have y2 := hY5.cell (i := 2) rfl
  have p0 := hP5.cell (i := 0) rfl
  have p1 := hP5.cell (i := 1) rfl
  have p2 := hP5.cell (i := 2) rfl
  clear hb5 hB5 hY5 hP5
  go_wp2_with fail
  refine (msSameBack_any kP _ _ _ _ _ HT5.out (SlR.nil _ _)).mono ?_
  rintro e w6 ⟨rfl, hb6⟩
  have HB6 : Stow (Below w.heap.size w w6) := ⟨HB5.out.trans (hb6.mono HB5.out.size)⟩
  clear hb6
  go_wp2_with fail
  go_ret
  exact ⟨rfl, HB6.out⟩
end Go.Proofs.YtbnaicgomabigaaDoor
