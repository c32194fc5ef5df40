/- Walk of the law ProgBack. Conditions: what the form's reach gives; ints; what the library's variables hold. -/
import Derived.Test.YtbnaicgomabigaaDoorPgLaws
namespace Go.Proofs.YtbnaicgomabigaaDoor
open Go.RowKit
set_option linter.unusedVariables false

theorem Pg.text_len {o : Ob} (h : Pg.check o = 0) (h0 : -9223372036854775808 ≤ o.n) (h1 : o.n ≤ 9223372036854775807) : (Pg.text o).length ≤ 200 := by
  obtain ⟨a, b⟩ := Pg.check_len h
  have hi := Lib.itoa_length_le o.n h0 h1
  have hw : (Pg.word o.k).length ≤ 6 := by
    unfold Pg.word
    repeat' split
    all_goals decide
  have h5 : (Pg.word 5).length ≤ 6 := by decide
  have h7 : (Pg.word 7).length ≤ 6 := by decide
  unfold Pg.text
  repeat' split
  all_goals try simp only [List.length_append, List.length_cons]
  all_goals omega



set_option maxHeartbeats 4000000 in
set_option maxRecDepth 100000 in
theorem back34 (o : Ob) (l : List UInt8) (w : World) (ho : o.fits) (hl : l.length ≤ 140737488355328) (hm : PgEnv w) :
    Calls Tryd.prog 4 #[o.val, .string (bs l)] w fun e w' => e = .returned (.bool true) ∧ Below w.heap.size w w' := by
  have HM := Stow.mk hm
  obtain ⟨ha, hb, hn0, hn1⟩ := ho
  clear hm
  obtain ⟨k, a, b, n⟩ := o
  simp only at ha hb hn0 hn1
  unfold Ob.val
  simp only
  have HX := op_box w k a b n
  have hB0 := (HX.out _ (Below.refl _ _)).2
  by_cases h400 : 400 < a.length + b.length
  · have d1 : (400 : Int) < (a.length : Int) + b.length := by omega
    go_enter Tryd.func4, Tryd.ntmps4
    go_wp2_with fail
    refine (known34_any _ (HM.out.keep hB0)).mono ?_
    rintro e wk ⟨rfl, hbk⟩
    go_wp2_with fail
    go_ret
    exact ⟨rfl, Below.trans hB0 (hbk.mono (Below.size hB0))⟩
  have d1 : ¬ (400 : Int) < (a.length : Int) + b.length := by omega
  by_cases hl400 : 400 < l.length
  · go_enter Tryd.func4, Tryd.ntmps4
    go_wp2_with fail
    refine (known34_any _ (HM.out.keep hB0)).mono ?_
    rintro e wk ⟨rfl, hbk⟩
    go_wp2_with fail
    go_ret
    exact ⟨rfl, Below.trans hB0 (hbk.mono (Below.size hB0))⟩
  have HB0 := Stow.mk hB0
  clear hB0
  obtain ⟨r, hr⟩ : ∃ c, Pg.read l = c := ⟨_, rfl⟩
  have HR := Stow.mk hr
  obtain ⟨cc, hcc⟩ : ∃ c, Pg.check ⟨k, a, b, n⟩ = c := ⟨_, rfl⟩
  obtain ⟨tt, htt⟩ : ∃ c, Pg.write ⟨k, a, b, n⟩ = c := ⟨_, rfl⟩
  have HCC := Stow.mk hcc
  have HTT := Stow.mk htt
  clear hr
  by_cases hc0 : cc = 0
  rotate_left
  · have i0 : ((cc : Int) == 0) = false := by rw [beq_eq_false_iff_ne]; omega
    clear hcc htt
    go_enter Tryd.func4, Tryd.ntmps4
    go_wp2_with fail
    refine (pgWrite_any ⟨k, a, b, n⟩ _ ha hb hn0 hn1 (HM.out.keep HB0.out).pow).mono ?_
    rw [HTT.out, HCC.out]
    rintro e w1 ⟨rfl, hb1⟩
    obtain ⟨hH1, hB1⟩ := HX.out w1 hb1
    have HB1 := Stow.mk hB1
    clear hH1 hB1 hb1
    go_wp2_with fail
    refine (pgRead_any l _ (by omega) (HM.out.keep HB1.out)).mono ?_
    rw [HR.out]
    rintro e w5 ⟨rfl, hb5⟩
    have HB5 : Stow (Below w.heap.size w w5) := ⟨Below.trans HB1.out (hb5.mono (Below.size HB1.out))⟩
    clear hb5
    cases r with
    | none =>
      simp only [Option.getD_none, Option.isSome_none, Pg.zero, Ob.val]
      go_wp2_with fail
      refine (known34_any _ (HM.out.keep (Below.alloc HB5.out HB5.out.size _))).mono ?_
      rintro e wk ⟨rfl, hbk⟩
      go_wp2_with fail
      go_ret
      exact ⟨rfl, Below.trans (Below.alloc HB5.out HB5.out.size _) (hbk.mono (Below.size (Below.alloc HB5.out HB5.out.size _)))⟩
    | some q =>
      simp only [Option.getD_some, Option.isSome_some]
      have hs := Pg.read_some HR.out
      have hql : q.a.length ≤ 64 ∧ q.b.length ≤ 64 := Pg.check_len hs.1
      have hqn := Pg.check_parts hs.1
      have hq0 : -9223372036854775808 ≤ q.n ∧ q.n ≤ 9223372036854775807 := by
        by_cases h7 : q.k = 7
        · have := hqn.2.2.2.2 h7; omega
        · rw [hqn.2.2.1 h7]; omega
      have hW : Pg.write q = l := by unfold Pg.write; rw [if_pos hs.1]; exact hs.2
      have hC := hs.1
      clear hqn hs
      have KW : Stow (∀ W1 : World, Below w.heap.size w W1 → Calls Tryd.prog 14 #[q.val] W1 fun e w' => e = .returned (.tuple #[.string (bs l), .int .i64 0]) ∧ Below W1.heap.size W1 w') := ⟨fun W1 hB => by have := pgWrite_any q W1 (by omega) (by omega) hq0.1 hq0.2 (HM.out.keep hB).pow; rw [hW, hC] at this; exact this⟩
      have KC : Stow (∀ W1 : World, Calls Tryd.prog 18 #[q.val] W1 fun e w' => e = .returned (.int .i64 0) ∧ Below W1.heap.size W1 w') := ⟨fun W1 => by have := pgCheck_any q W1 (by omega) (by omega); rw [hC] at this; exact this⟩
      clear hW hC hql hq0 HR
      obtain ⟨qk, qa, qb, qn⟩ := q
      simp only [Ob.val] at KW KC ⊢
      have HQ := op_box w5 qk qa qb qn
      go_wp2_with fail
      refine (KW.out _ (Below.alloc HB5.out HB5.out.size _)).mono ?_
      rintro e w6 ⟨rfl, hb6⟩
      obtain ⟨hQ6, hBQ6⟩ := HQ.out w6 hb6
      have HB6 : Stow (Below w.heap.size w w6) := ⟨HB5.out.trans (hBQ6.mono HB5.out.size)⟩
      have q0 := hQ6.cell (i := 0) rfl
      have q1 := hQ6.cell (i := 1) rfl
      have q2 := hQ6.cell (i := 2) rfl
      have q3 := hQ6.cell (i := 3) rfl
      clear hQ6 hBQ6 hb6
      have z3 : (l == l) = true := by simp
      go_wp2_with fail
      refine (KC.out _).mono ?_
      rintro e w7 ⟨rfl, hb7⟩
      have HB7 : Stow (Below w.heap.size w w7) := ⟨HB6.out.trans (hb7.mono HB6.out.size)⟩
      clear hb7
      go_wp2_with fail
      refine (known34_any _ (HM.out.keep HB7.out)).mono ?_
      rintro e wk ⟨rfl, hbk⟩
      go_wp2_with fail
      go_ret
      exact ⟨rfl, Below.trans HB7.out (hbk.mono (Below.size HB7.out))⟩
  · subst hc0
    have htx : tt = Pg.text ⟨k, a, b, n⟩ := by rw [← htt]; unfold Pg.write; rw [if_pos hcc]
    have hRT : Pg.read tt = some ⟨k, a, b, n⟩ := by rw [htx]; exact Pg.read_text hcc
    have htl : tt.length ≤ 200 := by rw [htx]; exact Pg.text_len hcc hn0 hn1
    have HRT := Stow.mk hRT
    clear hcc htt htx hRT
    go_enter Tryd.func4, Tryd.ntmps4
    go_wp2_with fail
    refine (pgWrite_any ⟨k, a, b, n⟩ _ ha hb hn0 hn1 (HM.out.keep HB0.out).pow).mono ?_
    rw [HTT.out, HCC.out]
    rintro e w1 ⟨rfl, hb1⟩
    obtain ⟨hH1, hB1⟩ := HX.out w1 hb1
    have HH1 := Stow.mk hH1
    have HB1 := Stow.mk hB1
    clear hH1 hB1 hb1
    go_wp2_with fail
    refine (pgRead_any tt _ (by omega) (HM.out.keep HB1.out)).mono ?_
    rw [HRT.out]
    rintro e w2 ⟨rfl, hb2⟩
    have HB2 : Stow (Below w.heap.size w w2) := ⟨HB1.out.trans (hb2.mono HB1.out.size)⟩
    have hH2 := HH1.out.kept hb2
    have c0 := hH2.cell (i := 0) rfl
    have c1 := hH2.cell (i := 1) rfl
    have c2 := hH2.cell (i := 2) rfl
    have c3 := hH2.cell (i := 3) rfl
    have hlt := hH2.lt
    have hne : (w2.heap.size == w.heap.size) = false := by simp; omega
    clear hb2 hH2
    simp only [Option.getD_some, Option.isSome_some, Ob.val]
    go_wp2_with fail
    refine (pgRead_any l _ (by omega) (HM.out.keep (Below.alloc HB2.out HB2.out.size _))).mono ?_
    rw [HR.out]
    rintro e w5 ⟨rfl, hb5⟩
    have HB5 : Stow (Below w.heap.size w w5) := ⟨Below.trans (Below.alloc HB2.out HB2.out.size _) (hb5.mono (Below.size (Below.alloc HB2.out HB2.out.size _)))⟩
    clear hb5
    cases r with
    | none =>
      simp only [Option.getD_none, Option.isSome_none, Pg.zero, Ob.val]
      go_wp2_with fail
      refine (known34_any _ (HM.out.keep (Below.alloc HB5.out HB5.out.size _))).mono ?_
      rintro e wk ⟨rfl, hbk⟩
      go_wp2_with fail
      go_ret
      exact ⟨rfl, Below.trans (Below.alloc HB5.out HB5.out.size _) (hbk.mono (Below.size (Below.alloc HB5.out HB5.out.size _)))⟩
    | some q =>
      simp only [Option.getD_some, Option.isSome_some]
      have hs := Pg.read_some HR.out
      have hql : q.a.length ≤ 64 ∧ q.b.length ≤ 64 := Pg.check_len hs.1
      have hqn := Pg.check_parts hs.1
      have hq0 : -9223372036854775808 ≤ q.n ∧ q.n ≤ 9223372036854775807 := by
        by_cases h7 : q.k = 7
        · have := hqn.2.2.2.2 h7; omega
        · rw [hqn.2.2.1 h7]; omega
      have hW : Pg.write q = l := by unfold Pg.write; rw [if_pos hs.1]; exact hs.2
      have hC := hs.1
      clear hqn hs
      have KW : Stow (∀ W1 : World, Below w.heap.size w W1 → Calls Tryd.prog 14 #[q.val] W1 fun e w' => e = .returned (.tuple #[.string (bs l), .int .i64 0]) ∧ Below W1.heap.size W1 w') := ⟨fun W1 hB => by have := pgWrite_any q W1 (by omega) (by omega) hq0.1 hq0.2 (HM.out.keep hB).pow; rw [hW, hC] at this; exact this⟩
      have KC : Stow (∀ W1 : World, Calls Tryd.prog 18 #[q.val] W1 fun e w' => e = .returned (.int .i64 0) ∧ Below W1.heap.size W1 w') := ⟨fun W1 => by have := pgCheck_any q W1 (by omega) (by omega); rw [hC] at this; exact this⟩
      clear hW hC hql hq0 HR
      obtain ⟨qk, qa, qb, qn⟩ := q
      simp only [Ob.val] at KW KC ⊢
      have HQ := op_box w5 qk qa qb qn
      go_wp2_with fail
      refine (KW.out _ (Below.alloc HB5.out HB5.out.size _)).mono ?_
      rintro e w6 ⟨rfl, hb6⟩
      obtain ⟨hQ6, hBQ6⟩ := HQ.out w6 hb6
      have HB6 : Stow (Below w.heap.size w w6) := ⟨HB5.out.trans (hBQ6.mono HB5.out.size)⟩
      have q0 := hQ6.cell (i := 0) rfl
      have q1 := hQ6.cell (i := 1) rfl
      have q2 := hQ6.cell (i := 2) rfl
      have q3 := hQ6.cell (i := 3) rfl
      clear hQ6 hBQ6 hb6
      have z3 : (l == l) = true := by simp
      go_wp2_with fail
      refine (KC.out _).mono ?_
      rintro e w7 ⟨rfl, hb7⟩
      have HB7 : Stow (Below w.heap.size w w7) := ⟨HB6.out.trans (hb7.mono HB6.out.size)⟩
      clear hb7
      go_wp2_with fail
      refine (known34_any _ (HM.out.keep HB7.out)).mono ?_
      rintro e wk ⟨rfl, hbk⟩
      go_wp2_with fail
      go_ret
      exact ⟨rfl, Below.trans HB7.out (hbk.mono (Below.size HB7.out))⟩
end Go.Proofs.YtbnaicgomabigaaDoor
