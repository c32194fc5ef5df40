/- Walk of the law MsgBack. Conditions: what the form's reach gives; what the library's variables hold. -/
import Derived.Test.YtbnaicgomabigaaDoorMsLaws
namespace Go.Proofs.YtbnaicgomabigaaDoor
open Go.RowKit
set_option linter.unusedVariables false

theorem Ms.Short.hdr {w : World} {A : Option Addr} {cap : Nat} {L : List Hd} (h : Ms.Short L) (hS : SlR w 2 (.slice A L.length cap) (L.map Hd.cells)) : HdR w A cap L :=
  ⟨hS, fun m hm => by have := h.2 m hm; exact ⟨by omega, by omega⟩⟩
theorem Ms.text_len {q : Rq} (h : Ms.check q = 0) : (Ms.text q).length ≤ 2000 := by
  obtain ⟨h1, h2, h3, h4, h5⟩ := Ms.check_lens h
  have := Ms.rest_len h5 h4
  unfold Ms.text Ms.whole Ms.first
  simp only [List.length_append, List.length_cons]
  omega
theorem Ms.textBack_len {p : Rs} (h : Ms.checkBack p = 0) : (Ms.textBack p).length ≤ 2000 := by
  obtain ⟨h1, h2, h4, h5⟩ := Ms.checkBack_lens h
  have := Ms.rest_len h5 h4
  have := (Ms.digits3 h1 h2).1
  unfold Ms.textBack Ms.whole
  simp only [List.length_append, List.length_cons]
  omega
theorem two_box (w : World) (m h p : List UInt8) (A : Option Addr) (n cap : Nat) (b : List UInt8) (st : Int) (A' : Option Addr) (n' cap' : Nat) (b' : List UInt8) : Stow (∀ W, Below ((w.alloc (.cells #[.string (bs m), .string (bs h), .string (bs p), .slice A n cap, .string (bs b)] 58)).alloc (.cells #[.int .i64 st, .slice A' n' cap', .string (bs b')] 63)).heap.size ((w.alloc (.cells #[.string (bs m), .string (bs h), .string (bs p), .slice A n cap, .string (bs b)] 58)).alloc (.cells #[.int .i64 st, .slice A' n' cap', .string (bs b')] 63)) W →
    Held W w.heap.size [.string (bs m), .string (bs h), .string (bs p), .slice A n cap, .string (bs b)] ∧ Held W (w.heap.size + 1) [.int .i64 st, .slice A' n' cap', .string (bs b')] ∧ Below w.heap.size w W) := ⟨fun W hb => by
  have e1 : (w.alloc (.cells #[.string (bs m), .string (bs h), .string (bs p), .slice A n cap, .string (bs b)] 58)).heap.size = w.heap.size + 1 := by simp
  have h1 := ((Held.made w [.string (bs m), .string (bs h), .string (bs p), .slice A n cap, .string (bs b)] 58).kept (Below.alloc' (Below.self _) (.cells #[.int .i64 st, .slice A' n' cap', .string (bs b')] 63))).kept hb
  have h2 := (Held.made (w.alloc (.cells #[.string (bs m), .string (bs h), .string (bs p), .slice A n cap, .string (bs b)] 58)) [.int .i64 st, .slice A' n' cap', .string (bs b')] 63).kept hb
  rw [e1] at h2
  exact ⟨h1, h2, Below.call (Below.alloc' (Below.alloc' (Below.self _) _) _) hb⟩⟩


set_option maxHeartbeats 4000000 in
set_option maxRecDepth 100000 in
theorem back05 (q : Rq) (p : Rs) (A A' : Option Addr) (cap cap' : Nat) (s : List UInt8) (w : World) (hS : HdR w A cap q.hs) (hT : HdR w A' cap' p.hs) (hq : q.fits) (hb : p.b.length ≤ 140737488355328) (hl : s.length ≤ 140737488355328) (hm : PgEnv w) :
    Calls Tryd.prog 11 #[q.val A cap, p.val A' cap', .string (bs s)] w fun e w' => e = .returned (.bool true) ∧ Below w.heap.size w w' := by
  have HM := Stow.mk hm
  have HS := Stow.mk hS
  have HT := Stow.mk hT
  have HQF := Stow.mk hq
  clear hm hS hT hq
  obtain ⟨cc, hcc⟩ : ∃ c, Ms.check q = c := ⟨_, rfl⟩
  obtain ⟨tt, htt⟩ : ∃ c, Ms.write q = c := ⟨_, rfl⟩
  obtain ⟨cp, hcp⟩ : ∃ c, Ms.checkBack p = c := ⟨_, rfl⟩
  obtain ⟨tp, htp⟩ : ∃ c, Ms.writeBack p = c := ⟨_, rfl⟩
  have kw := fun W h1 => msWrite_any q A cap W h1 HQF.out
  have kwb := fun W h1 h2 => msWriteBack_any p A' cap' W h1 hb h2
  simp only [hcc, htt] at kw
  simp only [hcp, htp] at kwb
  have HC : Stow (cc = 0 → Ms.read tt = some q ∧ tt.length < 2147483647) := ⟨fun h => by
    rw [h] at hcc
    have e : tt = Ms.text q := by rw [← htt]; unfold Ms.write; rw [if_pos hcc]
    rw [e]
    have := Ms.text_len hcc
    exact ⟨Ms.read_text hcc, by omega⟩⟩
  have HCP : Stow (cp = 0 → Ms.readBack tp = some p ∧ tp.length < 2147483647) := ⟨fun h => by
    rw [h] at hcp
    have e : tp = Ms.textBack p := by rw [← htp]; unfold Ms.writeBack; rw [if_pos hcp]
    rw [e]
    have := Ms.textBack_len hcp
    exact ⟨Ms.readBack_text hcp, by omega⟩⟩
  obtain ⟨f, hfw⟩ : ∃ f, fewQ q.m q.h q.p q.b q.hs = f := ⟨_, rfl⟩
  obtain ⟨g, hgw⟩ : ∃ f, fewH p.hs = f := ⟨_, rfl⟩
  have kf := fun W h1 => fewQ_any q.m q.h q.p q.b q.hs A cap W h1 HQF.out.m HQF.out.h HQF.out.p HQF.out.b HS.out.few
  simp only [hfw] at kf
  have kg := fun W h1 => few04_any p.hs A' cap' W h1
  simp only [hgw] at kg
  have KW := Stow.mk kw
  have KWB := Stow.mk kwb
  have KF := Stow.mk kf
  have KG := Stow.mk kg
  have KS := Stow.mk (fun A A' cap cap' W => msSame_any q A A' cap cap' W)
  have KSB := Stow.mk (fun A A' cap cap' W => msSameBack_any p A A' cap cap' W)
  obtain ⟨r, hr⟩ : ∃ c, Ms.read s = c := ⟨_, rfl⟩
  obtain ⟨rb, hrb⟩ : ∃ c, Ms.readBack s = c := ⟨_, rfl⟩
  have HR := Stow.mk hr
  have HRB := Stow.mk hrb
  clear kw kwb kf kg hcc htt hcp htp hfw hgw hr hrb
  obtain ⟨m, h, pa, hs1, b⟩ := q
  obtain ⟨st, hs2, b2⟩ := p
  unfold Rq.val at KW KS ⊢
  unfold Rs.val at KWB KSB ⊢
  simp only at KW KWB KF KG KS KSB HS HT hb ⊢
  have HX := two_box w m h pa A hs1.length cap b st A' hs2.length cap' b2
  go_enter Tryd.func11, Tryd.ntmps11
  go_wp2_with fail
  refine (KF.out _ ((HS.out.alloc _).alloc _).slr).mono ?_
  rintro e w1 ⟨rfl, hb1⟩
  obtain ⟨hQ1, hP1, hB1⟩ := HX.out w1 hb1
  have HB1 := Stow.mk hB1
  have HQ1 := Stow.mk hQ1
  have HP1 := Stow.mk hP1
  have HS1 := Stow.mk (((HS.out.alloc _).alloc _).keep hb1)
  have HT1 := Stow.mk (((HT.out.alloc _).alloc _).keep hb1)
  clear hb1 hB1 hQ1 hP1
  have lq := HQ1.out.lt
  have lp := HP1.out.lt
  have a0 := HQ1.out.cell (i := 0) rfl
  have a1 := HQ1.out.cell (i := 1) rfl
  have a2 := HQ1.out.cell (i := 2) rfl
  have a3 := HQ1.out.cell (i := 3) rfl
  have a4 := HQ1.out.cell (i := 4) rfl
  have p0 := HP1.out.cell (i := 0) rfl
  have p1 := HP1.out.cell (i := 1) rfl
  have p2 := HP1.out.cell (i := 2) rfl
  have nq : (w1.heap.size == w.heap.size) = false := by simp; omega
  have np : (w1.heap.size == w.heap.size + 1) = false := by simp; omega
  cases f
  · go_wp2_with fail
    refine (known05_any _ (HM.out.keep HB1.out)).mono ?_
    rintro e wk ⟨rfl, hbk⟩
    go_wp2_with fail
    go_ret
    exact ⟨rfl, Below.trans HB1.out (hbk.mono (Below.size HB1.out))⟩
  by_cases h2000 : 2000 < b2.length
  · go_wp2_with fail
    refine (known05_any _ (HM.out.keep HB1.out)).mono ?_
    rintro e wk ⟨rfl, hbk⟩
    go_wp2_with fail
    go_ret
    exact ⟨rfl, Below.trans HB1.out (hbk.mono (Below.size HB1.out))⟩
  go_wp2_with fail
  refine (KG.out _ HT1.out).mono ?_
  rintro e w2 ⟨rfl, hb2⟩
  clear a0 a1 a2 a3 a4 p0 p1 p2 nq np lq lp
  have HB2 : Stow (Below w.heap.size w w2) := ⟨HB1.out.trans (Below.mono hb2 HB1.out.size)⟩
  have HQ2 := Stow.mk (HQ1.out.kept hb2)
  have HP2 := Stow.mk (HP1.out.kept hb2)
  have HS2 := Stow.mk (HS1.out.keep hb2)
  have HT2 := Stow.mk (HT1.out.keep hb2)
  clear hb2
  cases g
  · go_wp2_with fail
    refine (known05_any _ (HM.out.keep HB2.out)).mono ?_
    rintro e wk ⟨rfl, hbk⟩
    go_wp2_with fail
    go_ret
    exact ⟨rfl, Below.trans HB2.out (hbk.mono (Below.size HB2.out))⟩
  by_cases h3000 : 3000 < s.length
  · go_wp2_with fail
    refine (known05_any _ (HM.out.keep HB2.out)).mono ?_
    rintro e wk ⟨rfl, hbk⟩
    go_wp2_with fail
    go_ret
    exact ⟨rfl, Below.trans HB2.out (hbk.mono (Below.size HB2.out))⟩
  have HL : Stow (s.length < 2147483647) := ⟨by omega⟩
  have lq := HQ2.out.lt
  have lp := HP2.out.lt
  have a0 := HQ2.out.cell (i := 0) rfl
  have a1 := HQ2.out.cell (i := 1) rfl
  have a2 := HQ2.out.cell (i := 2) rfl
  have a3 := HQ2.out.cell (i := 3) rfl
  have a4 := HQ2.out.cell (i := 4) rfl
  have p0 := HP2.out.cell (i := 0) rfl
  have p1 := HP2.out.cell (i := 1) rfl
  have p2 := HP2.out.cell (i := 2) rfl
  have nq : (w2.heap.size == w.heap.size) = false := by simp; omega
  have np : (w2.heap.size == w.heap.size + 1) = false := by simp; omega
  go_wp2_with fail
  refine (KW.out _ HS2.out).mono ?_
  rintro e w3 ⟨rfl, hb3⟩
  clear a0 a1 a2 a3 a4 p0 p1 p2 nq np lq lp
  have HB3 : Stow (Below w.heap.size w w3) := ⟨HB2.out.trans (Below.mono hb3 HB2.out.size)⟩
  have HQ3 := Stow.mk (HQ2.out.kept hb3)
  have HP3 := Stow.mk (HP2.out.kept hb3)
  have HS3 := Stow.mk (HS2.out.keep hb3)
  have HT3 := Stow.mk (HT2.out.keep hb3)
  clear hb3
  by_cases hc0 : cc = 0
  rotate_left
  · have i0 : ((cc : Int) == 0) = false := by rw [beq_eq_false_iff_ne]; omega
    have lq := HQ3.out.lt
    have lp := HP3.out.lt
    have a0 := HQ3.out.cell (i := 0) rfl
    have a1 := HQ3.out.cell (i := 1) rfl
    have a2 := HQ3.out.cell (i := 2) rfl
    have a3 := HQ3.out.cell (i := 3) rfl
    have a4 := HQ3.out.cell (i := 4) rfl
    have p0 := HP3.out.cell (i := 0) rfl
    have p1 := HP3.out.cell (i := 1) rfl
    have p2 := HP3.out.cell (i := 2) rfl
    have nq : (w3.heap.size == w.heap.size) = false := by simp; omega
    have np : (w3.heap.size == w.heap.size + 1) = false := by simp; omega
    go_wp2_with fail
    refine (KWB.out _ HT3.out (HM.out.keep HB3.out).pow).mono ?_
    rintro e w6 ⟨rfl, hb6⟩
    clear a0 a1 a2 a3 a4 p0 p1 p2 nq np lq lp
    have HB6 : Stow (Below w.heap.size w w6) := ⟨HB3.out.trans (Below.mono hb6 HB3.out.size)⟩
    have HQ6 := Stow.mk (HQ3.out.kept hb6)
    have HP6 := Stow.mk (HP3.out.kept hb6)
    have HS6 := Stow.mk (HS3.out.keep hb6)
    have HT6 := Stow.mk (HT3.out.keep hb6)
    clear hb6
    by_cases hp0 : cp = 0
    rotate_left
    · have j0 : ((cp : Int) == 0) = false := by rw [beq_eq_false_iff_ne]; omega
      go_wp2_with fail
      refine (msRead_any s _ HL.out (HM.out.keep HB6.out)).mono ?_
      unfold RqOf
      rw [HR.out]
      rintro e w9 ⟨A9, c9, rfl, hS9, hb9⟩
      have HB9 : Stow (Below w.heap.size w w9) := ⟨Below.trans HB6.out (hb9.mono (Below.size HB6.out))⟩
      clear hb9
      cases r with
      | none =>
        simp only [Option.getD_none, Option.isSome_none, Rq.zero, Rq.val, List.length_nil]
        go_wp2_with fail
        refine (msReadBack_any s _ HL.out (HM.out.keep (Below.alloc HB9.out HB9.out.size _))).mono ?_
        unfold RsOf
        rw [HRB.out]
        rintro e w11 ⟨A11, c11, rfl, hS11, hb11⟩
        have HB11 : Stow (Below w.heap.size w w11) := ⟨Below.trans (Below.alloc HB9.out HB9.out.size _) (hb11.mono (Below.size (Below.alloc HB9.out HB9.out.size _)))⟩
        clear hb11
        cases rb with
        | none =>
          simp only [Option.getD_none, Option.isSome_none, Rs.zero, Rs.val, List.length_nil]
          go_wp2_with fail
          refine (known05_any _ (HM.out.keep (Below.alloc HB11.out HB11.out.size _))).mono ?_
          rintro e wk ⟨rfl, hbk⟩
          go_wp2_with fail
          go_ret
          exact ⟨rfl, Below.trans (Below.alloc HB11.out HB11.out.size _) (hbk.mono (Below.size (Below.alloc HB11.out HB11.out.size _)))⟩
        | some z =>
          simp only [Option.getD_some, Option.isSome_some] at hS11 ⊢
          have hs := Ms.readBack_some HRB.out
          have hz := Ms.checkBack_lens hs.1
          have hW : Ms.writeBack z = s := by unfold Ms.writeBack; rw [if_pos hs.1]; exact hs.2
          have hC := hs.1
          have HZ := Stow.mk (hz.2.2.2.hdr hS11)
          have KZ : Stow (∀ W1 : World, HdR W1 A11 c11 z.hs → Below w.heap.size w W1 → Calls Tryd.prog 37 #[z.val A11 c11] W1 fun e w' => e = .returned (.tuple #[.string (bs s), .int .i64 0]) ∧ Below W1.heap.size W1 w') := ⟨fun W1 h hB => by have := msWriteBack_any z A11 c11 W1 h (by omega) (HM.out.keep hB).pow; rw [hW, hC] at this; exact this⟩
          clear hs hz hW hC HRB hS11
          obtain ⟨zst, zhs, zb⟩ := z
          simp only [Rs.val] at KZ HZ ⊢
          have HQZ := rs_box w11 zst A11 zhs.length c11 zb
          go_wp2_with fail
          refine (KZ.out _ (HZ.out.alloc _) (Below.alloc HB11.out HB11.out.size _)).mono ?_
          rintro e w12 ⟨rfl, hb12⟩
          obtain ⟨hQZ, hBQ12⟩ := HQZ.out w12 hb12
          have HB12 : Stow (Below w.heap.size w w12) := ⟨HB11.out.trans (hBQ12.mono HB11.out.size)⟩
          clear hQZ hBQ12 hb12
          have zs3 : (s == s) = true := by simp
          go_wp2_with fail
          refine (known05_any _ (HM.out.keep HB12.out)).mono ?_
          rintro e wk ⟨rfl, hbk⟩
          go_wp2_with fail
          go_ret
          exact ⟨rfl, Below.trans HB12.out (hbk.mono (Below.size HB12.out))⟩
      | some y =>
        simp only [Option.getD_some, Option.isSome_some] at hS9 ⊢
        have hs := Ms.read_some HR.out
        have hz := Ms.check_lens hs.1
        have hW : Ms.write y = s := by unfold Ms.write; rw [if_pos hs.1]; exact hs.2
        have hC := hs.1
        have HY := Stow.mk (hz.2.2.2.2.hdr hS9)
        have KY : Stow (∀ W1 : World, HdR W1 A9 c9 y.hs → Calls Tryd.prog 33 #[y.val A9 c9] W1 fun e w' => e = .returned (.tuple #[.string (bs s), .int .i64 0]) ∧ Below W1.heap.size W1 w') := ⟨fun W1 h => by have := msWrite_any y A9 c9 W1 h ⟨by omega, by omega, by omega, by omega⟩; rw [hW, hC] at this; exact this⟩
        clear hs hz hW hC HR hS9
        obtain ⟨ym, yh, yp, yhs, yb⟩ := y
        simp only [Rq.val] at KY HY ⊢
        have HQY := rq_box w9 ym yh yp A9 yhs.length c9 yb
        go_wp2_with fail
        refine (KY.out _ (HY.out.alloc _)).mono ?_
        rintro e w10 ⟨rfl, hb10⟩
        obtain ⟨hQY, hBQ10⟩ := HQY.out w10 hb10
        have HB10 : Stow (Below w.heap.size w w10) := ⟨HB9.out.trans (hBQ10.mono HB9.out.size)⟩
        clear hQY hBQ10 hb10
        have ys3 : (s == s) = true := by simp
        go_wp2_with fail
        refine (msReadBack_any s _ HL.out (HM.out.keep HB10.out)).mono ?_
        unfold RsOf
        rw [HRB.out]
        rintro e w11 ⟨A11, c11, rfl, hS11, hb11⟩
        have HB11 : Stow (Below w.heap.size w w11) := ⟨Below.trans HB10.out (hb11.mono (Below.size HB10.out))⟩
        clear hb11
        cases rb with
        | none =>
          simp only [Option.getD_none, Option.isSome_none, Rs.zero, Rs.val, List.length_nil]
          go_wp2_with fail
          refine (known05_any _ (HM.out.keep (Below.alloc HB11.out HB11.out.size _))).mono ?_
          rintro e wk ⟨rfl, hbk⟩
          go_wp2_with fail
          go_ret
          exact ⟨rfl, Below.trans (Below.alloc HB11.out HB11.out.size _) (hbk.mono (Below.size (Below.alloc HB11.out HB11.out.size _)))⟩
        | some z =>
          simp only [Option.getD_some, Option.isSome_some] at hS11 ⊢
          have hs := Ms.readBack_some HRB.out
          have hz := Ms.checkBack_lens hs.1
          have hW : Ms.writeBack z = s := by unfold Ms.writeBack; rw [if_pos hs.1]; exact hs.2
          have hC := hs.1
          have HZ := Stow.mk (hz.2.2.2.hdr hS11)
          have KZ : Stow (∀ W1 : World, HdR W1 A11 c11 z.hs → Below w.heap.size w W1 → Calls Tryd.prog 37 #[z.val A11 c11] W1 fun e w' => e = .returned (.tuple #[.string (bs s), .int .i64 0]) ∧ Below W1.heap.size W1 w') := ⟨fun W1 h hB => by have := msWriteBack_any z A11 c11 W1 h (by omega) (HM.out.keep hB).pow; rw [hW, hC] at this; exact this⟩
          clear hs hz hW hC HRB hS11
          obtain ⟨zst, zhs, zb⟩ := z
          simp only [Rs.val] at KZ HZ ⊢
          have HQZ := rs_box w11 zst A11 zhs.length c11 zb
          go_wp2_with fail
          refine (KZ.out _ (HZ.out.alloc _) (Below.alloc HB11.out HB11.out.size _)).mono ?_
          rintro e w12 ⟨rfl, hb12⟩
          obtain ⟨hQZ, hBQ12⟩ := HQZ.out w12 hb12
          have HB12 : Stow (Below w.heap.size w w12) := ⟨HB11.out.trans (hBQ12.mono HB11.out.size)⟩
          clear hQZ hBQ12 hb12
          have zs3 : (s == s) = true := by simp
          go_wp2_with fail
          refine (known05_any _ (HM.out.keep HB12.out)).mono ?_
          rintro e wk ⟨rfl, hbk⟩
          go_wp2_with fail
          go_ret
          exact ⟨rfl, Below.trans HB12.out (hbk.mono (Below.size HB12.out))⟩
    · obtain ⟨hRT, htl⟩ := HCP.out hp0
      subst hp0
      have HRT := Stow.mk hRT
      clear hRT
      go_wp2_with fail
      refine (msReadBack_any tp _ htl (HM.out.keep HB6.out)).mono ?_
      unfold RsOf
      rw [HRT.out]
      rintro e w7 ⟨A7, c7, rfl, hS7, hb7⟩
      clear htl
      have HB7 : Stow (Below w.heap.size w w7) := ⟨HB6.out.trans (Below.mono hb7 HB6.out.size)⟩
      have HQ7 := Stow.mk (HQ6.out.kept hb7)
      have HP7 := Stow.mk (HP6.out.kept hb7)
      have HS7 := Stow.mk (HS6.out.keep hb7)
      have HT7 := Stow.mk (HT6.out.keep hb7)
      clear hb7
      simp only [Option.getD_some, Option.isSome_some, Rs.val] at hS7 ⊢
      have HU7 := Stow.mk hS7
      clear hS7
      have HZ7 := rs_box w7 st A7 hs2.length c7 b2
      have lq := HQ7.out.lt
      have lp := HP7.out.lt
      have a0 := HQ7.out.cell (i := 0) rfl
      have a1 := HQ7.out.cell (i := 1) rfl
      have a2 := HQ7.out.cell (i := 2) rfl
      have a3 := HQ7.out.cell (i := 3) rfl
      have a4 := HQ7.out.cell (i := 4) rfl
      have p0 := HP7.out.cell (i := 0) rfl
      have p1 := HP7.out.cell (i := 1) rfl
      have p2 := HP7.out.cell (i := 2) rfl
      have nq : (w7.heap.size == w.heap.size) = false := by simp; omega
      have np : (w7.heap.size == w.heap.size + 1) = false := by simp; omega
      go_wp2_with fail
      refine (KSB.out _ _ _ _ _ (HU7.out.alloc _) (HT7.out.slr.alloc _)).mono ?_
      rintro e w8 ⟨rfl, hb8⟩
      obtain ⟨hv8, hB8⟩ := HZ7.out w8 hb8
      clear a0 a1 a2 a3 a4 p0 p1 p2 nq np lq lp
      clear hv8 hb8
      have HB8 : Stow (Below w.heap.size w w8) := ⟨HB7.out.trans (Below.mono hB8 HB7.out.size)⟩
      have HQ8 := Stow.mk (HQ7.out.kept hB8)
      have HP8 := Stow.mk (HP7.out.kept hB8)
      have HS8 := Stow.mk (HS7.out.keep hB8)
      have HT8 := Stow.mk (HT7.out.keep hB8)
      clear hB8
      go_wp2_with fail
      refine (msRead_any s _ HL.out (HM.out.keep HB8.out)).mono ?_
      unfold RqOf
      rw [HR.out]
      rintro e w9 ⟨A9, c9, rfl, hS9, hb9⟩
      have HB9 : Stow (Below w.heap.size w w9) := ⟨Below.trans HB8.out (hb9.mono (Below.size HB8.out))⟩
      clear hb9
      cases r with
      | none =>
        simp only [Option.getD_none, Option.isSome_none, Rq.zero, Rq.val, List.length_nil]
        go_wp2_with fail
        refine (msReadBack_any s _ HL.out (HM.out.keep (Below.alloc HB9.out HB9.out.size _))).mono ?_
        unfold RsOf
        rw [HRB.out]
        rintro e w11 ⟨A11, c11, rfl, hS11, hb11⟩
        have HB11 : Stow (Below w.heap.size w w11) := ⟨Below.trans (Below.alloc HB9.out HB9.out.size _) (hb11.mono (Below.size (Below.alloc HB9.out HB9.out.size _)))⟩
        clear hb11
        cases rb with
        | none =>
          simp only [Option.getD_none, Option.isSome_none, Rs.zero, Rs.val, List.length_nil]
          go_wp2_with fail
          refine (known05_any _ (HM.out.keep (Below.alloc HB11.out HB11.out.size _))).mono ?_
          rintro e wk ⟨rfl, hbk⟩
          go_wp2_with fail
          go_ret
          exact ⟨rfl, Below.trans (Below.alloc HB11.out HB11.out.size _) (hbk.mono (Below.size (Below.alloc HB11.out HB11.out.size _)))⟩
        | some z =>
          simp only [Option.getD_some, Option.isSome_some] at hS11 ⊢
          have hs := Ms.readBack_some HRB.out
          have hz := Ms.checkBack_lens hs.1
          have hW : Ms.writeBack z = s := by unfold Ms.writeBack; rw [if_pos hs.1]; exact hs.2
          have hC := hs.1
          have HZ := Stow.mk (hz.2.2.2.hdr hS11)
          have KZ : Stow (∀ W1 : World, HdR W1 A11 c11 z.hs → Below w.heap.size w W1 → Calls Tryd.prog 37 #[z.val A11 c11] W1 fun e w' => e = .returned (.tuple #[.string (bs s), .int .i64 0]) ∧ Below W1.heap.size W1 w') := ⟨fun W1 h hB => by have := msWriteBack_any z A11 c11 W1 h (by omega) (HM.out.keep hB).pow; rw [hW, hC] at this; exact this⟩
          clear hs hz hW hC HRB hS11
          obtain ⟨zst, zhs, zb⟩ := z
          simp only [Rs.val] at KZ HZ ⊢
          have HQZ := rs_box w11 zst A11 zhs.length c11 zb
          go_wp2_with fail
          refine (KZ.out _ (HZ.out.alloc _) (Below.alloc HB11.out HB11.out.size _)).mono ?_
          rintro e w12 ⟨rfl, hb12⟩
          obtain ⟨hQZ, hBQ12⟩ := HQZ.out w12 hb12
          have HB12 : Stow (Below w.heap.size w w12) := ⟨HB11.out.trans (hBQ12.mono HB11.out.size)⟩
          clear hQZ hBQ12 hb12
          have zs3 : (s == s) = true := by simp
          go_wp2_with fail
          refine (known05_any _ (HM.out.keep HB12.out)).mono ?_
          rintro e wk ⟨rfl, hbk⟩
          go_wp2_with fail
          go_ret
          exact ⟨rfl, Below.trans HB12.out (hbk.mono (Below.size HB12.out))⟩
      | some y =>
        simp only [Option.getD_some, Option.isSome_some] at hS9 ⊢
        have hs := Ms.read_some HR.out
        have hz := Ms.check_lens hs.1
        have hW : Ms.write y = s := by unfold Ms.write; rw [if_pos hs.1]; exact hs.2
        have hC := hs.1
        have HY := Stow.mk (hz.2.2.2.2.hdr hS9)
        have KY : Stow (∀ W1 : World, HdR W1 A9 c9 y.hs → Calls Tryd.prog 33 #[y.val A9 c9] W1 fun e w' => e = .returned (.tuple #[.string (bs s), .int .i64 0]) ∧ Below W1.heap.size W1 w') := ⟨fun W1 h => by have := msWrite_any y A9 c9 W1 h ⟨by omega, by omega, by omega, by omega⟩; rw [hW, hC] at this; exact this⟩
        clear hs hz hW hC HR hS9
        obtain ⟨ym, yh, yp, yhs, yb⟩ := y
        simp only [Rq.val] at KY HY ⊢
        have HQY := rq_box w9 ym yh yp A9 yhs.length c9 yb
        go_wp2_with fail
        refine (KY.out _ (HY.out.alloc _)).mono ?_
        rintro e w10 ⟨rfl, hb10⟩
        obtain ⟨hQY, hBQ10⟩ := HQY.out w10 hb10
        have HB10 : Stow (Below w.heap.size w w10) := ⟨HB9.out.trans (hBQ10.mono HB9.out.size)⟩
        clear hQY hBQ10 hb10
        have ys3 : (s == s) = true := by simp
        go_wp2_with fail
        refine (msReadBack_any s _ HL.out (HM.out.keep HB10.out)).mono ?_
        unfold RsOf
        rw [HRB.out]
        rintro e w11 ⟨A11, c11, rfl, hS11, hb11⟩
        have HB11 : Stow (Below w.heap.size w w11) := ⟨Below.trans HB10.out (hb11.mono (Below.size HB10.out))⟩
        clear hb11
        cases rb with
        | none =>
          simp only [Option.getD_none, Option.isSome_none, Rs.zero, Rs.val, List.length_nil]
          go_wp2_with fail
          refine (known05_any _ (HM.out.keep (Below.alloc HB11.out HB11.out.size _))).mono ?_
          rintro e wk ⟨rfl, hbk⟩
          go_wp2_with fail
          go_ret
          exact ⟨rfl, Below.trans (Below.alloc HB11.out HB11.out.size _) (hbk.mono (Below.size (Below.alloc HB11.out HB11.out.size _)))⟩
        | some z =>
          simp only [Option.getD_some, Option.isSome_some] at hS11 ⊢
          have hs := Ms.readBack_some HRB.out
          have hz := Ms.checkBack_lens hs.1
          have hW : Ms.writeBack z = s := by unfold Ms.writeBack; rw [if_pos hs.1]; exact hs.2
          have hC := hs.1
          have HZ := Stow.mk (hz.2.2.2.hdr hS11)
          have KZ : Stow (∀ W1 : World, HdR W1 A11 c11 z.hs → Below w.heap.size w W1 → Calls Tryd.prog 37 #[z.val A11 c11] W1 fun e w' => e = .returned (.tuple #[.string (bs s), .int .i64 0]) ∧ Below W1.heap.size W1 w') := ⟨fun W1 h hB => by have := msWriteBack_any z A11 c11 W1 h (by omega) (HM.out.keep hB).pow; rw [hW, hC] at this; exact this⟩
          clear hs hz hW hC HRB hS11
          obtain ⟨zst, zhs, zb⟩ := z
          simp only [Rs.val] at KZ HZ ⊢
          have HQZ := rs_box w11 zst A11 zhs.length c11 zb
          go_wp2_with fail
          refine (KZ.out _ (HZ.out.alloc _) (Below.alloc HB11.out HB11.out.size _)).mono ?_
          rintro e w12 ⟨rfl, hb12⟩
          obtain ⟨hQZ, hBQ12⟩ := HQZ.out w12 hb12
          have HB12 : Stow (Below w.heap.size w w12) := ⟨HB11.out.trans (hBQ12.mono HB11.out.size)⟩
          clear hQZ hBQ12 hb12
          have zs3 : (s == s) = true := by simp
          go_wp2_with fail
          refine (known05_any _ (HM.out.keep HB12.out)).mono ?_
          rintro e wk ⟨rfl, hbk⟩
          go_wp2_with fail
          go_ret
          exact ⟨rfl, Below.trans HB12.out (hbk.mono (Below.size HB12.out))⟩
  · obtain ⟨hRT, htl⟩ := HC.out hc0
    subst hc0
    have HRT := Stow.mk hRT
    clear hRT
    go_wp2_with fail
    refine (msRead_any tt _ htl (HM.out.keep HB3.out)).mono ?_
    unfold RqOf
    rw [HRT.out]
    rintro e w4 ⟨A4, c4, rfl, hS4, hb4⟩
    clear htl
    have HB4 : Stow (Below w.heap.size w w4) := ⟨HB3.out.trans (Below.mono hb4 HB3.out.size)⟩
    have HQ4 := Stow.mk (HQ3.out.kept hb4)
    have HP4 := Stow.mk (HP3.out.kept hb4)
    have HS4 := Stow.mk (HS3.out.keep hb4)
    have HT4 := Stow.mk (HT3.out.keep hb4)
    clear hb4
    simp only [Option.getD_some, Option.isSome_some, Rq.val] at hS4 ⊢
    have HU4 := Stow.mk hS4
    clear hS4
    have HZ4 := rq_box w4 m h pa A4 hs1.length c4 b
    have lq := HQ4.out.lt
    have lp := HP4.out.lt
    have a0 := HQ4.out.cell (i := 0) rfl
    have a1 := HQ4.out.cell (i := 1) rfl
    have a2 := HQ4.out.cell (i := 2) rfl
    have a3 := HQ4.out.cell (i := 3) rfl
    have a4 := HQ4.out.cell (i := 4) rfl
    have p0 := HP4.out.cell (i := 0) rfl
    have p1 := HP4.out.cell (i := 1) rfl
    have p2 := HP4.out.cell (i := 2) rfl
    have nq : (w4.heap.size == w.heap.size) = false := by simp; omega
    have np : (w4.heap.size == w.heap.size + 1) = false := by simp; omega
    go_wp2_with fail
    refine (KS.out _ _ _ _ _ (HU4.out.alloc _) (HS4.out.slr.alloc _)).mono ?_
    rintro e w5 ⟨rfl, hb5⟩
    obtain ⟨hv5, hB5⟩ := HZ4.out w5 hb5
    clear a0 a1 a2 a3 a4 p0 p1 p2 nq np lq lp
    clear hv5 hb5
    have HB5 : Stow (Below w.heap.size w w5) := ⟨HB4.out.trans (Below.mono hB5 HB4.out.size)⟩
    have HQ5 := Stow.mk (HQ4.out.kept hB5)
    have HP5 := Stow.mk (HP4.out.kept hB5)
    have HS5 := Stow.mk (HS4.out.keep hB5)
    have HT5 := Stow.mk (HT4.out.keep hB5)
    clear hB5
    have lq := HQ5.out.lt
    have lp := HP5.out.lt
    have a0 := HQ5.out.cell (i := 0) rfl
    have a1 := HQ5.out.cell (i := 1) rfl
    have a2 := HQ5.out.cell (i := 2) rfl
    have a3 := HQ5.out.cell (i := 3) rfl
    have a4 := HQ5.out.cell (i := 4) rfl
    have p0 := HP5.out.cell (i := 0) rfl
    have p1 := HP5.out.cell (i := 1) rfl
    have p2 := HP5.out.cell (i := 2) rfl
    have nq : (w5.heap.size == w.heap.size) = false := by simp; omega
    have np : (w5.heap.size == w.heap.size + 1) = false := by simp; omega
    go_wp2_with fail
    refine (KWB.out _ HT5.out (HM.out.keep HB5.out).pow).mono ?_
    rintro e w6 ⟨rfl, hb6⟩
    clear a0 a1 a2 a3 a4 p0 p1 p2 nq np lq lp
    have HB6 : Stow (Below w.heap.size w w6) := ⟨HB5.out.trans (Below.mono hb6 HB5.out.size)⟩
    have HQ6 := Stow.mk (HQ5.out.kept hb6)
    have HP6 := Stow.mk (HP5.out.kept hb6)
    have HS6 := Stow.mk (HS5.out.keep hb6)
    have HT6 := Stow.mk (HT5.out.keep hb6)
    clear hb6
    by_cases hp0 : cp = 0
    rotate_left
    · have j0 : ((cp : Int) == 0) = false := by rw [beq_eq_false_iff_ne]; omega
      go_wp2_with fail
      refine (msRead_any s _ HL.out (HM.out.keep HB6.out)).mono ?_
      unfold RqOf
      rw [HR.out]
      rintro e w9 ⟨A9, c9, rfl, hS9, hb9⟩
      have HB9 : Stow (Below w.heap.size w w9) := ⟨Below.trans HB6.out (hb9.mono (Below.size HB6.out))⟩
      clear hb9
      cases r with
      | none =>
        simp only [Option.getD_none, Option.isSome_none, Rq.zero, Rq.val, List.length_nil]
        go_wp2_with fail
        refine (msReadBack_any s _ HL.out (HM.out.keep (Below.alloc HB9.out HB9.out.size _))).mono ?_
        unfold RsOf
        rw [HRB.out]
        rintro e w11 ⟨A11, c11, rfl, hS11, hb11⟩
        have HB11 : Stow (Below w.heap.size w w11) := ⟨Below.trans (Below.alloc HB9.out HB9.out.size _) (hb11.mono (Below.size (Below.alloc HB9.out HB9.out.size _)))⟩
        clear hb11
        cases rb with
        | none =>
          simp only [Option.getD_none, Option.isSome_none, Rs.zero, Rs.val, List.length_nil]
          go_wp2_with fail
          refine (known05_any _ (HM.out.keep (Below.alloc HB11.out HB11.out.size _))).mono ?_
          rintro e wk ⟨rfl, hbk⟩
          go_wp2_with fail
          go_ret
          exact ⟨rfl, Below.trans (Below.alloc HB11.out HB11.out.size _) (hbk.mono (Below.size (Below.alloc HB11.out HB11.out.size _)))⟩
        | some z =>
          simp only [Option.getD_some, Option.isSome_some] at hS11 ⊢
          have hs := Ms.readBack_some HRB.out
          have hz := Ms.checkBack_lens hs.1
          have hW : Ms.writeBack z = s := by unfold Ms.writeBack; rw [if_pos hs.1]; exact hs.2
          have hC := hs.1
          have HZ := Stow.mk (hz.2.2.2.hdr hS11)
          have KZ : Stow (∀ W1 : World, HdR W1 A11 c11 z.hs → Below w.heap.size w W1 → Calls Tryd.prog 37 #[z.val A11 c11] W1 fun e w' => e = .returned (.tuple #[.string (bs s), .int .i64 0]) ∧ Below W1.heap.size W1 w') := ⟨fun W1 h hB => by have := msWriteBack_any z A11 c11 W1 h (by omega) (HM.out.keep hB).pow; rw [hW, hC] at this; exact this⟩
          clear hs hz hW hC HRB hS11
          obtain ⟨zst, zhs, zb⟩ := z
          simp only [Rs.val] at KZ HZ ⊢
          have HQZ := rs_box w11 zst A11 zhs.length c11 zb
          go_wp2_with fail
          refine (KZ.out _ (HZ.out.alloc _) (Below.alloc HB11.out HB11.out.size _)).mono ?_
          rintro e w12 ⟨rfl, hb12⟩
          obtain ⟨hQZ, hBQ12⟩ := HQZ.out w12 hb12
          have HB12 : Stow (Below w.heap.size w w12) := ⟨HB11.out.trans (hBQ12.mono HB11.out.size)⟩
          clear hQZ hBQ12 hb12
          have zs3 : (s == s) = true := by simp
          go_wp2_with fail
          refine (known05_any _ (HM.out.keep HB12.out)).mono ?_
          rintro e wk ⟨rfl, hbk⟩
          go_wp2_with fail
          go_ret
          exact ⟨rfl, Below.trans HB12.out (hbk.mono (Below.size HB12.out))⟩
      | some y =>
        simp only [Option.getD_some, Option.isSome_some] at hS9 ⊢
        have hs := Ms.read_some HR.out
        have hz := Ms.check_lens hs.1
        have hW : Ms.write y = s := by unfold Ms.write; rw [if_pos hs.1]; exact hs.2
        have hC := hs.1
        have HY := Stow.mk (hz.2.2.2.2.hdr hS9)
        have KY : Stow (∀ W1 : World, HdR W1 A9 c9 y.hs → Calls Tryd.prog 33 #[y.val A9 c9] W1 fun e w' => e = .returned (.tuple #[.string (bs s), .int .i64 0]) ∧ Below W1.heap.size W1 w') := ⟨fun W1 h => by have := msWrite_any y A9 c9 W1 h ⟨by omega, by omega, by omega, by omega⟩; rw [hW, hC] at this; exact this⟩
        clear hs hz hW hC HR hS9
        obtain ⟨ym, yh, yp, yhs, yb⟩ := y
        simp only [Rq.val] at KY HY ⊢
        have HQY := rq_box w9 ym yh yp A9 yhs.length c9 yb
        go_wp2_with fail
        refine (KY.out _ (HY.out.alloc _)).mono ?_
        rintro e w10 ⟨rfl, hb10⟩
        obtain ⟨hQY, hBQ10⟩ := HQY.out w10 hb10
        have HB10 : Stow (Below w.heap.size w w10) := ⟨HB9.out.trans (hBQ10.mono HB9.out.size)⟩
        clear hQY hBQ10 hb10
        have ys3 : (s == s) = true := by simp
        go_wp2_with fail
        refine (msReadBack_any s _ HL.out (HM.out.keep HB10.out)).mono ?_
        unfold RsOf
        rw [HRB.out]
        rintro e w11 ⟨A11, c11, rfl, hS11, hb11⟩
        have HB11 : Stow (Below w.heap.size w w11) := ⟨Below.trans HB10.out (hb11.mono (Below.size HB10.out))⟩
        clear hb11
        cases rb with
        | none =>
          simp only [Option.getD_none, Option.isSome_none, Rs.zero, Rs.val, List.length_nil]
          go_wp2_with fail
          refine (known05_any _ (HM.out.keep (Below.alloc HB11.out HB11.out.size _))).mono ?_
          rintro e wk ⟨rfl, hbk⟩
          go_wp2_with fail
          go_ret
          exact ⟨rfl, Below.trans (Below.alloc HB11.out HB11.out.size _) (hbk.mono (Below.size (Below.alloc HB11.out HB11.out.size _)))⟩
        | some z =>
          simp only [Option.getD_some, Option.isSome_some] at hS11 ⊢
          have hs := Ms.readBack_some HRB.out
          have hz := Ms.checkBack_lens hs.1
          have hW : Ms.writeBack z = s := by unfold Ms.writeBack; rw [if_pos hs.1]; exact hs.2
          have hC := hs.1
          have HZ := Stow.mk (hz.2.2.2.hdr hS11)
          have KZ : Stow (∀ W1 : World, HdR W1 A11 c11 z.hs → Below w.heap.size w W1 → Calls Tryd.prog 37 #[z.val A11 c11] W1 fun e w' => e = .returned (.tuple #[.string (bs s), .int .i64 0]) ∧ Below W1.heap.size W1 w') := ⟨fun W1 h hB => by have := msWriteBack_any z A11 c11 W1 h (by omega) (HM.out.keep hB).pow; rw [hW, hC] at this; exact this⟩
          clear hs hz hW hC HRB hS11
          obtain ⟨zst, zhs, zb⟩ := z
          simp only [Rs.val] at KZ HZ ⊢
          have HQZ := rs_box w11 zst A11 zhs.length c11 zb
          go_wp2_with fail
          refine (KZ.out _ (HZ.out.alloc _) (Below.alloc HB11.out HB11.out.size _)).mono ?_
          rintro e w12 ⟨rfl, hb12⟩
          obtain ⟨hQZ, hBQ12⟩ := HQZ.out w12 hb12
          have HB12 : Stow (Below w.heap.size w w12) := ⟨HB11.out.trans (hBQ12.mono HB11.out.size)⟩
          clear hQZ hBQ12 hb12
          have zs3 : (s == s) = true := by simp
          go_wp2_with fail
          refine (known05_any _ (HM.out.keep HB12.out)).mono ?_
          rintro e wk ⟨rfl, hbk⟩
          go_wp2_with fail
          go_ret
          exact ⟨rfl, Below.trans HB12.out (hbk.mono (Below.size HB12.out))⟩
    · obtain ⟨hRT, htl⟩ := HCP.out hp0
      subst hp0
      have HRT := Stow.mk hRT
      clear hRT
      go_wp2_with fail
      refine (msReadBack_any tp _ htl (HM.out.keep HB6.out)).mono ?_
      unfold RsOf
      rw [HRT.out]
      rintro e w7 ⟨A7, c7, rfl, hS7, hb7⟩
      clear htl
      have HB7 : Stow (Below w.heap.size w w7) := ⟨HB6.out.trans (Below.mono hb7 HB6.out.size)⟩
      have HQ7 := Stow.mk (HQ6.out.kept hb7)
      have HP7 := Stow.mk (HP6.out.kept hb7)
      have HS7 := Stow.mk (HS6.out.keep hb7)
      have HT7 := Stow.mk (HT6.out.keep hb7)
      clear hb7
      simp only [Option.getD_some, Option.isSome_some, Rs.val] at hS7 ⊢
      have HU7 := Stow.mk hS7
      clear hS7
      have HZ7 := rs_box w7 st A7 hs2.length c7 b2
      have lq := HQ7.out.lt
      have lp := HP7.out.lt
      have a0 := HQ7.out.cell (i := 0) rfl
      have a1 := HQ7.out.cell (i := 1) rfl
      have a2 := HQ7.out.cell (i := 2) rfl
      have a3 := HQ7.out.cell (i := 3) rfl
      have a4 := HQ7.out.cell (i := 4) rfl
      have p0 := HP7.out.cell (i := 0) rfl
      have p1 := HP7.out.cell (i := 1) rfl
      have p2 := HP7.out.cell (i := 2) rfl
      have nq : (w7.heap.size == w.heap.size) = false := by simp; omega
      have np : (w7.heap.size == w.heap.size + 1) = false := by simp; omega
      go_wp2_with fail
      refine (KSB.out _ _ _ _ _ (HU7.out.alloc _) (HT7.out.slr.alloc _)).mono ?_
      rintro e w8 ⟨rfl, hb8⟩
      obtain ⟨hv8, hB8⟩ := HZ7.out w8 hb8
      clear a0 a1 a2 a3 a4 p0 p1 p2 nq np lq lp
      clear hv8 hb8
      have HB8 : Stow (Below w.heap.size w w8) := ⟨HB7.out.trans (Below.mono hB8 HB7.out.size)⟩
      have HQ8 := Stow.mk (HQ7.out.kept hB8)
      have HP8 := Stow.mk (HP7.out.kept hB8)
      have HS8 := Stow.mk (HS7.out.keep hB8)
      have HT8 := Stow.mk (HT7.out.keep hB8)
      clear hB8
      go_wp2_with fail
      refine (msRead_any s _ HL.out (HM.out.keep HB8.out)).mono ?_
      unfold RqOf
      rw [HR.out]
      rintro e w9 ⟨A9, c9, rfl, hS9, hb9⟩
      have HB9 : Stow (Below w.heap.size w w9) := ⟨Below.trans HB8.out (hb9.mono (Below.size HB8.out))⟩
      clear hb9
      cases r with
      | none =>
        simp only [Option.getD_none, Option.isSome_none, Rq.zero, Rq.val, List.length_nil]
        go_wp2_with fail
        refine (msReadBack_any s _ HL.out (HM.out.keep (Below.alloc HB9.out HB9.out.size _))).mono ?_
        unfold RsOf
        rw [HRB.out]
        rintro e w11 ⟨A11, c11, rfl, hS11, hb11⟩
        have HB11 : Stow (Below w.heap.size w w11) := ⟨Below.trans (Below.alloc HB9.out HB9.out.size _) (hb11.mono (Below.size (Below.alloc HB9.out HB9.out.size _)))⟩
        clear hb11
        cases rb with
        | none =>
          simp only [Option.getD_none, Option.isSome_none, Rs.zero, Rs.val, List.length_nil]
          go_wp2_with fail
          refine (known05_any _ (HM.out.keep (Below.alloc HB11.out HB11.out.size _))).mono ?_
          rintro e wk ⟨rfl, hbk⟩
          go_wp2_with fail
          go_ret
          exact ⟨rfl, Below.trans (Below.alloc HB11.out HB11.out.size _) (hbk.mono (Below.size (Below.alloc HB11.out HB11.out.size _)))⟩
        | some z =>
          simp only [Option.getD_some, Option.isSome_some] at hS11 ⊢
          have hs := Ms.readBack_some HRB.out
          have hz := Ms.checkBack_lens hs.1
          have hW : Ms.writeBack z = s := by unfold Ms.writeBack; rw [if_pos hs.1]; exact hs.2
          have hC := hs.1
          have HZ := Stow.mk (hz.2.2.2.hdr hS11)
          have KZ : Stow (∀ W1 : World, HdR W1 A11 c11 z.hs → Below w.heap.size w W1 → Calls Tryd.prog 37 #[z.val A11 c11] W1 fun e w' => e = .returned (.tuple #[.string (bs s), .int .i64 0]) ∧ Below W1.heap.size W1 w') := ⟨fun W1 h hB => by have := msWriteBack_any z A11 c11 W1 h (by omega) (HM.out.keep hB).pow; rw [hW, hC] at this; exact this⟩
          clear hs hz hW hC HRB hS11
          obtain ⟨zst, zhs, zb⟩ := z
          simp only [Rs.val] at KZ HZ ⊢
          have HQZ := rs_box w11 zst A11 zhs.length c11 zb
          go_wp2_with fail
          refine (KZ.out _ (HZ.out.alloc _) (Below.alloc HB11.out HB11.out.size _)).mono ?_
          rintro e w12 ⟨rfl, hb12⟩
          obtain ⟨hQZ, hBQ12⟩ := HQZ.out w12 hb12
          have HB12 : Stow (Below w.heap.size w w12) := ⟨HB11.out.trans (hBQ12.mono HB11.out.size)⟩
          clear hQZ hBQ12 hb12
          have zs3 : (s == s) = true := by simp
          go_wp2_with fail
          refine (known05_any _ (HM.out.keep HB12.out)).mono ?_
          rintro e wk ⟨rfl, hbk⟩
          go_wp2_with fail
          go_ret
          exact ⟨rfl, Below.trans HB12.out (hbk.mono (Below.size HB12.out))⟩
      | some y =>
        simp only [Option.getD_some, Option.isSome_some] at hS9 ⊢
        have hs := Ms.read_some HR.out
        have hz := Ms.check_lens hs.1
        have hW : Ms.write y = s := by unfold Ms.write; rw [if_pos hs.1]; exact hs.2
        have hC := hs.1
        have HY := Stow.mk (hz.2.2.2.2.hdr hS9)
        have KY : Stow (∀ W1 : World, HdR W1 A9 c9 y.hs → Calls Tryd.prog 33 #[y.val A9 c9] W1 fun e w' => e = .returned (.tuple #[.string (bs s), .int .i64 0]) ∧ Below W1.heap.size W1 w') := ⟨fun W1 h => by have := msWrite_any y A9 c9 W1 h ⟨by omega, by omega, by omega, by omega⟩; rw [hW, hC] at this; exact this⟩
        clear hs hz hW hC HR hS9
        obtain ⟨ym, yh, yp, yhs, yb⟩ := y
        simp only [Rq.val] at KY HY ⊢
        have HQY := rq_box w9 ym yh yp A9 yhs.length c9 yb
        go_wp2_with fail
        refine (KY.out _ (HY.out.alloc _)).mono ?_
        rintro e w10 ⟨rfl, hb10⟩
        obtain ⟨hQY, hBQ10⟩ := HQY.out w10 hb10
        have HB10 : Stow (Below w.heap.size w w10) := ⟨HB9.out.trans (hBQ10.mono HB9.out.size)⟩
        clear hQY hBQ10 hb10
        have ys3 : (s == s) = true := by simp
        go_wp2_with fail
        refine (msReadBack_any s _ HL.out (HM.out.keep HB10.out)).mono ?_
        unfold RsOf
        rw [HRB.out]
        rintro e w11 ⟨A11, c11, rfl, hS11, hb11⟩
        have HB11 : Stow (Below w.heap.size w w11) := ⟨Below.trans HB10.out (hb11.mono (Below.size HB10.out))⟩
        clear hb11
        cases rb with
        | none =>
          simp only [Option.getD_none, Option.isSome_none, Rs.zero, Rs.val, List.length_nil]
          go_wp2_with fail
          refine (known05_any _ (HM.out.keep (Below.alloc HB11.out HB11.out.size _))).mono ?_
          rintro e wk ⟨rfl, hbk⟩
          go_wp2_with fail
          go_ret
          exact ⟨rfl, Below.trans (Below.alloc HB11.out HB11.out.size _) (hbk.mono (Below.size (Below.alloc HB11.out HB11.out.size _)))⟩
        | some z =>
          simp only [Option.getD_some, Option.isSome_some] at hS11 ⊢
          have hs := Ms.readBack_some HRB.out
          have hz := Ms.checkBack_lens hs.1
          have hW : Ms.writeBack z = s := by unfold Ms.writeBack; rw [if_pos hs.1]; exact hs.2
          have hC := hs.1
          have HZ := Stow.mk (hz.2.2.2.hdr hS11)
          have KZ : Stow (∀ W1 : World, HdR W1 A11 c11 z.hs → Below w.heap.size w W1 → Calls Tryd.prog 37 #[z.val A11 c11] W1 fun e w' => e = .returned (.tuple #[.string (bs s), .int .i64 0]) ∧ Below W1.heap.size W1 w') := ⟨fun W1 h hB => by have := msWriteBack_any z A11 c11 W1 h (by omega) (HM.out.keep hB).pow; rw [hW, hC] at this; exact this⟩
          clear hs hz hW hC HRB hS11
          obtain ⟨zst, zhs, zb⟩ := z
          simp only [Rs.val] at KZ HZ ⊢
          have HQZ := rs_box w11 zst A11 zhs.length c11 zb
          go_wp2_with fail
          refine (KZ.out _ (HZ.out.alloc _) (Below.alloc HB11.out HB11.out.size _)).mono ?_
          rintro e w12 ⟨rfl, hb12⟩
          obtain ⟨hQZ, hBQ12⟩ := HQZ.out w12 hb12
          have HB12 : Stow (Below w.heap.size w w12) := ⟨HB11.out.trans (hBQ12.mono HB11.out.size)⟩
          clear hQZ hBQ12 hb12
          have zs3 : (s == s) = true := by simp
          go_wp2_with fail
          refine (known05_any _ (HM.out.keep HB12.out)).mono ?_
          rintro e wk ⟨rfl, hbk⟩
          go_wp2_with fail
          go_ret
          exact ⟨rfl, Below.trans HB12.out (hbk.mono (Below.size HB12.out))⟩
end Go.Proofs.YtbnaicgomabigaaDoor
