/- Walks of the laws MsgWrites, MsgAnswers, MsgReads. Conditions: what the form's reach gives; what the library's variables hold. -/
import Derived.Test.YtbnaicgomabigaaDoorMsKnown
namespace Go.Proofs.YtbnaicgomabigaaDoor
open Go.RowKit
set_option linter.unusedVariables false

set_option maxHeartbeats 4000000 in
set_option maxRecDepth 100000 in
theorem writes05 (q : Rq) (A : Option Addr) (cap : Nat) (w : World) (hS : HdR w A cap q.hs) (hq : q.fits) (hm : PgEnv w) :
    Calls Tryd.prog 8 #[q.val A cap] w fun e w' => e = .returned (.bool true) ∧ Below w.heap.size w w' := by
  have HM := Stow.mk hm
  have HS := Stow.mk hS
  have HQ := Stow.mk hq
  clear hm hS hq
  obtain ⟨cc, hcc⟩ : ∃ c, Ms.check q = c := ⟨_, rfl⟩
  obtain ⟨tt, htt⟩ : ∃ c, Ms.write q = c := ⟨_, rfl⟩
  have KW := fun W h1 => msWrite_any q A cap W h1 HQ.out
  have KR := fun W h1 => msRefWrite_any q A cap W h1 HQ.out
  have K1 := fun W h1 => msCheck_any q A cap W h1 HQ.out
  have K2 := fun W h1 => refCheck_any q A cap W h1 HQ.out
  simp only [hcc, htt] at KW KR K1 K2
  obtain ⟨f, hfw⟩ : ∃ f, fewQ q.m q.h q.p q.b q.hs = f := ⟨_, rfl⟩
  have KF := fun W h1 => fewQ_any q.m q.h q.p q.b q.hs A cap W h1 HQ.out.m HQ.out.h HQ.out.p HQ.out.b HS.out.few
  simp only [hfw] at KF
  have HKW := Stow.mk KW
  have HKR := Stow.mk KR
  have HK1 := Stow.mk K1
  have HK2 := Stow.mk K2
  have HKF := Stow.mk KF
  clear KW KR K1 K2 KF hcc htt hfw
  obtain ⟨m, h, p, hs, b⟩ := q
  unfold Rq.val at HKW HKR HK1 HK2 ⊢
  simp only at HKW HKR HK1 HK2 HKF HS ⊢
  have HX := rq_box w m h p A hs.length cap b
  go_enter Tryd.func8, Tryd.ntmps8
  go_wp2_with fail
  refine (HKF.out _ (HS.out.alloc _).slr).mono ?_
  rintro e w1 ⟨rfl, hb1⟩
  obtain ⟨hX1, hB1⟩ := HX.out w1 hb1
  have HX1 := Stow.mk hX1
  have HB1 := Stow.mk hB1
  have HS1 := Stow.mk ((HS.out.alloc _).keep hb1)
  have a0 := hX1.cell (i := 0) rfl
  have a1 := hX1.cell (i := 1) rfl
  have a2 := hX1.cell (i := 2) rfl
  have a3 := hX1.cell (i := 3) rfl
  have a4 := hX1.cell (i := 4) rfl
  clear hX1 hB1 hb1
  cases f
  · go_wp2_with fail
    refine (known05_any _ (HM.out.keep HB1.out)).mono ?_
    rintro e wk ⟨rfl, hbk⟩
    go_wp2_with fail
    go_ret
    exact ⟨rfl, Below.trans HB1.out (hbk.mono (Below.size HB1.out))⟩
  go_wp2_with fail
  refine (HKW.out _ HS1.out).mono ?_
  rintro e w2 ⟨rfl, hb2⟩
  have HX2 := Stow.mk (HX1.out.kept hb2)
  have HB2 := Stow.mk (Below.call HB1.out hb2)
  have HS2 := Stow.mk (HS1.out.keep hb2)
  clear hb2 a0 a1 a2 a3 a4
  have a0 := HX2.out.cell (i := 0) rfl
  have a1 := HX2.out.cell (i := 1) rfl
  have a2 := HX2.out.cell (i := 2) rfl
  have a3 := HX2.out.cell (i := 3) rfl
  have a4 := HX2.out.cell (i := 4) rfl
  go_wp2_with fail
  refine (HKR.out _ HS2.out).mono ?_
  rintro e W ⟨rfl, hb3⟩
  have hX3 := HX2.out.kept hb3
  have HBW := Stow.mk (Below.call HB2.out hb3)
  have HSW := Stow.mk (HS2.out.keep hb3)
  have ltX := hX3.lt
  clear hb3 a0 a1 a2 a3 a4
  have a0 : ∀ x : Later W.heap.size W, x.1.cell? ⟨w.heap.size, 0, none⟩ = _ := fun x => x.cell (hX3.cell (i := 0) rfl) ltX
  have a1 : ∀ x : Later W.heap.size W, x.1.cell? ⟨w.heap.size, 1, none⟩ = _ := fun x => x.cell (hX3.cell (i := 1) rfl) ltX
  have a2 : ∀ x : Later W.heap.size W, x.1.cell? ⟨w.heap.size, 2, none⟩ = _ := fun x => x.cell (hX3.cell (i := 2) rfl) ltX
  have a3 : ∀ x : Later W.heap.size W, x.1.cell? ⟨w.heap.size, 3, none⟩ = _ := fun x => x.cell (hX3.cell (i := 3) rfl) ltX
  have a4 : ∀ x : Later W.heap.size W, x.1.cell? ⟨w.heap.size, 4, none⟩ = _ := fun x => x.cell (hX3.cell (i := 4) rfl) ltX
  have LB : Stow (∀ x : Later W.heap.size W, Below w.heap.size w x.1) := ⟨fun x => HBW.out.trans (x.2.mono HBW.out.size)⟩
  have z1 : ((cc : Int) == (cc : Int)) = true := by simp
  have z3 : (tt == tt) = true := by simp
  clear hX3
  go_wp2_with fail
  refine wp_region_later W.heap.size (by kernel_rfl) (by kernel_rfl) ?_
  repeat (go_big_quiet_step (first
    | (go_at_call 35; exact Calls.later (Nat.le_refl _) (HK1.out _ (HSW.out.keep (Subtype.property _))))
    | (go_at_call 36; exact Calls.later (Nat.le_refl _) (HK2.out _ (HSW.out.keep (Subtype.property _))))
    | (go_at_call 32; exact Calls.later (Nat.le_refl _) (known05_any _ (HM.out.keep (LB.out _))))))
  refine wpQuiet_nil ?_
  rintro ⟨wx, hbx⟩
  clear a0 a1 a2 a3 a4
  go_wp2_with fail
  go_ret
  exact ⟨by first | rfl | simp, Below.trans HBW.out (hbx.mono HBW.out.size)⟩

set_option maxHeartbeats 4000000 in
set_option maxRecDepth 100000 in
theorem answers05 (q : Rs) (A : Option Addr) (cap : Nat) (w : World) (hS : HdR w A cap q.hs) (hb : q.b.length ≤ 140737488355328) (hm : PgEnv w) :
    Calls Tryd.prog 9 #[q.val A cap] w fun e w' => e = .returned (.bool true) ∧ Below w.heap.size w w' := by
  have HM := Stow.mk hm
  have HS := Stow.mk hS
  clear hm hS
  obtain ⟨cc, hcc⟩ : ∃ c, Ms.checkBack q = c := ⟨_, rfl⟩
  obtain ⟨tt, htt⟩ : ∃ c, Ms.writeBack q = c := ⟨_, rfl⟩
  have KW := fun W h1 h2 => msWriteBack_any q A cap W h1 hb h2
  have KR := fun W h1 => msRefWriteBack_any q A cap W h1 hb
  have K1 := fun W h1 => msCheckBack_any q A cap W h1 hb
  have K2 := fun W h1 => refCheckBack_any q A cap W h1 hb
  simp only [hcc, htt] at KW KR K1 K2
  obtain ⟨f, hfw⟩ : ∃ f, fewH q.hs = f := ⟨_, rfl⟩
  have KF := fun W h1 => few04_any q.hs A cap W h1
  simp only [hfw] at KF
  have HKW := Stow.mk KW
  have HKR := Stow.mk KR
  have HK1 := Stow.mk K1
  have HK2 := Stow.mk K2
  have HKF := Stow.mk KF
  clear KW KR K1 K2 KF hcc htt hfw
  obtain ⟨st, hs, b⟩ := q
  unfold Rs.val at HKW HKR HK1 HK2 ⊢
  simp only at HKW HKR HK1 HK2 HKF HS hb ⊢
  have HX := rs_box w st A hs.length cap b
  have hB0 := (HX.out _ (Below.refl _ _)).2
  by_cases h2000 : 2000 < b.length
  · go_enter Tryd.func9, Tryd.ntmps9
    go_wp2_with fail
    refine (known05_any _ (HM.out.keep hB0)).mono ?_
    rintro e wk ⟨rfl, hbk⟩
    go_wp2_with fail
    go_ret
    exact ⟨rfl, Below.trans hB0 (hbk.mono (Below.size hB0))⟩
  clear hB0
  go_enter Tryd.func9, Tryd.ntmps9
  go_wp2_with fail
  refine (HKF.out _ (HS.out.alloc _)).mono ?_
  rintro e w1 ⟨rfl, hb1⟩
  obtain ⟨hX1, hB1⟩ := HX.out w1 hb1
  have HX1 := Stow.mk hX1
  have HB1 := Stow.mk hB1
  have HS1 := Stow.mk ((HS.out.alloc _).keep hb1)
  have a0 := hX1.cell (i := 0) rfl
  have a1 := hX1.cell (i := 1) rfl
  have a2 := hX1.cell (i := 2) rfl
  clear hX1 hB1 hb1
  cases f
  · go_wp2_with fail
    refine (known05_any _ (HM.out.keep HB1.out)).mono ?_
    rintro e wk ⟨rfl, hbk⟩
    go_wp2_with fail
    go_ret
    exact ⟨rfl, Below.trans HB1.out (hbk.mono (Below.size HB1.out))⟩
  go_wp2_with fail
  refine (HKW.out _ HS1.out (HM.out.keep HB1.out).pow).mono ?_
  rintro e w2 ⟨rfl, hb2⟩
  have HX2 := Stow.mk (HX1.out.kept hb2)
  have HB2 := Stow.mk (Below.call HB1.out hb2)
  have HS2 := Stow.mk (HS1.out.keep hb2)
  clear hb2 a0 a1 a2
  have a0 := HX2.out.cell (i := 0) rfl
  have a1 := HX2.out.cell (i := 1) rfl
  have a2 := HX2.out.cell (i := 2) rfl
  go_wp2_with fail
  refine (HKR.out _ HS2.out).mono ?_
  rintro e W ⟨rfl, hb3⟩
  have hX3 := HX2.out.kept hb3
  have HBW := Stow.mk (Below.call HB2.out hb3)
  have HSW := Stow.mk (HS2.out.keep hb3)
  have ltX := hX3.lt
  clear hb3 a0 a1 a2
  have a0 : ∀ x : Later W.heap.size W, x.1.cell? ⟨w.heap.size, 0, none⟩ = _ := fun x => x.cell (hX3.cell (i := 0) rfl) ltX
  have a1 : ∀ x : Later W.heap.size W, x.1.cell? ⟨w.heap.size, 1, none⟩ = _ := fun x => x.cell (hX3.cell (i := 1) rfl) ltX
  have a2 : ∀ x : Later W.heap.size W, x.1.cell? ⟨w.heap.size, 2, none⟩ = _ := fun x => x.cell (hX3.cell (i := 2) rfl) ltX
  have LB : Stow (∀ x : Later W.heap.size W, Below w.heap.size w x.1) := ⟨fun x => HBW.out.trans (x.2.mono HBW.out.size)⟩
  have z1 : ((cc : Int) == (cc : Int)) = true := by simp
  have z3 : (tt == tt) = true := by simp
  clear hX3
  go_wp2_with fail
  refine wp_region_later W.heap.size (by kernel_rfl) (by kernel_rfl) ?_
  repeat (go_big_quiet_step (first
    | (go_at_call 39; exact Calls.later (Nat.le_refl _) (HK1.out _ (HSW.out.keep (Subtype.property _))))
    | (go_at_call 40; exact Calls.later (Nat.le_refl _) (HK2.out _ (HSW.out.keep (Subtype.property _))))
    | (go_at_call 32; exact Calls.later (Nat.le_refl _) (known05_any _ (HM.out.keep (LB.out _))))))
  refine wpQuiet_nil ?_
  rintro ⟨wx, hbx⟩
  clear a0 a1 a2
  go_wp2_with fail
  go_ret
  exact ⟨by first | rfl | simp, Below.trans HBW.out (hbx.mono HBW.out.size)⟩

set_option maxHeartbeats 4000000 in
set_option maxRecDepth 100000 in
theorem reads05 (s : List UInt8) (w : World) (hl : s.length ≤ 140737488355328) (hm : PgEnv w) :
    Calls Tryd.prog 10 #[.string (bs s)] w fun e w' => e = .returned (.bool true) ∧ Below w.heap.size w w' := by
  have HM := Stow.mk hm
  clear hm
  have hB0 := Below.self w
  by_cases h3 : 3000 < s.length
  · go_enter Tryd.func10, Tryd.ntmps10
    go_wp2_with fail
    refine (known05_any _ (HM.out.keep hB0)).mono ?_
    rintro e wk ⟨rfl, hbk⟩
    go_wp2_with fail
    go_ret
    exact ⟨rfl, Below.trans hB0 (hbk.mono (Below.size hB0))⟩
  clear hB0
  have hs : s.length < 2147483647 := by omega
  obtain ⟨q, hq⟩ : ∃ q, (Ms.read s).getD Rq.zero = q := ⟨_, rfl⟩
  obtain ⟨i, hi⟩ : ∃ q : Int, (if (Ms.read s).isSome then (0 : Int) else 3) = q := ⟨_, rfl⟩
  obtain ⟨p, hp⟩ : ∃ q, (Ms.readBack s).getD Rs.zero = q := ⟨_, rfl⟩
  obtain ⟨k, hk⟩ : ∃ q : Int, (if (Ms.readBack s).isSome then (0 : Int) else 3) = q := ⟨_, rfl⟩
  have K1 : Stow (∀ W, PgEnv W → Calls Tryd.prog 41 #[.string (bs s)] W fun e w' => ∃ A cap, e = .returned (.tuple #[q.val A cap, .int .i64 i]) ∧ SlR w' 2 (.slice A q.hs.length cap) (q.hs.map Hd.cells) ∧ Below W.heap.size W w') := ⟨fun W h => (msRead_any s W hs h).mono fun e w' h => by unfold RqOf at h; rw [hq, hi] at h; exact h⟩
  have K2 : Stow (∀ W, Calls Tryd.prog 42 #[.string (bs s)] W fun e w' => ∃ A cap, e = .returned (.tuple #[q.val A cap, .int .i64 i]) ∧ SlR w' 2 (.slice A q.hs.length cap) (q.hs.map Hd.cells) ∧ Below W.heap.size W w') := ⟨fun W => (msRefRead_any s W hs).mono fun e w' h => by unfold RqOf at h; rw [hq, hi] at h; exact h⟩
  have K3 : Stow (∀ W, PgEnv W → Calls Tryd.prog 43 #[.string (bs s)] W fun e w' => ∃ A cap, e = .returned (.tuple #[p.val A cap, .int .i64 k]) ∧ SlR w' 2 (.slice A p.hs.length cap) (p.hs.map Hd.cells) ∧ Below W.heap.size W w') := ⟨fun W h => (msReadBack_any s W hs h).mono fun e w' h => by unfold RsOf at h; rw [hp, hk] at h; exact h⟩
  have K4 : Stow (∀ W, Calls Tryd.prog 44 #[.string (bs s)] W fun e w' => ∃ A cap, e = .returned (.tuple #[p.val A cap, .int .i64 k]) ∧ SlR w' 2 (.slice A p.hs.length cap) (p.hs.map Hd.cells) ∧ Below W.heap.size W w') := ⟨fun W => (msRefReadBack_any s W hs).mono fun e w' h => by unfold RsOf at h; rw [hp, hk] at h; exact h⟩
  clear hq hi hp hk
  have z1 : (i == i) = true := by simp
  have z2 : (k == k) = true := by simp
  have KS := Stow.mk (fun A A' cap cap' W => msSame_any q A A' cap cap' W)
  have KB := Stow.mk (fun A A' cap cap' W => msSameBack_any p A A' cap cap' W)
  obtain ⟨qm, qh, qp, qhs, qb⟩ := q
  obtain ⟨pst, phs, pb⟩ := p
  unfold Rq.val at K1 K2 KS
  unfold Rs.val at K3 K4 KB
  simp only at K1 K2 K3 K4 KS KB
  go_enter Tryd.func10, Tryd.ntmps10
  go_wp2_with fail
  refine (K1.out _ HM.out).mono ?_
  rintro e w1 ⟨A1, c1, rfl, hS1, hb1⟩
  have HB1 := Stow.mk hb1
  have HS1 := Stow.mk hS1
  have HX1 := rq_box w1 qm qh qp A1 qhs.length c1 qb
  clear hS1 hb1
  go_wp2_with fail
  refine (K2.out _).mono ?_
  rintro e w2 ⟨A2, c2, rfl, hS2, hb2⟩
  obtain ⟨hx, hB2⟩ := HX1.out w2 hb2
  have HB2 : Stow (Below w.heap.size w w2) := ⟨HB1.out.trans (hB2.mono HB1.out.size)⟩
  have HX2 := Stow.mk hx
  have HS2 := Stow.mk (HS1.out.keep hB2)
  have HT2 := Stow.mk hS2
  have HY2 := rq_box w2 qm qh qp A2 qhs.length c2 qb
  clear hb2 hB2 hx hS2
  go_wp2_with fail
  refine (K3.out _ (HM.out.keep (Below.alloc HB2.out HB2.out.size _))).mono ?_
  rintro e w3 ⟨A3, c3, rfl, hS3, hb3⟩
  obtain ⟨hx, hB3⟩ := HY2.out w3 hb3
  have HB3 : Stow (Below w.heap.size w w3) := ⟨HB2.out.trans (hB3.mono HB2.out.size)⟩
  have HY3 := Stow.mk hx
  have HX3 := Stow.mk (HX2.out.kept hB3)
  have HS3 := Stow.mk (HS2.out.keep hB3)
  have HT3 := Stow.mk (HT2.out.keep hB3)
  have HU3 := Stow.mk hS3
  have HZ3 := rs_box w3 pst A3 phs.length c3 pb
  clear hb3 hB3 hx hS3
  go_wp2_with fail
  refine (K4.out _).mono ?_
  rintro e w4 ⟨A4, c4, rfl, hS4, hb4⟩
  obtain ⟨hz, hB4⟩ := HZ3.out w4 hb4
  have HB4 : Stow (Below w.heap.size w w4) := ⟨HB3.out.trans (hB4.mono HB3.out.size)⟩
  have hy := HY3.out.kept hB4
  have hx := HX3.out.kept hB4
  have HZ4 := Stow.mk hz
  have HS4 := Stow.mk (HS3.out.keep hB4)
  have HT4 := Stow.mk (HT3.out.keep hB4)
  have HU4 := Stow.mk (HU3.out.keep hB4)
  have HV4 := Stow.mk hS4
  have HW4 := rs_box w4 pst A4 phs.length c4 pb
  have lx := hx.lt
  have ly := hy.lt
  have nx : (w4.heap.size == w1.heap.size) = false := by simp; omega
  have ny : (w4.heap.size == w2.heap.size) = false := by simp; omega
  have x0 := hx.cell (i := 0) rfl
  have x1 := hx.cell (i := 1) rfl
  have x2 := hx.cell (i := 2) rfl
  have x3 := hx.cell (i := 3) rfl
  have x4 := hx.cell (i := 4) rfl
  have y0 := hy.cell (i := 0) rfl
  have y1 := hy.cell (i := 1) rfl
  have y2 := hy.cell (i := 2) rfl
  have y3 := hy.cell (i := 3) rfl
  have y4 := hy.cell (i := 4) rfl
  clear hb4 hB4 hx hy hz hS4
  go_wp2_with fail
  refine (KS.out _ _ _ _ _ (HS4.out.alloc _) (HT4.out.alloc _)).mono ?_
  rintro e w5 ⟨rfl, hb5⟩
  obtain ⟨hv, hB5⟩ := HW4.out w5 hb5
  have HB5 : Stow (Below w.heap.size w w5) := ⟨HB4.out.trans (hB5.mono HB4.out.size)⟩
  have hz := HZ4.out.kept hB5
  have HU5 := Stow.mk (HU4.out.keep hB5)
  have HV5 := Stow.mk (HV4.out.keep hB5)
  clear x0 x1 x2 x3 x4 y0 y1 y2 y3 y4 nx ny hb5 hB5
  have u0 := hz.cell (i := 0) rfl
  have u1 := hz.cell (i := 1) rfl
  have u2 := hz.cell (i := 2) rfl
  have v0 := hv.cell (i := 0) rfl
  have v1 := hv.cell (i := 1) rfl
  have v2 := hv.cell (i := 2) rfl
  clear hv hz
  go_wp2_with fail
  refine (KB.out _ _ _ _ _ HU5.out HV5.out).mono ?_
  rintro e w6 ⟨rfl, hb6⟩
  have HB6 : Stow (Below w.heap.size w w6) := ⟨HB5.out.trans (hb6.mono HB5.out.size)⟩
  clear hb6
  go_wp2_with fail
  refine (known05_any _ (HM.out.keep HB6.out)).mono ?_
  rintro e wk ⟨rfl, hbk⟩
  go_wp2_with fail
  go_ret
  exact ⟨rfl, Below.trans HB6.out (hbk.mono (Below.size HB6.out))⟩
end Go.Proofs.YtbnaicgomabigaaDoor
