/- The walk of 'batches come back'. Condition: what the form itself grants of arguments. -/
import Derived.Test.YtkhepehgafijfaaBatchWalks
import Derived.Test.YtkhepehgafijfaaBatchBackSpec
namespace Go.Proofs.Ytkhepehgafijfaa
open Go.RowKit
set_option linter.unusedVariables false


set_option maxHeartbeats 2000000 in
set_option maxRecDepth 100000 in
theorem back10_bb (x y : Int) (A : Option Addr) (cap : Nat) (L : List Sp) (l : List UInt8) (w : World) (hS : SlR w 11 (.slice A L.length cap) (L.map Sp.cells)) (hf : ∀ s ∈ L, s.fits) (hq : fewB L = true) (h3 : ¬ 3000 < l.length)
    (c : Nat) (hc0 : ((c : Int) == 0) = false) (hw : btWrite x y L = ([], c)) (ha0 : btAck x y = ([], 12)) :
    Calls Try.prog 5 #[.agg #[.int .i64 x, .int .i64 y, .slice A L.length cap], .string (bs l)] w fun e w' => e = .returned (.bool true) ∧ Below w.heap.size w w' := by
  have HW := Stow.mk hw
  have HA0 := Stow.mk ha0
  clear hw ha0
  have HS := Stow.mk hS
  have HF := Stow.mk hf
  have HQ := Stow.mk hq
  have hl : l.length ≤ 9223372036854775807 := by omega
  rcases hr : btRead l with ⟨n1, n2, L2, b⟩
  rcases ha : btReadAck l with ⟨m1, m2, c2⟩
  have HR := Stow.mk hr
  have HA := Stow.mk ha
  have hH := Held.made w [.int .i64 x, .int .i64 y, .slice A L.length cap] 24
  have HS0 := Stow.mk (HS.out.alloc (.cells #[.int .i64 x, .int .i64 y, .slice A L.length cap] 24))
  clear hr ha hS hf hq
  go_enter Try.func5, Try.ntmps5
  go_wp2_with fail
  refine (few10_any x y L A cap _ HS0.out HF.out).mono ?_
  rw [HQ.out]
  rintro e w1 ⟨rfl, hb1⟩
  have hH1 := hH.kept hb1
  have HS1 := Stow.mk (HS0.out.keep hb1)
  have p0 := hH1.cell (i := 0) rfl
  have p1 := hH1.cell (i := 1) rfl
  have p2 := hH1.cell (i := 2) rfl
  go_wp2_with fail
  clear p0 p1 p2
  refine (btWrite_any x y A cap L _ HS1.out HF.out).mono ?_
  rw [HW.out]
  rintro e w2 ⟨rfl, hb2⟩
  have hH2 := hH1.kept hb2
  have HS2 := Stow.mk (HS1.out.keep hb2)
  have p0 := hH2.cell (i := 0) rfl
  have p1 := hH2.cell (i := 1) rfl
  have p2 := hH2.cell (i := 2) rfl
  go_wp2_with fail
  clear p0 p1 p2
  refine (btAck_any x y _).mono ?_
  rw [HA0.out]
  rintro e w3 ⟨rfl, hb3⟩
  go_wp2_with fail
  refine (btRead_any l _ hl).mono ?_
  rw [HR.out]
  rintro e wr hbo
  obtain ⟨A2, cap2, rfl, hS2, hbr⟩ := hbo.form
  clear hbo
  have HSr := Stow.mk (hS2.alloc (.cells #[.int .i64 (n1 : Int), .int .i64 (n2 : Int), .slice A2 L2.length cap2] 24))
  clear hS2
  by_cases hb : b = 0
  · subst hb
    obtain ⟨hwf, hff, hak⟩ := write_fwd hl HR.out
    have HWF := Stow.mk hwf
    have HFF := Stow.mk hff
    have HAK := Stow.mk hak
    clear hwf hff hak
    go_wp2_with fail
    refine (btWrite_any n1 n2 A2 cap2 L2 _ HSr.out HFF.out).mono ?_
    rw [HWF.out]
    rintro e wa ⟨rfl, hba⟩
    go_wp2_with fail
    refine (readAck_any l _ hl).mono ?_
    rw [HAK.out]
    rintro e wb ⟨rfl, hbb⟩
    go_wp2_with fail
    refine (known10_any _).mono ?_
    rintro e wk ⟨rfl, hbk⟩
    go_wp2_with fail
    go_ret
    refine ⟨rfl, ?_⟩
    (repeat (first | exact Below.self _ | refine Below.alloc' ?_ _ | refine Below.drew ?_ | refine Below.drewN' ?_ _ | (refine Below.call ?_ (by assumption))))
  · have hbn : ((b : Int) == 0) = false := by simpa using hb
    go_wp2_with fail
    refine (readAck_any l _ hl).mono ?_
    rw [HA.out]
    rintro e wa ⟨rfl, hba⟩
    by_cases hc : c2 = 0
    · subst hc
      have HAF := Stow.mk (ack_fwd HA.out)
      go_wp2_with fail
      refine (btAck_any m1 m2 _).mono ?_
      rw [HAF.out]
      rintro e wb ⟨rfl, hbb⟩
      go_wp2_with fail
      refine (known10_any _).mono ?_
      rintro e wk ⟨rfl, hbk⟩
      go_wp2_with fail
      go_ret
      refine ⟨rfl, ?_⟩
      (repeat (first | exact Below.self _ | refine Below.alloc' ?_ _ | refine Below.drew ?_ | refine Below.drewN' ?_ _ | (refine Below.call ?_ (by assumption))))
    · have hcn : ((c2 : Int) == 0) = false := by simpa using hc
      go_wp2_with fail
      refine (known10_any _).mono ?_
      rintro e wk ⟨rfl, hbk⟩
      go_wp2_with fail
      go_ret
      refine ⟨rfl, ?_⟩
      (repeat (first | exact Below.self _ | refine Below.alloc' ?_ _ | refine Below.drew ?_ | refine Below.drewN' ?_ _ | (refine Below.call ?_ (by assumption))))

set_option maxHeartbeats 2000000 in
set_option maxRecDepth 100000 in
theorem back10_bg (x y : Nat) (A : Option Addr) (cap : Nat) (L : List Sp) (l : List UInt8) (w : World) (hS : SlR w 11 (.slice A L.length cap) (L.map Sp.cells)) (hf : ∀ s ∈ L, s.fits) (hq : fewB L = true) (h3 : ¬ 3000 < l.length)
    (c : Nat) (hc0 : ((c : Int) == 0) = false) (hw : btWrite x y L = ([], c)) (k : List UInt8) (hkl : k.length ≤ 9223372036854775807) (ha0 : btAck x y = (k, 0)) (hk : btReadAck k = (x, y, 0)) (hk2 : kindOf k = 2) :
    Calls Try.prog 5 #[.agg #[.int .i64 (x : Int), .int .i64 (y : Int), .slice A L.length cap], .string (bs l)] w fun e w' => e = .returned (.bool true) ∧ Below w.heap.size w w' := by
  have HW := Stow.mk hw
  have HA0 := Stow.mk ha0
  have HK := Stow.mk hk
  have HK2 := Stow.mk hk2
  clear hw ha0 hk hk2
  have HS := Stow.mk hS
  have HF := Stow.mk hf
  have HQ := Stow.mk hq
  have hl : l.length ≤ 9223372036854775807 := by omega
  rcases hr : btRead l with ⟨n1, n2, L2, b⟩
  rcases ha : btReadAck l with ⟨m1, m2, c2⟩
  have HR := Stow.mk hr
  have HA := Stow.mk ha
  have hH := Held.made w [.int .i64 x, .int .i64 y, .slice A L.length cap] 24
  have HS0 := Stow.mk (HS.out.alloc (.cells #[.int .i64 x, .int .i64 y, .slice A L.length cap] 24))
  clear hr ha hS hf hq
  go_enter Try.func5, Try.ntmps5
  go_wp2_with fail
  refine (few10_any x y L A cap _ HS0.out HF.out).mono ?_
  rw [HQ.out]
  rintro e w1 ⟨rfl, hb1⟩
  have hH1 := hH.kept hb1
  have HS1 := Stow.mk (HS0.out.keep hb1)
  have p0 := hH1.cell (i := 0) rfl
  have p1 := hH1.cell (i := 1) rfl
  have p2 := hH1.cell (i := 2) rfl
  go_wp2_with fail
  clear p0 p1 p2
  refine (btWrite_any x y A cap L _ HS1.out HF.out).mono ?_
  rw [HW.out]
  rintro e w2 ⟨rfl, hb2⟩
  have hH2 := hH1.kept hb2
  have HS2 := Stow.mk (HS1.out.keep hb2)
  have p0 := hH2.cell (i := 0) rfl
  have p1 := hH2.cell (i := 1) rfl
  have p2 := hH2.cell (i := 2) rfl
  go_wp2_with fail
  clear p0 p1 p2
  refine (btAck_any x y _).mono ?_
  rw [HA0.out]
  rintro e w3 ⟨rfl, hb3⟩
  have hH3 := hH2.kept hb3
  have HS3 := Stow.mk (HS2.out.keep hb3)
  have p0 := hH3.cell (i := 0) rfl
  have p1 := hH3.cell (i := 1) rfl
  have p2 := hH3.cell (i := 2) rfl
  go_wp2_with fail
  clear p0 p1 p2
  refine (readAck_any k _ hkl).mono ?_
  rw [HK.out]
  rintro e w4 ⟨rfl, hb4⟩
  have hH4 := hH3.kept hb4
  have HS4 := Stow.mk (HS3.out.keep hb4)
  have p0 := hH4.cell (i := 0) rfl
  have p1 := hH4.cell (i := 1) rfl
  have p2 := hH4.cell (i := 2) rfl
  go_wp2_with fail
  clear p0 p1 p2
  refine (kind_any k _ hkl).mono ?_
  rw [HK2.out]
  rintro e w' ⟨rfl, rfl⟩
  go_wp2_with fail
  refine (btRead_any l _ hl).mono ?_
  rw [HR.out]
  rintro e wr hbo
  obtain ⟨A2, cap2, rfl, hS2, hbr⟩ := hbo.form
  clear hbo
  have HSr := Stow.mk (hS2.alloc (.cells #[.int .i64 (n1 : Int), .int .i64 (n2 : Int), .slice A2 L2.length cap2] 24))
  clear hS2
  by_cases hb : b = 0
  · subst hb
    obtain ⟨hwf, hff, hak⟩ := write_fwd hl HR.out
    have HWF := Stow.mk hwf
    have HFF := Stow.mk hff
    have HAK := Stow.mk hak
    clear hwf hff hak
    go_wp2_with fail
    refine (btWrite_any n1 n2 A2 cap2 L2 _ HSr.out HFF.out).mono ?_
    rw [HWF.out]
    rintro e wa ⟨rfl, hba⟩
    go_wp2_with fail
    refine (readAck_any l _ hl).mono ?_
    rw [HAK.out]
    rintro e wb ⟨rfl, hbb⟩
    go_wp2_with fail
    refine (known10_any _).mono ?_
    rintro e wk ⟨rfl, hbk⟩
    go_wp2_with fail
    go_ret
    refine ⟨rfl, ?_⟩
    (repeat (first | exact Below.self _ | refine Below.alloc' ?_ _ | refine Below.drew ?_ | refine Below.drewN' ?_ _ | (refine Below.call ?_ (by assumption))))
  · have hbn : ((b : Int) == 0) = false := by simpa using hb
    go_wp2_with fail
    refine (readAck_any l _ hl).mono ?_
    rw [HA.out]
    rintro e wa ⟨rfl, hba⟩
    by_cases hc : c2 = 0
    · subst hc
      have HAF := Stow.mk (ack_fwd HA.out)
      go_wp2_with fail
      refine (btAck_any m1 m2 _).mono ?_
      rw [HAF.out]
      rintro e wb ⟨rfl, hbb⟩
      go_wp2_with fail
      refine (known10_any _).mono ?_
      rintro e wk ⟨rfl, hbk⟩
      go_wp2_with fail
      go_ret
      refine ⟨rfl, ?_⟩
      (repeat (first | exact Below.self _ | refine Below.alloc' ?_ _ | refine Below.drew ?_ | refine Below.drewN' ?_ _ | (refine Below.call ?_ (by assumption))))
    · have hcn : ((c2 : Int) == 0) = false := by simpa using hc
      go_wp2_with fail
      refine (known10_any _).mono ?_
      rintro e wk ⟨rfl, hbk⟩
      go_wp2_with fail
      go_ret
      refine ⟨rfl, ?_⟩
      (repeat (first | exact Below.self _ | refine Below.alloc' ?_ _ | refine Below.drew ?_ | refine Below.drewN' ?_ _ | (refine Below.call ?_ (by assumption))))

set_option maxHeartbeats 4000000 in
set_option maxRecDepth 100000 in
theorem back10_gg (x y : Nat) (A : Option Addr) (cap : Nat) (L : List Sp) (l : List UInt8) (w : World) (hS : SlR w 11 (.slice A L.length cap) (L.map Sp.cells)) (hf : ∀ s ∈ L, s.fits) (hq : fewB L = true) (h3 : ¬ 3000 < l.length)
    (t : List UInt8) (htl : t.length ≤ 9223372036854775807) (hw : btWrite x y L = (t, 0)) (ht : btRead t = (x, y, L, 0)) (ht2 : btReadAck t = (0, 0, 3)) (htk : kindOf t = 1)
    (k : List UInt8) (hkl : k.length ≤ 9223372036854775807) (ha0 : btAck x y = (k, 0)) (hk : btReadAck k = (x, y, 0)) (hk2 : kindOf k = 2) :
    Calls Try.prog 5 #[.agg #[.int .i64 (x : Int), .int .i64 (y : Int), .slice A L.length cap], .string (bs l)] w fun e w' => e = .returned (.bool true) ∧ Below w.heap.size w w' := by
  have HW := Stow.mk hw
  have HA0 := Stow.mk ha0
  have HK := Stow.mk hk
  have HK2 := Stow.mk hk2
  have HT := Stow.mk ht
  have HT2 := Stow.mk ht2
  have HTK := Stow.mk htk
  clear hw ha0 hk hk2 ht ht2 htk
  have HS := Stow.mk hS
  have HF := Stow.mk hf
  have HQ := Stow.mk hq
  have hl : l.length ≤ 9223372036854775807 := by omega
  rcases hr : btRead l with ⟨n1, n2, L2, b⟩
  rcases ha : btReadAck l with ⟨m1, m2, c2⟩
  have HR := Stow.mk hr
  have HA := Stow.mk ha
  have hH := Held.made w [.int .i64 x, .int .i64 y, .slice A L.length cap] 24
  have HS0 := Stow.mk (HS.out.alloc (.cells #[.int .i64 x, .int .i64 y, .slice A L.length cap] 24))
  clear hr ha hS hf hq
  go_enter Try.func5, Try.ntmps5
  go_wp2_with fail
  refine (few10_any x y L A cap _ HS0.out HF.out).mono ?_
  rw [HQ.out]
  rintro e w1 ⟨rfl, hb1⟩
  have hH1 := hH.kept hb1
  have HS1 := Stow.mk (HS0.out.keep hb1)
  have p0 := hH1.cell (i := 0) rfl
  have p1 := hH1.cell (i := 1) rfl
  have p2 := hH1.cell (i := 2) rfl
  go_wp2_with fail
  clear p0 p1 p2
  refine (btWrite_any x y A cap L _ HS1.out HF.out).mono ?_
  rw [HW.out]
  rintro e w2 ⟨rfl, hb2⟩
  have hH2 := hH1.kept hb2
  have HS2 := Stow.mk (HS1.out.keep hb2)
  have p0 := hH2.cell (i := 0) rfl
  have p1 := hH2.cell (i := 1) rfl
  have p2 := hH2.cell (i := 2) rfl
  clear p0 p1 p2
  go_wp2_with fail
  refine (btRead_any t _ htl).mono ?_
  rw [HT.out]
  rintro e w3 hbo
  obtain ⟨A3, cap3, rfl, hS3, hb3⟩ := hbo.form
  clear hbo
  have hH3 := (hH2.kept hb3).kept (Below.alloc' (Below.self _) (.cells #[.int .i64 (x : Int), .int .i64 (y : Int), .slice A3 L.length cap3] 24))
  have HS3 := Stow.mk ((HS2.out.keep hb3).alloc (.cells #[.int .i64 (x : Int), .int .i64 (y : Int), .slice A3 L.length cap3] 24))
  have hHz := Held.made w3 [.int .i64 (x : Int), .int .i64 (y : Int), .slice A3 L.length cap3] 24
  have HSz := Stow.mk (hS3.alloc (.cells #[.int .i64 (x : Int), .int .i64 (y : Int), .slice A3 L.length cap3] 24))
  clear hS3
  go_wp2_with fail
  refine (readAck_any t _ htl).mono ?_
  rw [HT2.out]
  rintro e w4 ⟨rfl, hb4⟩
  have hH4 := hH3.kept hb4
  have HS4 := Stow.mk (HS3.out.keep hb4)
  have p0 := hH4.cell (i := 0) rfl
  have p1 := hH4.cell (i := 1) rfl
  have p2 := hH4.cell (i := 2) rfl
  have hHy := hHz.kept hb4
  have z0 := hHy.cell (i := 0) rfl
  have z1 := hHy.cell (i := 1) rfl
  have z2 := hHy.cell (i := 2) rfl
  go_wp2_with fail
  clear p0 p1 p2 z0 z1 z2
  refine (sameBt_any x y L A3 A cap3 cap _ (HSz.out.keep hb4) HS4.out).mono ?_
  rintro e w5 ⟨rfl, hb5⟩
  have hH5 := hH4.kept hb5
  have HS5 := Stow.mk (HS4.out.keep hb5)
  have p0 := hH5.cell (i := 0) rfl
  have p1 := hH5.cell (i := 1) rfl
  have p2 := hH5.cell (i := 2) rfl
  go_wp2_with fail
  refine (kind_any t _ htl).mono ?_
  rw [HTK.out]
  rintro e w' ⟨rfl, rfl⟩
  go_wp2_with fail
  clear p0 p1 p2
  refine (btAck_any x y _).mono ?_
  rw [HA0.out]
  rintro e w6 ⟨rfl, hb6⟩
  have hH6 := hH5.kept hb6
  have HS6 := Stow.mk (HS5.out.keep hb6)
  have p0 := hH6.cell (i := 0) rfl
  have p1 := hH6.cell (i := 1) rfl
  have p2 := hH6.cell (i := 2) rfl
  go_wp2_with fail
  clear p0 p1 p2
  refine (readAck_any k _ hkl).mono ?_
  rw [HK.out]
  rintro e w7 ⟨rfl, hb7⟩
  have hH7 := hH6.kept hb7
  have HS7 := Stow.mk (HS6.out.keep hb7)
  have p0 := hH7.cell (i := 0) rfl
  have p1 := hH7.cell (i := 1) rfl
  have p2 := hH7.cell (i := 2) rfl
  go_wp2_with fail
  clear p0 p1 p2
  refine (kind_any k _ hkl).mono ?_
  rw [HK2.out]
  rintro e w' ⟨rfl, rfl⟩
  go_wp2_with fail
  refine (btRead_any l _ hl).mono ?_
  rw [HR.out]
  rintro e wr hbo
  obtain ⟨A2, cap2, rfl, hS2, hbr⟩ := hbo.form
  clear hbo
  have HSr := Stow.mk (hS2.alloc (.cells #[.int .i64 (n1 : Int), .int .i64 (n2 : Int), .slice A2 L2.length cap2] 24))
  clear hS2
  by_cases hb : b = 0
  · subst hb
    obtain ⟨hwf, hff, hak⟩ := write_fwd hl HR.out
    have HWF := Stow.mk hwf
    have HFF := Stow.mk hff
    have HAK := Stow.mk hak
    clear hwf hff hak
    go_wp2_with fail
    refine (btWrite_any n1 n2 A2 cap2 L2 _ HSr.out HFF.out).mono ?_
    rw [HWF.out]
    rintro e wa ⟨rfl, hba⟩
    go_wp2_with fail
    refine (readAck_any l _ hl).mono ?_
    rw [HAK.out]
    rintro e wb ⟨rfl, hbb⟩
    go_wp2_with fail
    refine (known10_any _).mono ?_
    rintro e wk ⟨rfl, hbk⟩
    go_wp2_with fail
    go_ret
    refine ⟨rfl, ?_⟩
    (repeat (first | exact Below.self _ | refine Below.alloc' ?_ _ | refine Below.drew ?_ | refine Below.drewN' ?_ _ | (refine Below.call ?_ (by assumption))))
  · have hbn : ((b : Int) == 0) = false := by simpa using hb
    go_wp2_with fail
    refine (readAck_any l _ hl).mono ?_
    rw [HA.out]
    rintro e wa ⟨rfl, hba⟩
    by_cases hc : c2 = 0
    · subst hc
      have HAF := Stow.mk (ack_fwd HA.out)
      go_wp2_with fail
      refine (btAck_any m1 m2 _).mono ?_
      rw [HAF.out]
      rintro e wb ⟨rfl, hbb⟩
      go_wp2_with fail
      refine (known10_any _).mono ?_
      rintro e wk ⟨rfl, hbk⟩
      go_wp2_with fail
      go_ret
      refine ⟨rfl, ?_⟩
      (repeat (first | exact Below.self _ | refine Below.alloc' ?_ _ | refine Below.drew ?_ | refine Below.drewN' ?_ _ | (refine Below.call ?_ (by assumption))))
    · have hcn : ((c2 : Int) == 0) = false := by simpa using hc
      go_wp2_with fail
      refine (known10_any _).mono ?_
      rintro e wk ⟨rfl, hbk⟩
      go_wp2_with fail
      go_ret
      refine ⟨rfl, ?_⟩
      (repeat (first | exact Below.self _ | refine Below.alloc' ?_ _ | refine Below.drew ?_ | refine Below.drewN' ?_ _ | (refine Below.call ?_ (by assumption))))

set_option maxHeartbeats 2000000 in
set_option maxRecDepth 100000 in
theorem back10_known (b : BtArg) (l : List UInt8) (w : World) (hb : b.ok w) (hl : l.length ≤ 9223372036854775807) (h : fewB b.L = false ∨ 3000 < l.length) :
    Calls Try.prog 5 #[b.val, .string (bs l)] w fun e w' => e = .returned (.bool true) ∧ Below w.heap.size w w' := by
  obtain ⟨x, y, A, cap, L⟩ := b
  obtain ⟨hS, hf⟩ := hb
  simp only [BtArg.val] at *
  have HS := Stow.mk (hS.alloc (.cells #[.int .i64 x, .int .i64 y, .slice A L.length cap] 24))
  have HF := Stow.mk hf
  clear hS hf
  rcases hq : fewB L with _ | _
  · have HQ := Stow.mk hq
    clear hq h
    go_enter Try.func5, Try.ntmps5
    go_wp2_with fail
    refine (few10_any x y L A cap _ HS.out HF.out).mono ?_
    rw [HQ.out]
    rintro e w1 ⟨rfl, hb1⟩
    go_wp2_with fail
    refine (known10_any _).mono ?_
    rintro e wk ⟨rfl, hbk⟩
    go_wp2_with fail
    go_ret
    refine ⟨rfl, ?_⟩
    (repeat (first | exact Below.self _ | refine Below.alloc' ?_ _ | refine Below.drew ?_ | refine Below.drewN' ?_ _ | (refine Below.call ?_ (by assumption))))
  · have h3 : 3000 < l.length := by
      rcases h with h | h
      · rw [hq] at h; cases h
      · exact h
    have HQ := Stow.mk hq
    clear hq h
    go_enter Try.func5, Try.ntmps5
    go_wp2_with fail
    refine (few10_any x y L A cap _ HS.out HF.out).mono ?_
    rw [HQ.out]
    rintro e w1 ⟨rfl, hb1⟩
    go_wp2_with fail
    refine (known10_any _).mono ?_
    rintro e wk ⟨rfl, hbk⟩
    go_wp2_with fail
    go_ret
    refine ⟨rfl, ?_⟩
    (repeat (first | exact Below.self _ | refine Below.alloc' ?_ _ | refine Below.drew ?_ | refine Below.drewN' ?_ _ | (refine Below.call ?_ (by assumption))))

theorem body_len {x y : Int} {L : List Sp} (h : btCheck x y L = 0) : (seal_ (btBody x y L)).length ≤ 3000 := by
  obtain ⟨hp, h0, h16, hck⟩ := btCheck_good h
  have hsl := spans_len hck
  have p1 := (put_len x.toNat).2
  have p2 := (put_len y.toNat).2
  have p3 := (put_len L.length).2
  have hd := Oc.digs_len 256 4 (Crc.of (btBody x y L))
  have e : btBody x y L = [80, 66, 1] ++ (Vr.put x.toNat ++ (Vr.put y.toNat ++ (Vr.put L.length ++ L.flatMap spanBytes))) := by simp [btBody]
  have hbl : (btBody x y L).length = 3 + (Vr.put x.toNat).length + (Vr.put y.toNat).length + (Vr.put L.length).length + (L.flatMap spanBytes).length := by rw [e]; simp; omega
  unfold seal_
  rw [List.length_append, hd]
  omega

/-- The law's walk. -/
theorem back10 (b : BtArg) (l : List UInt8) (w : World) (hb : b.ok w) (hl : l.length ≤ 9223372036854775807) :
    Calls Try.prog 5 #[b.val, .string (bs l)] w fun e w' => e = .returned (.bool true) ∧ Below w.heap.size w w' := by
  by_cases h3 : 3000 < l.length
  · exact back10_known b l w hb hl (.inr h3)
  rcases hq : fewB b.L with _ | _
  · exact back10_known b l w hb hl (.inl hq)
  obtain ⟨x, y, A, cap, L⟩ := b
  obtain ⟨hS, hf⟩ := hb
  simp only at hS hf hq
  by_cases hp : placeB x y = true
  · obtain ⟨hx0, hx8, hy0, hy1⟩ := placeB_true hp
    obtain ⟨a, rfl⟩ := Int.eq_ofNat_of_zero_le hx0
    obtain ⟨d, rfl⟩ := Int.eq_ofNat_of_zero_le hy0
    have hak := ack_back hp
    have ha0 : btAck (a : Int) (d : Int) = ((btAck (a : Int) (d : Int)).1, 0) := by unfold btAck; rw [if_pos hp]
    have hkl : (btAck (a : Int) (d : Int)).1.length ≤ 9223372036854775807 := by
      have p1 := (put_len a).2
      have p2 := (put_len d).2
      have hd := Oc.digs_len 256 4
      unfold btAck
      rw [if_pos hp]
      simp only [seal_, List.length_append, hd, List.flatMap_cons, List.flatMap_nil, Int.toNat_natCast, List.length_cons, List.length_nil]
      omega
    obtain ⟨k, hk⟩ : ∃ k, (btAck (a : Int) (d : Int)).1 = k := ⟨_, rfl⟩
    rw [hk] at hak ha0 hkl
    simp only [Int.toNat_natCast] at hak
    by_cases hc : btCheck (a : Int) (d : Int) L = 0
    · have hw : btWrite (a : Int) (d : Int) L = (seal_ (btBody (a : Int) (d : Int) L), 0) := by unfold btWrite; rw [if_pos hc]
      have hrb := read_back hc hf
      simp only [Int.toNat_natCast] at hrb
      have hbl := body_len hc
      have hkd : kindOf (seal_ (btBody (a : Int) (d : Int) L)) = 1 := kind_one.2 (by simp [seal_, btBody])
      exact back10_gg a d A cap L l w hS hf hq h3 _ (by omega) hw hrb (ack_none (unsl_sealed _) (body_kind _ _ _)) hkd k hkl ha0 hak.1 hak.2
    · have hw : btWrite (a : Int) (d : Int) L = ([], btCheck (a : Int) (d : Int) L) := by unfold btWrite; rw [if_neg hc]
      exact back10_bg a d A cap L l w hS hf hq h3 _ (by simpa using hc) hw k hkl ha0 hak.1 hak.2
  · have hc : btCheck x y L = 12 := by unfold btCheck; rw [if_pos (by simpa using hp)]
    have hw : btWrite x y L = ([], 12) := by unfold btWrite; rw [hc, if_neg (by omega)]
    have ha0 : btAck x y = ([], 12) := by unfold btAck; rw [if_neg hp]
    exact back10_bb x y A cap L l w hS hf hq h3 12 (by simp) hw ha0
end Go.Proofs.Ytkhepehgafijfaa
