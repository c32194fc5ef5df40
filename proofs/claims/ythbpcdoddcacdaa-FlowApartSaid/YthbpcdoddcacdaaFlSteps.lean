/- Walk of the statement on frames and answers. Conditions: the frames' memory; texts no longer than a length may be. -/
import Derived.Test.YthbpcdoddcacdaaFlKnown
import Derived.Test.YthbpcdoddcacdaaFlRefA
import Derived.Test.YthbpcdoddcacdaaFlFew
namespace Go.Proofs.Ythbpcdoddcacdaa
open Go.RowKit
set_option linter.unusedVariables false

theorem flSameN (L L' : List Fm) (A A' : Option Addr) (n cap cap' : Nat) (hops : Int) (w : World) (hn : L.length = n) (hc : L.map Fm.c = L'.map Fm.c) (h : FlR w A cap L) (h' : FlR w A' cap' L') :
    Calls Try.prog 19 #[flv A n cap hops, flv A' n cap' hops] w fun e w' => e = .returned (.bool true) ∧ Below w.heap.size w w' := by
  subst hn
  exact flSame_any L L' A A' cap cap' hops w hc h h'
theorem ansL_len (st : Int) (s : Txt) (C : List Fr) : (ansL st s C).length = C.length := by
  rcases List.eq_nil_or_concat C with rfl | ⟨Q, c, rfl⟩
  · rfl
  · rw [List.concat_eq_append, ansL_end]; simp
set_option maxHeartbeats 4000000 in
set_option maxRecDepth 100000 in
theorem steps37 (A : Option Addr) (cap n : Nat) (L : List Fm) (hops st : Int) (x : Fm) (v : Value) (s : Txt) (w : World) (h : FlR w A cap L) (hnL : L.length = n) (hf : ∀ y ∈ L, y.c.fits) (hA : A = none → cap = 0) (hx : FmR w x) (hxf : x.c.fits) (hs : s.length ≤ maxLen) :
    Calls Try.prog 3 #[flv A n cap hops, x.val, .agg #[.int .i64 st, v, .string (bs s)]] w fun e w' => e = .returned (.bool true) ∧ Below w.heap.size w w' := by
  have e1 : (w.alloc (.cells #[.slice A n cap, .int .i64 hops] 24)).heap.size = w.heap.size + 1 := by simp
  have hb1 := Below.alloc' (Below.self w) (.cells #[.slice A n cap, .int .i64 hops] 24)
  have hb2 := Below.alloc' (Below.self (w.alloc (.cells #[.slice A n cap, .int .i64 hops] 24))) (.cells x.cells.toArray 30)
  have hb3 := Below.alloc' (Below.self ((w.alloc (.cells #[.slice A n cap, .int .i64 hops] 24)).alloc (.cells x.cells.toArray 30))) (.cells #[.int .i64 st, v, .string (bs s)] 32)
  have h1 := ((Held.made w [.slice A n cap, .int .i64 hops] 24).kept hb2).kept hb3
  have h2 := (Held.made (w.alloc (.cells #[.slice A n cap, .int .i64 hops] 24)) x.cells 30).kept hb3
  have h3 := Held.made ((w.alloc (.cells #[.slice A n cap, .int .i64 hops] 24)).alloc (.cells x.cells.toArray 30)) [.int .i64 st, v, .string (bs s)] 32
  have hb := Below.call (Below.call hb1 hb2) hb3
  obtain ⟨W0, hW0⟩ : ∃ W, ((w.alloc (.cells #[.slice A n cap, .int .i64 hops] 24)).alloc (.cells x.cells.toArray 30)).alloc (.cells #[.int .i64 st, v, .string (bs s)] 32) = W := ⟨_, rfl⟩
  have HT3 := Stow.mk (show Held W0 w.heap.size [.slice A n cap, .int .i64 hops] by rw [← hW0]; exact h1)
  have HT4 := Stow.mk (show Held W0 (w.heap.size + 1) x.cells by rw [← hW0, ← e1]; exact h2)
  have HT5 := Stow.mk (show Held W0 (w.heap.size + 1 + 1) [.int .i64 st, v, .string (bs s)] by rw [← hW0]; simpa using h3)
  have HB := Stow.mk (show Below w.heap.size w W0 by rw [← hW0]; exact hb)
  have HFL := Stow.mk h
  have HFX := Stow.mk hx
  have HA := Stow.mk hA
  have HNL := Stow.mk hnL
  have HFW := Stow.mk (fun W (hb : Below w.heap.size w W) => flFew_any A cap n L hops W (h.keep hb) hf hnL)
  have HFR := Stow.mk (fun W (hb : Below w.heap.size w W) => frFew_any x W (hx.keep hb) hxf)
  have HW0 := Stow.mk hW0
  unfold maxLen at hs
  clear h hnL hf hA hx hxf h1 h2 h3 hb hb1 hb2 hb3 e1 hW0
  unfold Fm.val
  unfold Fm.cells at HW0 ⊢
  go_enter Try.func3, Try.ntmps3
  go_upto_region 1 with fail
  generalize hW : World.alloc (World.alloc (World.alloc w _) _) _ = W
  obtain rfl : W = W0 := hW.symm.trans HW0.out
  clear hW HW0
  have q0 := HT3.out.cell (i := 0) rfl
  have q1 := HT3.out.cell (i := 1) rfl
  go_wp2_with fail
  refine (HFW.out _ HB.out).mono ?_
  rintro e w1 ⟨r, rfl, hr, hb1⟩
  have HT3 := Stow.mk (HT3.out.kept hb1)
  have HT4 := Stow.mk (HT4.out.kept hb1)
  have HT5 := Stow.mk (HT5.out.kept hb1)
  have HB := Stow.mk (HB.out.trans (hb1.mono HB.out.size))
  have HR := Stow.mk hr
  clear q0 q1 hb1 hr HFW
  cases r
  · go_wp2_with fail
    refine (known37_any _).mono ?_
    rintro e wk ⟨rfl, hbk⟩
    have HBK := Stow.mk (HB.out.trans (hbk.mono HB.out.size))
    clear hbk
    go_wp2_with fail
    go_ret
    exact ⟨rfl, HBK.out⟩
  have c0x := HT4.out.cell (i := 0) rfl
  have c1x := HT4.out.cell (i := 1) rfl
  have c2x := HT4.out.cell (i := 2) rfl
  have c3x := HT4.out.cell (i := 3) rfl
  have c4x := HT4.out.cell (i := 4) rfl
  have c5x := HT4.out.cell (i := 5) rfl
  have c6x := HT4.out.cell (i := 6) rfl
  have c7x := HT4.out.cell (i := 7) rfl
  have c8x := HT4.out.cell (i := 8) rfl
  have c9x := HT4.out.cell (i := 9) rfl
  have c10x := HT4.out.cell (i := 10) rfl
  have c11x := HT4.out.cell (i := 11) rfl
  have c12x := HT4.out.cell (i := 12) rfl
  go_wp2_with fail
  refine (HFR.out _ HB.out).mono ?_
  rintro e w2 ⟨r, rfl, hr, hb2⟩
  have HT3 := Stow.mk (HT3.out.kept hb2)
  have HT4 := Stow.mk (HT4.out.kept hb2)
  have HT5 := Stow.mk (HT5.out.kept hb2)
  have HB := Stow.mk (HB.out.trans (hb2.mono HB.out.size))
  have HR2 := Stow.mk hr
  clear c0x c1x c2x c3x c4x c5x c6x c7x c8x c9x c10x c11x c12x
  clear hb2 hr HFR
  cases r
  · go_wp2_with fail
    refine (known37_any _).mono ?_
    rintro e wk ⟨rfl, hbk⟩
    have HBK := Stow.mk (HB.out.trans (hbk.mono HB.out.size))
    clear hbk
    go_wp2_with fail
    go_ret
    exact ⟨rfl, HBK.out⟩
  have p2 := HT5.out.cell (i := 2) rfl
  by_cases h1000 : 1000 < s.length
  · have d1 : decide ((1000 : Int) < s.length) = true := by simp; omega
    have d1' : decide (1000 < s.length) = true := by simpa using h1000
    go_wp2_with fail
    refine (known37_any _).mono ?_
    rintro e wk ⟨rfl, hbk⟩
    have HBK := Stow.mk (HB.out.trans (hbk.mono HB.out.size))
    clear hbk
    go_wp2_with fail
    go_ret
    exact ⟨rfl, HBK.out⟩
  have d1 : decide ((1000 : Int) < s.length) = false := by simp; omega
  have d1' : decide (1000 < s.length) = false := by simpa using h1000
  have HSL := Stow.mk (show s.length ≤ 1000 by omega)
  clear h1000 hs
  go_upto_region 3 with fail
  clear p2 d1 d1'
  obtain ⟨hn12, hfew⟩ := HR.out (by simp)
  have hxfew := HR2.out (by simp)
  have hsmall : ∀ y ∈ L, y.c.small := fun y hy => (hfew y hy).small
  obtain ⟨n', h', er, C, hE1, hE2, hCn⟩ : ∃ (n' : Nat) (h' er : Int) (C : List Fr), (∀ W, Below w.heap.size w W → Calls Try.prog 17 #[flv A n cap hops, x.val] W fun e w' => ∃ A' cap' L', e = .returned (.tuple #[.agg #[.slice A' n' cap', .int .i64 h'], .int .i64 er]) ∧ L'.map Fm.c = C ∧ FlR w' A' cap' L' ∧ Below W.heap.size W w') ∧
      (∀ W, Below w.heap.size w W → Calls Try.prog 18 #[flv A n cap hops, x.val] W fun e w' => ∃ A' cap' L', e = .returned (.tuple #[.agg #[.slice A' n' cap', .int .i64 h'], .int .i64 er]) ∧ L'.map Fm.c = C ∧ FlR w' A' cap' L' ∧ Below W.heap.size W w') ∧ C.length = n' := by
    by_cases h6 : n < 6
    · refine ⟨n + 1, hops, 0, L.map Fm.c ++ [x.c], fun W hb => ?_, fun W hb => ?_, by simp [HNL.out]⟩
      · refine (flEnter_ok A cap n L hops x W h6 (HFL.out.keep hb) (HFX.out.keep hb) hsmall hxfew.small HNL.out).mono ?_
        rintro e w' ⟨A', c', L', he, h1, h2, h3⟩
        exact ⟨A', c', L', he, h1, h2.rd, h3⟩
      · refine (rfEnter_ok A cap n L hops x W h6 (HFL.out.keep hb) (HFX.out.keep hb) HA.out HNL.out).mono ?_
        rintro e w' ⟨A', c', L', he, h1, h2, h3⟩
        exact ⟨A', c', L', he, h1, h2, h3⟩
    · refine ⟨0, 0, 14, [], fun W hb => ?_, fun W hb => ?_, rfl⟩
      · refine (flEnter_deep A cap n hops x W (by omega)).mono ?_
        rintro e w' ⟨he, hb'⟩
        exact ⟨none, 0, [], he, rfl, ⟨SlR.nil _ _, by simp⟩, hb'⟩
      · refine (rfEnter_deep A cap n hops x W (by omega)).mono ?_
        rintro e w' ⟨he, hb'⟩
        exact ⟨none, 0, [], he, rfl, ⟨SlR.nil _ _, by simp⟩, hb'⟩
  have HE1 := Stow.mk hE1
  have HE2 := Stow.mk hE2
  have HCN := Stow.mk hCn
  have HAN := Stow.mk (fun W (hb : Below w.heap.size w W) => flAnswer_any A cap n L hops st v s W (HFL.out.keep hb) (by rw [HNL.out]; omega) hsmall (fun y hy => by have := (hfew y hy).2.2; have := HSL.out; omega) HNL.out)
  have HRA := Stow.mk (fun W (hb : Below w.heap.size w W) => rfAnswer_any A cap n L hops st v s W (HFL.out.keep hb) (by rw [HNL.out]; omega) (fun y hy => by have := (hfew y hy).2.2; have := HSL.out; omega) HNL.out HA.out)
  clear hE1 hE2 hCn hn12 hfew hxfew hsmall HR HR2
  have q0 := HT3.out.cell (i := 0) rfl
  have q1 := HT3.out.cell (i := 1) rfl
  have c0x := HT4.out.cell (i := 0) rfl
  have c1x := HT4.out.cell (i := 1) rfl
  have c2x := HT4.out.cell (i := 2) rfl
  have c3x := HT4.out.cell (i := 3) rfl
  have c4x := HT4.out.cell (i := 4) rfl
  have c5x := HT4.out.cell (i := 5) rfl
  have c6x := HT4.out.cell (i := 6) rfl
  have c7x := HT4.out.cell (i := 7) rfl
  have c8x := HT4.out.cell (i := 8) rfl
  have c9x := HT4.out.cell (i := 9) rfl
  have c10x := HT4.out.cell (i := 10) rfl
  have c11x := HT4.out.cell (i := 11) rfl
  have c12x := HT4.out.cell (i := 12) rfl
  go_wp2_with fail
  refine (HE1.out _ HB.out).mono ?_
  rintro e w3 ⟨A7, c7, L7, rfl, hL7, hF7, hb3⟩
  have HT3 := Stow.mk (HT3.out.kept hb3)
  have HT4 := Stow.mk (HT4.out.kept hb3)
  have HT5 := Stow.mk (HT5.out.kept hb3)
  have HB := Stow.mk (HB.out.trans (hb3.mono HB.out.size))
  have ba := Below.alloc' (Below.self w3) (.cells #[.slice A7 n' c7, .int .i64 h'] 24)
  have HT7 := Stow.mk (Held.made w3 [.slice A7 n' c7, .int .i64 h'] 24)
  have HT3 := Stow.mk (HT3.out.kept ba)
  have HT4 := Stow.mk (HT4.out.kept ba)
  have HT5 := Stow.mk (HT5.out.kept ba)
  have HF7 := Stow.mk (hF7.keep ba)
  have HL7 := Stow.mk hL7
  have HB := Stow.mk (HB.out.trans (ba.mono HB.out.size))
  obtain ⟨W3, hW3⟩ : ∃ W, w3.alloc (.cells #[.slice A7 n' c7, .int .i64 h'] 24) = W := ⟨_, rfl⟩
  rw [show w3.alloc (.cells [.slice A7 n' c7, .int .i64 h'].toArray 24) = W3 from hW3] at HT7
  rw [hW3] at HT3 HT4 HT5 HF7 HB
  have HWS := Stow.mk hW3
  clear c0x c1x c2x c3x c4x c5x c6x c7x c8x c9x c10x c11x c12x
  clear q0 q1 hb3 hF7 hL7 ba hW3
  go_upto_region 4 with fail
  rw [show w3.alloc (.cells #[.slice A7 n' c7, .int .i64 h'] 24) = W3 from HWS.out]
  clear HWS
  have q0 := HT3.out.cell (i := 0) rfl
  have q1 := HT3.out.cell (i := 1) rfl
  have c0x := HT4.out.cell (i := 0) rfl
  have c1x := HT4.out.cell (i := 1) rfl
  have c2x := HT4.out.cell (i := 2) rfl
  have c3x := HT4.out.cell (i := 3) rfl
  have c4x := HT4.out.cell (i := 4) rfl
  have c5x := HT4.out.cell (i := 5) rfl
  have c6x := HT4.out.cell (i := 6) rfl
  have c7x := HT4.out.cell (i := 7) rfl
  have c8x := HT4.out.cell (i := 8) rfl
  have c9x := HT4.out.cell (i := 9) rfl
  have c10x := HT4.out.cell (i := 10) rfl
  have c11x := HT4.out.cell (i := 11) rfl
  have c12x := HT4.out.cell (i := 12) rfl
  go_wp2_with fail
  refine (HE2.out _ HB.out).mono ?_
  rintro e w4 ⟨A9, c9, L9, rfl, hL9, hF9, hb4⟩
  have ba := Below.alloc' (Below.self w4) (.cells #[.slice A9 n' c9, .int .i64 h'] 24)
  have HT9 := Stow.mk (Held.made w4 [.slice A9 n' c9, .int .i64 h'] 24)
  have hba := hb4.trans (ba.mono hb4.size)
  have HT3 := Stow.mk (HT3.out.kept hba)
  have HT5 := Stow.mk (HT5.out.kept hba)
  have HT7 := Stow.mk (HT7.out.kept hba)
  have HF7 := Stow.mk (HF7.out.keep hba)
  have HF9 := Stow.mk (hF9.keep ba)
  have HL9 := Stow.mk hL9
  have HB := Stow.mk (HB.out.trans (hba.mono HB.out.size))
  obtain ⟨W4, hW4⟩ : ∃ W, w4.alloc (.cells #[.slice A9 n' c9, .int .i64 h'] 24) = W := ⟨_, rfl⟩
  rw [show w4.alloc (.cells [.slice A9 n' c9, .int .i64 h'].toArray 24) = W4 from hW4] at HT9
  rw [hW4] at HT3 HT5 HT7 HF7 HF9 HB
  have HWS := Stow.mk hW4
  clear c0x c1x c2x c3x c4x c5x c6x c7x c8x c9x c10x c11x c12x
  clear q0 q1 hb4 hF9 hL9 ba hba hW4
  go_upto_region 5 with fail
  rw [show w4.alloc (.cells #[.slice A9 n' c9, .int .i64 h'] 24) = W4 from HWS.out]
  clear HWS
  have HSM := Stow.mk (fun W (hb : Below W4.heap.size W4 W) => flSameN L7 L9 A7 A9 n' c7 c9 h' W (by rw [← HCN.out, ← HL7.out, List.length_map]) (HL7.out.trans HL9.out.symm) (HF7.out.keep hb) (HF9.out.keep hb))
  have HSF := Stow.mk (fun (W : World) (hb : Below W4.heap.size W4 W) => show W.cell? ⟨w3.heap.size, 0, none⟩ = some (.slice A7 n' c7) ∧ W.cell? ⟨w3.heap.size, 1, none⟩ = some (.int .i64 h') ∧ W.cell? ⟨w4.heap.size, 0, none⟩ = some (.slice A9 n' c9) ∧ W.cell? ⟨w4.heap.size, 1, none⟩ = some (.int .i64 h') ∧ W.cell? ⟨w.heap.size, 0, none⟩ = some (.slice A n cap) ∧ W.cell? ⟨w.heap.size, 1, none⟩ = some (.int .i64 hops) ∧ W.cell? ⟨w.heap.size + 1 + 1, 0, none⟩ = some (.int .i64 st) ∧ W.cell? ⟨w.heap.size + 1 + 1, 1, none⟩ = some v ∧ W.cell? ⟨w.heap.size + 1 + 1, 2, none⟩ = some (.string (bs s)) from
    ⟨(HT7.out.kept hb).cell (i := 0) rfl, (HT7.out.kept hb).cell (i := 1) rfl, (HT9.out.kept hb).cell (i := 0) rfl, (HT9.out.kept hb).cell (i := 1) rfl, (HT3.out.kept hb).cell (i := 0) rfl, (HT3.out.kept hb).cell (i := 1) rfl, (HT5.out.kept hb).cell (i := 0) rfl, (HT5.out.kept hb).cell (i := 1) rfl, (HT5.out.kept hb).cell (i := 2) rfl⟩)
  have hkk := HSF.out W4 (Below.self W4)
  obtain ⟨k0, k1, k2, k3, k4, k5, k6, k7, k8⟩ := HSF.out W4 (Below.self W4)
  have heq : (er == er) = true := by simp
  go_region_held3 (fun w' => w'.cell? ⟨w3.heap.size, 0, none⟩ = some (.slice A7 n' c7) ∧ w'.cell? ⟨w3.heap.size, 1, none⟩ = some (.int .i64 h') ∧ w'.cell? ⟨w4.heap.size, 0, none⟩ = some (.slice A9 n' c9) ∧ w'.cell? ⟨w4.heap.size, 1, none⟩ = some (.int .i64 h') ∧ w'.cell? ⟨w.heap.size, 0, none⟩ = some (.slice A n cap) ∧ w'.cell? ⟨w.heap.size, 1, none⟩ = some (.int .i64 hops) ∧ w'.cell? ⟨w.heap.size + 1 + 1, 0, none⟩ = some (.int .i64 st) ∧ w'.cell? ⟨w.heap.size + 1 + 1, 1, none⟩ = some v ∧ w'.cell? ⟨w.heap.size + 1 + 1, 2, none⟩ = some (.string (bs s))) (first | go_keep | exact hkk)
    (first
      | (go_at_call_of 19 c7; (first | have HC := HBl | have HC := Stow.mk (Below.drew (Below.self W4))); refine (HSM.out _ HC.out).mono ?_; rintro e ws ⟨rfl, hbs⟩; have HBl := Stow.mk (HC.out.trans (hbs.mono HC.out.size)); have hkk := HSF.out _ HBl.out)
      | (go_at_call_of 19 ca; have HC := HBl; refine (flSameN La Lr Aa Ar n ca cr hops _ HLn.out (HLa.out.trans HLr.out.symm) HFa.out HFr.out).mono ?_; rintro e ws ⟨rfl, hbs⟩; have HBl := Stow.mk (HC.out.trans (hbs.mono HC.out.size)); have hkk := HSF.out _ HBl.out)
      | (go_at_call 20; (first | have HC := HBl | have HC := Stow.mk (Below.drew (Below.self W4))); refine (HAN.out _ (HB.out.trans (HC.out.mono HB.out.size))).mono ?_; rintro e wa ⟨Aa, ca, La, rfl, hLa, hWa, hba⟩; have HBl := Stow.mk (HC.out.trans (hba.mono HC.out.size)); have HFa := Stow.mk hWa.read; (try have HFr := Stow.mk (HFr.out.keep hba)); have HLa := Stow.mk hLa; have HLn := Stow.mk (show La.length = n by have h1 := congrArg List.length hLa; rw [List.length_map] at h1; rw [h1, ansL_len, List.length_map, HNL.out]); have hkk := HSF.out _ HBl.out)
      | (go_at_call 21; (first | have HC := HBl | have HC := Stow.mk (Below.drew (Below.self W4))); refine (HRA.out _ (HB.out.trans (HC.out.mono HB.out.size))).mono ?_; rintro e wr ⟨Ar, cr, Lr, rfl, hLr, hFr, hbr⟩; have HBl := Stow.mk (HC.out.trans (hbr.mono HC.out.size)); have HFr := Stow.mk hFr; (try have HFa := Stow.mk (HFa.out.keep hbr)); have HLr := Stow.mk hLr; have hkk := HSF.out _ HBl.out)
      | (go_at_call 16; have HC := HBl; refine (known37_any _).mono ?_; rintro e wk ⟨rfl, hbk⟩; have HBl := Stow.mk (HC.out.trans (hbk.mono HC.out.size)); have hkk := HSF.out _ HBl.out))
  all_goals
    have HBK := Stow.mk (HB.out.trans (HBl.out.mono HB.out.size))
    clear hkk k0 k1 k2 k3 k4 k5 k6 k7 k8
    go_wp2_with fail
    go_ret
    exact ⟨by first | rfl | simp, HBK.out⟩
end Go.Proofs.Ythbpcdoddcacdaa
