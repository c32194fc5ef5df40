/- Walk of the reference's Value. Conditions: texts not longer than 2^40; ints; the library's table lies. -/
import Derived.Test.YtkhepehgafijfaaDoorLineVal
namespace Go.Proofs.YtkhepehgafijfaaDoor
open Go.RowKit
set_option linter.unusedVariables false

set_option maxHeartbeats 2000000 in
set_option maxRecDepth 100000 in
theorem refValue_any (k : Int) (t : List UInt8) (r0 : Rc) (A : Option Addr) (cap : Nat) (w : World) (hS : SlR w 2 (.slice A r0.hs.length cap) (r0.hs.map Hd.cells)) (hr : r0.fits) :
    Calls Tryd.prog 16 #[.agg #[.int .i64 k, .string (bs t)], .agg #[.string (bs r0.m), .string (bs r0.h), .string (bs r0.p), .slice A r0.hs.length cap, .string (bs r0.b), .string (bs r0.tg), .int .i64 r0.st, .int .i64 r0.ve, .string (bs r0.tr), .int .i64 r0.t0, .int .i64 r0.t1]] w
      fun e w' => e = .returned (.string (bs (valueOf k t r0))) ∧ Below w.heap.size w w' := by
  have HF := Stow.mk hr
  have HS := Stow.mk hS
  clear hr hS
  obtain ⟨m, h, p, hs, b, tg, st, ve, tr, t0, t1⟩ := r0
  by_cases k0 : k = 0
  · subst k0
    go_enter Tryd.func16, Tryd.ntmps16
    go_wp2_with fail
    go_ret
    refine ⟨rfl, ?_⟩
    (repeat (first | exact Below.self _ | refine Below.alloc' ?_ _ | refine Below.drew ?_ | refine Below.drewN' ?_ _ | (refine Below.call ?_ (by assumption))))
  by_cases k1 : k = 1
  · subst k1
    have hx := HF.out.m
    simp only at hx
    go_enter Tryd.func16, Tryd.ntmps16
    go_wp2_with fail
    refine (refEscape_any m _ hx).mono ?_
    rintro e w1 ⟨rfl, rfl⟩
    go_wp2_with fail
    go_ret
    refine ⟨rfl, ?_⟩
    (repeat (first | exact Below.self _ | refine Below.alloc' ?_ _ | refine Below.drew ?_ | refine Below.drewN' ?_ _ | (refine Below.call ?_ (by assumption))))
  by_cases k2 : k = 2
  · subst k2
    have hx := HF.out.h
    simp only at hx
    go_enter Tryd.func16, Tryd.ntmps16
    go_wp2_with fail
    refine (refEscape_any h _ hx).mono ?_
    rintro e w1 ⟨rfl, rfl⟩
    go_wp2_with fail
    go_ret
    refine ⟨rfl, ?_⟩
    (repeat (first | exact Below.self _ | refine Below.alloc' ?_ _ | refine Below.drew ?_ | refine Below.drewN' ?_ _ | (refine Below.call ?_ (by assumption))))
  by_cases k3 : k = 3
  · subst k3
    have hx := HF.out.p
    simp only at hx
    go_enter Tryd.func16, Tryd.ntmps16
    go_wp2_with fail
    refine (refEscape_any p _ hx).mono ?_
    rintro e w1 ⟨rfl, rfl⟩
    go_wp2_with fail
    go_ret
    refine ⟨rfl, ?_⟩
    (repeat (first | exact Below.self _ | refine Below.alloc' ?_ _ | refine Below.drew ?_ | refine Below.drewN' ?_ _ | (refine Below.call ?_ (by assumption))))
  by_cases k4 : k = 4
  · subst k4
    have hx := HF.out.tg
    simp only at hx
    go_enter Tryd.func16, Tryd.ntmps16
    go_wp2_with fail
    refine (refEscape_any tg _ hx).mono ?_
    rintro e w1 ⟨rfl, rfl⟩
    go_wp2_with fail
    go_ret
    refine ⟨rfl, ?_⟩
    (repeat (first | exact Below.self _ | refine Below.alloc' ?_ _ | refine Below.drew ?_ | refine Below.drewN' ?_ _ | (refine Below.call ?_ (by assumption))))
  by_cases k7 : k = 7
  · subst k7
    have hx := HF.out.tr
    simp only at hx
    go_enter Tryd.func16, Tryd.ntmps16
    go_wp2_with fail
    refine (refEscape_any tr _ hx).mono ?_
    rintro e w1 ⟨rfl, rfl⟩
    go_wp2_with fail
    go_ret
    refine ⟨rfl, ?_⟩
    (repeat (first | exact Below.self _ | refine Below.alloc' ?_ _ | refine Below.drew ?_ | refine Below.drewN' ?_ _ | (refine Below.call ?_ (by assumption))))
  by_cases k5 : k = 5
  · subst k5
    have hx := HF.out.st
    simp only at hx
    go_enter Tryd.func16, Tryd.ntmps16
    go_wp2_with fail
    refine (refDigits_any _ st (Nat.le_refl _) _ hx.1 hx.2).mono ?_
    rintro e w1 ⟨rfl, hb1⟩
    go_wp2_with fail
    go_ret
    refine ⟨rfl, ?_⟩
    (repeat (first | exact Below.self _ | refine Below.alloc' ?_ _ | refine Below.drew ?_ | refine Below.drewN' ?_ _ | (refine Below.call ?_ (by assumption))))
  by_cases k6 : k = 6
  · subst k6
    have hx := HF.out.ve
    simp only at hx
    go_enter Tryd.func16, Tryd.ntmps16
    go_wp2_with fail
    refine (refDigits_any _ ve (Nat.le_refl _) _ hx.1 hx.2).mono ?_
    rintro e w1 ⟨rfl, hb1⟩
    go_wp2_with fail
    go_ret
    refine ⟨rfl, ?_⟩
    (repeat (first | exact Below.self _ | refine Below.alloc' ?_ _ | refine Below.drew ?_ | refine Below.drewN' ?_ _ | (refine Below.call ?_ (by assumption))))
  by_cases k8 : k = 8
  · subst k8
    have hx0 := HF.out.t0
    have hx1 := HF.out.t1
    simp only at hx0 hx1
    have hx := tookOf_fits hx0 hx1
    obtain ⟨m00, m01⟩ := i64_max hx0
    obtain ⟨m10, m11⟩ := i64_max hx1
    have HX := Stow.mk hx
    clear hx
    go_enter Tryd.func16, Tryd.ntmps16
    go_wp2_with fail
    refine (refDigits_any _ (tookOf t0 t1) (Nat.le_refl _) _ HX.out.1 HX.out.2).mono ?_
    rintro e w1 ⟨rfl, hb1⟩
    go_wp2_with fail
    go_ret
    refine ⟨rfl, ?_⟩
    (repeat (first | exact Below.self _ | refine Below.alloc' ?_ _ | refine Below.drew ?_ | refine Below.drewN' ?_ _ | (refine Below.call ?_ (by assumption))))
  by_cases k9 : k = 9
  · subst k9
    have hx := hdGet_len (t := t) HF.out.v
    simp only at hx
    have hn := HF.out.n
    simp only at hn
    obtain ⟨o, ho⟩ : ∃ o, hdGet hs t = o := ⟨_, rfl⟩
    rw [ho] at hx
    have HO := Stow.mk ho
    clear ho
    cases o with
    | none =>
      have HV : Stow (valueOf 9 t ⟨m, h, p, hs, b, tg, st, ve, tr, t0, t1⟩ = [45]) := ⟨by
        show Ln.esc ((hdGet hs t).getD []) = _
        rw [HO.out]; rfl⟩
      go_enter Tryd.func16, Tryd.ntmps16
      go_wp2_with fail
      refine (refHdGet_any t A cap hs _ (HS.out.keep ?_) hn).mono ?_
      · (repeat (first | exact Below.self _ | refine Below.alloc' ?_ _ | refine Below.drew ?_ | refine Below.drewN' ?_ _ | (refine Below.call ?_ (by assumption))))
      rw [HO.out]
      rintro e w1 ⟨rfl, hb1⟩
      go_wp2_with fail
      go_ret
      refine ⟨by rw [HV.out]; rfl, ?_⟩
      (repeat (first | exact Below.self _ | refine Below.alloc' ?_ _ | refine Below.drew ?_ | refine Below.drewN' ?_ _ | (refine Below.call ?_ (by assumption))))
    | some y =>
      have HV : Stow (valueOf 9 t ⟨m, h, p, hs, b, tg, st, ve, tr, t0, t1⟩ = Ln.esc y) := ⟨by
        show Ln.esc ((hdGet hs t).getD []) = _
        rw [HO.out]; rfl⟩
      go_enter Tryd.func16, Tryd.ntmps16
      go_wp2_with fail
      refine (refHdGet_any t A cap hs _ (HS.out.keep ?_) hn).mono ?_
      · (repeat (first | exact Below.self _ | refine Below.alloc' ?_ _ | refine Below.drew ?_ | refine Below.drewN' ?_ _ | (refine Below.call ?_ (by assumption))))
      rw [HO.out]
      rintro e w1 ⟨rfl, hb1⟩
      go_wp2_with fail
      refine (refEscape_any _ _ hx).mono ?_
      rintro e w2 ⟨rfl, rfl⟩
      go_wp2_with fail
      go_ret
      refine ⟨by rw [HV.out]; rfl, ?_⟩
      (repeat (first | exact Below.self _ | refine Below.alloc' ?_ _ | refine Below.drew ?_ | refine Below.drewN' ?_ _ | (refine Below.call ?_ (by assumption))))
  have HV : Stow (valueOf k t ⟨m, h, p, hs, b, tg, st, ve, tr, t0, t1⟩ = []) := ⟨by
    unfold valueOf
    simp [k0, k1, k2, k3, k4, k5, k6, k7, k8, k9]⟩
  have e0 : (k == 0) = false := by simpa using k0
  have e1 : (k == 1) = false := by simpa using k1
  have e2 : (k == 2) = false := by simpa using k2
  have e3 : (k == 3) = false := by simpa using k3
  have e4 : (k == 4) = false := by simpa using k4
  have e5 : (k == 5) = false := by simpa using k5
  have e6 : (k == 6) = false := by simpa using k6
  have e7 : (k == 7) = false := by simpa using k7
  have e8 : (k == 8) = false := by simpa using k8
  have e9 : (k == 9) = false := by simpa using k9
  clear k0 k1 k2 k3 k4 k5 k6 k7 k8 k9
  go_enter Tryd.func16, Tryd.ntmps16
  go_wp2_with fail
  go_ret
  refine ⟨by rw [HV.out]; rfl, ?_⟩
  (repeat (first | exact Below.self _ | refine Below.alloc' ?_ _ | refine Below.drew ?_ | refine Below.drewN' ?_ _ | (refine Below.call ?_ (by assumption))))
end Go.Proofs.YtkhepehgafijfaaDoor
