/- Walks of the laws ProgSays, ProgBack, ProgApart. Conditions: what the form's reach gives; ints; what the library's variables hold. -/
import Derived.Test.YtbnaicgomabigaaDoorPgKnown
namespace Go.Proofs.YtbnaicgomabigaaDoor
open Go.RowKit
set_option linter.unusedVariables false

/-- What is asked of an operation that came in. -/
structure Ob.fits (o : Ob) : Prop where
  a : o.a.length ≤ 140737488355328
  b : o.b.length ≤ 140737488355328
  n0 : -9223372036854775808 ≤ o.n
  n1 : o.n ≤ 9223372036854775807

theorem op_box (w : World) (k : Int) (a b : List UInt8) (n : Int) : Stow (∀ W, Below (w.alloc (.cells #[.int .i64 k, .string (bs a), .string (bs b), .int .i64 n] 23)).heap.size (w.alloc (.cells #[.int .i64 k, .string (bs a), .string (bs b), .int .i64 n] 23)) W → Held W w.heap.size [.int .i64 k, .string (bs a), .string (bs b), .int .i64 n] ∧ Below w.heap.size w W) :=
  ⟨fun W h => ⟨(Held.made w [.int .i64 k, .string (bs a), .string (bs b), .int .i64 n] _).kept h, Below.call (Below.alloc' (Below.self _) _) h⟩⟩

set_option maxHeartbeats 4000000 in
set_option maxRecDepth 100000 in
theorem says34 (o : Ob) (A : Option Addr) (cap : Nat) (L : List Ob) (l : List UInt8) (w : World) (hS : SlR w 4 (.slice A L.length cap) (L.map Ob.cells)) (hf : ∀ m ∈ L, m.a.length ≤ 140737488355328 ∧ m.b.length ≤ 140737488355328) (ho : o.fits) (hl : l.length ≤ 140737488355328) (hm : PgEnv w) :
    Calls Tryd.prog 3 #[o.val, .slice A L.length cap, .string (bs l)] w fun e w' => e = .returned (.bool true) ∧ Below w.heap.size w w' := by
  have HS := Stow.mk hS
  have HF := Stow.mk hf
  have HM := Stow.mk hm
  have HO := Stow.mk ho
  obtain ⟨ha, hb, hn0, hn1⟩ := ho
  clear hS hf hm
  obtain ⟨k, a, b, n⟩ := o
  simp only at ha hb hn0 hn1
  unfold Ob.val
  simp only
  have HX := op_box w k a b n
  have hB0 := (HX.out _ (Below.refl _ _)).2
  by_cases h400 : 400 < a.length + b.length
  · have d1 : (400 : Int) < (a.length : Int) + b.length := by omega
    go_enter Tryd.func3, Tryd.ntmps3
    go_wp2_with fail
    refine (known34_any _ (HM.out.keep hB0)).mono ?_
    rintro e wk ⟨rfl, hbk⟩
    go_wp2_with fail
    go_ret
    exact ⟨rfl, Below.trans hB0 (hbk.mono (Below.size hB0))⟩
  have d1 : ¬ (400 : Int) < (a.length : Int) + b.length := by omega
  obtain ⟨f, hfw⟩ : ∃ f, Pg.few L = f := ⟨_, rfl⟩
  have HFW := Stow.mk hfw
  clear hfw
  have HB0 := Stow.mk hB0
  clear hB0
  go_enter Tryd.func3, Tryd.ntmps3
  go_wp2_with fail
  refine (pgFew_any A cap L _ (HS.out.alloc _) HF.out).mono ?_
  rw [HFW.out]
  rintro e w1 ⟨rfl, hb1⟩
  obtain ⟨hH1, hB1⟩ := HX.out w1 hb1
  have HH1 := Stow.mk hH1
  have HB1 := Stow.mk hB1
  have HS1 := Stow.mk ((HS.out.alloc _).keep hb1)
  have c0 := hH1.cell (i := 0) rfl
  have c1 := hH1.cell (i := 1) rfl
  have c2 := hH1.cell (i := 2) rfl
  have c3 := hH1.cell (i := 3) rfl
  clear hH1 hB1 hb1
  cases f
  · go_wp2_with fail
    refine (known34_any _ (HM.out.keep HB1.out)).mono ?_
    rintro e wk ⟨rfl, hbk⟩
    go_wp2_with fail
    go_ret
    exact ⟨rfl, Below.trans HB1.out (hbk.mono (Below.size HB1.out))⟩
  by_cases hl400 : 400 < l.length
  · go_wp2_with fail
    refine (known34_any _ (HM.out.keep HB1.out)).mono ?_
    rintro e wk ⟨rfl, hbk⟩
    go_wp2_with fail
    go_ret
    exact ⟨rfl, Below.trans HB1.out (hbk.mono (Below.size HB1.out))⟩
  obtain ⟨cc, hcc⟩ : ∃ c, Pg.check ⟨k, a, b, n⟩ = c := ⟨_, rfl⟩
  obtain ⟨tt, htt⟩ : ∃ c, Pg.write ⟨k, a, b, n⟩ = c := ⟨_, rfl⟩
  obtain ⟨ca, hca⟩ : ∃ c, Pg.checkAll L = c := ⟨_, rfl⟩
  obtain ⟨r, hr⟩ : ∃ c, Pg.read l = c := ⟨_, rfl⟩
  have HCC := Stow.mk hcc
  have HTT := Stow.mk htt
  have HCA := Stow.mk hca
  have HR := Stow.mk hr
  clear hcc htt hca hr
  go_wp2_with fail
  refine (pgWrite_any ⟨k, a, b, n⟩ _ ha hb hn0 hn1 (HM.out.keep HB1.out).pow).mono ?_
  rw [HTT.out, HCC.out]
  rintro e w2 ⟨rfl, hb2⟩
  have HB2 : Stow (Below w.heap.size w w2) := ⟨HB1.out.trans (hb2.mono HB1.out.size)⟩
  have HH2 := Stow.mk (HH1.out.kept hb2)
  have HS2 := Stow.mk (HS1.out.keep hb2)
  clear hb2 c0 c1 c2 c3
  have c0 := HH2.out.cell (i := 0) rfl
  have c1 := HH2.out.cell (i := 1) rfl
  have c2 := HH2.out.cell (i := 2) rfl
  have c3 := HH2.out.cell (i := 3) rfl
  go_wp2_with fail
  refine (pgRefWrite_any ⟨k, a, b, n⟩ _ ha hb hn0 hn1).mono ?_
  rw [HTT.out, HCC.out]
  rintro e w3 ⟨rfl, hb3⟩
  have HB3 : Stow (Below w.heap.size w w3) := ⟨HB2.out.trans (hb3.mono HB2.out.size)⟩
  have HH3 := Stow.mk (HH2.out.kept hb3)
  have HS3 := Stow.mk (HS2.out.keep hb3)
  clear hb3 c0 c1 c2 c3
  go_wp2_with fail
  refine (pgRead_any l _ (by omega) (HM.out.keep HB3.out)).mono ?_
  rw [HR.out]
  rintro e w4 ⟨rfl, hb4⟩
  have HB4 : Stow (Below w.heap.size w w4) := ⟨HB3.out.trans (hb4.mono HB3.out.size)⟩
  have HH4 := Stow.mk (HH3.out.kept hb4)
  have HS4 := Stow.mk (HS3.out.keep hb4)
  clear hb4
  obtain ⟨q, hq⟩ : ∃ q, r.getD Pg.zero = q := ⟨_, rfl⟩
  obtain ⟨rb, hrb⟩ : ∃ q, r.isSome = q := ⟨_, rfl⟩
  rw [hq, hrb]
  obtain ⟨qk, qa, qb, qn⟩ := q
  have HQE := Stow.mk hq
  have HRB := Stow.mk hrb
  clear hq hrb
  simp only [Ob.val]
  have HQ := op_box w4 qk qa qb qn
  go_wp2_with fail
  refine (pgRefRead_any l _ (by omega)).mono ?_
  rw [HR.out, HQE.out, HRB.out]
  simp only [Ob.val]
  rintro e w5 ⟨rfl, hb5⟩
  obtain ⟨hQ5, hBQ5⟩ := HQ.out w5 hb5
  have HQ5 := Stow.mk hQ5
  have HB5 : Stow (Below w.heap.size w w5) := ⟨HB4.out.trans (hBQ5.mono HB4.out.size)⟩
  have HH5 := Stow.mk (HH4.out.kept hBQ5)
  have HS5 := Stow.mk (HS4.out.keep hBQ5)
  clear hb5 hQ5 hBQ5
  go_wp2_with fail
  generalize hWe : w5.alloc (.cells #[.int .i64 qk, .string (bs qa), .string (bs qb), .int .i64 qn] 23) = W
  have hBW : Below w5.heap.size w5 W := by rw [← hWe]; exact Below.alloc' (Below.self _) _
  have hZ : Held W w5.heap.size [.int .i64 qk, .string (bs qa), .string (bs qb), .int .i64 qn] := by rw [← hWe]; exact Held.made w5 [.int .i64 qk, .string (bs qa), .string (bs qb), .int .i64 qn] _
  have HBW : Stow (Below w.heap.size w W) := ⟨HB5.out.trans (hBW.mono HB5.out.size)⟩
  have hX := HH5.out.kept hBW
  have hY := HQ5.out.kept hBW
  have HSW := Stow.mk (HS5.out.keep hBW)
  have ltX := hX.lt
  have ltY := hY.lt
  have ltZ := hZ.lt
  have a0 : ∀ x : Later W.heap.size W, x.1.cell? ⟨w.heap.size, 0, none⟩ = _ := fun x => x.cell (hX.cell (i := 0) rfl) ltX
  have a1 : ∀ x : Later W.heap.size W, x.1.cell? ⟨w.heap.size, 1, none⟩ = _ := fun x => x.cell (hX.cell (i := 1) rfl) ltX
  have a2 : ∀ x : Later W.heap.size W, x.1.cell? ⟨w.heap.size, 2, none⟩ = _ := fun x => x.cell (hX.cell (i := 2) rfl) ltX
  have a3 : ∀ x : Later W.heap.size W, x.1.cell? ⟨w.heap.size, 3, none⟩ = _ := fun x => x.cell (hX.cell (i := 3) rfl) ltX
  have b0 : ∀ x : Later W.heap.size W, x.1.cell? ⟨w4.heap.size, 0, none⟩ = _ := fun x => x.cell (hY.cell (i := 0) rfl) ltY
  have b1 : ∀ x : Later W.heap.size W, x.1.cell? ⟨w4.heap.size, 1, none⟩ = _ := fun x => x.cell (hY.cell (i := 1) rfl) ltY
  have b2 : ∀ x : Later W.heap.size W, x.1.cell? ⟨w4.heap.size, 2, none⟩ = _ := fun x => x.cell (hY.cell (i := 2) rfl) ltY
  have b3 : ∀ x : Later W.heap.size W, x.1.cell? ⟨w4.heap.size, 3, none⟩ = _ := fun x => x.cell (hY.cell (i := 3) rfl) ltY
  have d0 : ∀ x : Later W.heap.size W, x.1.cell? ⟨w5.heap.size, 0, none⟩ = _ := fun x => x.cell (hZ.cell (i := 0) rfl) ltZ
  have d1 : ∀ x : Later W.heap.size W, x.1.cell? ⟨w5.heap.size, 1, none⟩ = _ := fun x => x.cell (hZ.cell (i := 1) rfl) ltZ
  have d2 : ∀ x : Later W.heap.size W, x.1.cell? ⟨w5.heap.size, 2, none⟩ = _ := fun x => x.cell (hZ.cell (i := 2) rfl) ltZ
  have d3 : ∀ x : Later W.heap.size W, x.1.cell? ⟨w5.heap.size, 3, none⟩ = _ := fun x => x.cell (hZ.cell (i := 3) rfl) ltZ
  have LB : Stow (∀ x : Later W.heap.size W, Below w.heap.size w x.1) := ⟨fun x => HBW.out.trans (x.2.mono HBW.out.size)⟩
  have K1 : Stow (∀ W1 : World, Calls Tryd.prog 18 #[.agg #[.int .i64 k, .string (bs a), .string (bs b), .int .i64 n]] W1 fun e w' => e = .returned (.int .i64 (cc : Nat)) ∧ Below W1.heap.size W1 w') := ⟨fun W1 => by have := pgCheck_any ⟨k, a, b, n⟩ W1 ha hb; rw [HCC.out] at this; exact this⟩
  have K2 : Stow (∀ W1 : World, Calls Tryd.prog 19 #[.agg #[.int .i64 k, .string (bs a), .string (bs b), .int .i64 n]] W1 fun e w' => e = .returned (.int .i64 (cc : Nat)) ∧ Below W1.heap.size W1 w') := ⟨fun W1 => by have := pgRefCheck_any ⟨k, a, b, n⟩ W1 ha hb; rw [HCC.out] at this; exact this⟩
  have K3 : Stow (∀ x : Later W.heap.size W, Calls Tryd.prog 20 #[.slice A L.length cap] x.1 fun e w' => e = .returned (.int .i64 (ca : Nat)) ∧ Below x.1.heap.size x.1 w') := ⟨fun x => by have := pgCheckAll_any A cap L x.1 (HSW.out.keep x.2) HF.out; rw [HCA.out] at this; exact this⟩
  have K4 : Stow (∀ x : Later W.heap.size W, Calls Tryd.prog 21 #[.slice A L.length cap] x.1 fun e w' => e = .returned (.int .i64 (ca : Nat)) ∧ Below x.1.heap.size x.1 w') := ⟨fun x => by have := pgRefCheckAll_any A cap L x.1 (HSW.out.keep x.2) HF.out; rw [HCA.out] at this; exact this⟩
  have z1 : ((cc : Int) == (cc : Int)) = true := by simp
  have z2 : ((ca : Int) == (ca : Int)) = true := by simp
  have z3 : (tt == tt) = true := by simp
  have z4 : (rb == rb) = true := by simp
  clear hWe hBW hX hY hZ
  refine wp_region_later W.heap.size (by kernel_rfl) (by kernel_rfl) ?_
  repeat (go_big_quiet_step (first
    | (go_at_call 18; exact Calls.later (Nat.le_refl _) (K1.out _))
    | (go_at_call 19; exact Calls.later (Nat.le_refl _) (K2.out _))
    | (go_at_call 20; exact Calls.later (Nat.le_refl _) (K3.out _))
    | (go_at_call 21; exact Calls.later (Nat.le_refl _) (K4.out _))
    | (go_at_call 13; exact Calls.later (Nat.le_refl _) (known34_any _ (HM.out.keep (LB.out _))))))
  refine wpQuiet_nil ?_
  rintro ⟨wx, hbx⟩
  clear a0 a1 a2 a3 b0 b1 b2 b3 d0 d1 d2 d3
  go_wp2_with fail
  go_ret
  exact ⟨by first | rfl | simp, Below.trans HBW.out (hbx.mono HBW.out.size)⟩

set_option maxHeartbeats 4000000 in
set_option maxRecDepth 100000 in
theorem apart34 (o p : Ob) (w : World) (ho : o.fits) (hp : p.fits) (hm : PgEnv w) :
    Calls Tryd.prog 5 #[o.val, p.val] w fun e w' => e = .returned (.bool true) ∧ Below w.heap.size w w' := by
  have HM := Stow.mk hm
  obtain ⟨ha, hb, hn0, hn1⟩ := ho
  obtain ⟨ha', hb', hn0', hn1'⟩ := hp
  clear hm
  obtain ⟨k, a, b, n⟩ := o
  obtain ⟨k', a', b', n'⟩ := p
  simp only at ha hb hn0 hn1 ha' hb' hn0' hn1'
  unfold Ob.val
  simp only
  have HX : Stow (∀ W, Below ((w.alloc (.cells #[.int .i64 k, .string (bs a), .string (bs b), .int .i64 n] 23)).alloc (.cells #[.int .i64 k', .string (bs a'), .string (bs b'), .int .i64 n'] 23)).heap.size ((w.alloc (.cells #[.int .i64 k, .string (bs a), .string (bs b), .int .i64 n] 23)).alloc (.cells #[.int .i64 k', .string (bs a'), .string (bs b'), .int .i64 n'] 23)) W →
      Held W w.heap.size [.int .i64 k, .string (bs a), .string (bs b), .int .i64 n] ∧ Held W (w.heap.size + 1) [.int .i64 k', .string (bs a'), .string (bs b'), .int .i64 n'] ∧ Below w.heap.size w W) := ⟨fun W h => by
    have e1 : (w.alloc (.cells #[.int .i64 k, .string (bs a), .string (bs b), .int .i64 n] 23)).heap.size = w.heap.size + 1 := by simp
    have h1 := ((Held.made w [.int .i64 k, .string (bs a), .string (bs b), .int .i64 n] 23).kept (Below.alloc' (Below.self _) (.cells #[.int .i64 k', .string (bs a'), .string (bs b'), .int .i64 n'] 23))).kept h
    have h2 := (Held.made (w.alloc (.cells #[.int .i64 k, .string (bs a), .string (bs b), .int .i64 n] 23)) [.int .i64 k', .string (bs a'), .string (bs b'), .int .i64 n'] 23).kept h
    rw [e1] at h2
    exact ⟨h1, h2, Below.call (Below.alloc' (Below.alloc' (Below.self _) _) _) h⟩⟩
  have hB0 := (HX.out _ (Below.refl _ _)).2.2
  by_cases h800 : 800 < a.length + b.length + a'.length + b'.length
  · have d1 : (800 : Int) < (a.length : Int) + b.length + a'.length + b'.length := by omega
    go_enter Tryd.func5, Tryd.ntmps5
    go_wp2_with fail
    refine (known34_any _ (HM.out.keep hB0)).mono ?_
    rintro e wk ⟨rfl, hbk⟩
    go_wp2_with fail
    go_ret
    exact ⟨rfl, Below.trans hB0 (hbk.mono (Below.size hB0))⟩
  have d1 : ¬ (800 : Int) < (a.length : Int) + b.length + a'.length + b'.length := by omega
  have HB0 := Stow.mk hB0
  clear hB0
  obtain ⟨cc, hcc⟩ : ∃ c, Pg.check ⟨k, a, b, n⟩ = c := ⟨_, rfl⟩
  obtain ⟨tt, htt⟩ : ∃ c, Pg.write ⟨k, a, b, n⟩ = c := ⟨_, rfl⟩
  obtain ⟨cc', hcc'⟩ : ∃ c, Pg.check ⟨k', a', b', n'⟩ = c := ⟨_, rfl⟩
  obtain ⟨tt', htt'⟩ : ∃ c, Pg.write ⟨k', a', b', n'⟩ = c := ⟨_, rfl⟩
  have HCC := Stow.mk hcc
  have HTT := Stow.mk htt
  have HCC' := Stow.mk hcc'
  have HTT' := Stow.mk htt'
  have HINJ : Stow (cc = 0 → cc' = 0 → (tt = tt' ↔ (k = k' ∧ a = a' ∧ b = b' ∧ n = n'))) := ⟨fun e1 e2 => by
    rw [← hcc] at e1
    rw [← hcc'] at e2
    have w1 : tt = Pg.text ⟨k, a, b, n⟩ := by rw [← htt]; unfold Pg.write; rw [if_pos e1]
    have w2 : tt' = Pg.text ⟨k', a', b', n'⟩ := by rw [← htt']; unfold Pg.write; rw [if_pos e2]
    constructor
    · intro h
      have := Pg.text_inj e1 e2 (by rw [← w1, ← w2, h])
      simpa using this
    · rintro ⟨rfl, rfl, rfl, rfl⟩
      rw [w1, w2]⟩
  clear hcc htt hcc' htt'
  go_enter Tryd.func5, Tryd.ntmps5
  go_wp2_with fail
  refine (pgWrite_any ⟨k, a, b, n⟩ _ ha hb hn0 hn1 (HM.out.keep HB0.out).pow).mono ?_
  rw [HTT.out, HCC.out]
  rintro e w1 ⟨rfl, hb1⟩
  obtain ⟨hH1, hH1', hB1⟩ := HX.out w1 hb1
  have HH1 := Stow.mk hH1
  have HH1' := Stow.mk hH1'
  have HB1 := Stow.mk hB1
  have c0 := hH1'.cell (i := 0) rfl
  have c1 := hH1'.cell (i := 1) rfl
  have c2 := hH1'.cell (i := 2) rfl
  have c3 := hH1'.cell (i := 3) rfl
  clear hH1 hH1' hB1 hb1
  go_wp2_with fail
  refine (pgWrite_any ⟨k', a', b', n'⟩ _ ha' hb' hn0' hn1' (HM.out.keep HB1.out).pow).mono ?_
  rw [HTT'.out, HCC'.out]
  rintro e w2 ⟨rfl, hb2⟩
  have HB2 : Stow (Below w.heap.size w w2) := ⟨HB1.out.trans (hb2.mono HB1.out.size)⟩
  have hH2 := HH1.out.kept hb2
  have hH2' := HH1'.out.kept hb2
  clear hb2 c0 c1 c2 c3
  have c0 := hH2.cell (i := 0) rfl
  have c1 := hH2.cell (i := 1) rfl
  have c2 := hH2.cell (i := 2) rfl
  have c3 := hH2.cell (i := 3) rfl
  have e0 := hH2'.cell (i := 0) rfl
  have e1 := hH2'.cell (i := 1) rfl
  have e2 := hH2'.cell (i := 2) rfl
  have e3 := hH2'.cell (i := 3) rfl
  clear hH2 hH2'
  have HB2' := HB2
  by_cases h0 : cc = 0
  rotate_left
  · have i0 : ((cc : Int) != 0) = true := by rw [bne_iff_ne]; omega
    go_wp2_with fail
    refine (known34_any _ (HM.out.keep HB2.out)).mono ?_
    rintro e wk ⟨rfl, hbk⟩
    go_wp2_with fail
    go_ret
    exact ⟨rfl, Below.trans HB2.out (hbk.mono (Below.size HB2.out))⟩
  by_cases h0' : cc' = 0
  rotate_left
  · have i0 : ((cc : Int) != 0) = false := by rw [h0]; rfl
    have i0' : ((cc' : Int) != 0) = true := by rw [bne_iff_ne]; omega
    go_wp2_with fail
    refine (known34_any _ (HM.out.keep HB2.out)).mono ?_
    rintro e wk ⟨rfl, hbk⟩
    go_wp2_with fail
    go_ret
    exact ⟨rfl, Below.trans HB2.out (hbk.mono (Below.size HB2.out))⟩
  have i0 : ((cc : Int) != 0) = false := by rw [h0]; rfl
  have i0' : ((cc' : Int) != 0) = false := by rw [h0']; rfl
  have HI := Stow.mk (HINJ.out h0 h0')
  clear h0 h0'
  by_cases ht : tt = tt'
  · obtain ⟨rfl, rfl, rfl, rfl⟩ := HI.out.1 ht
    have i1 : (tt == tt') = true := by rw [beq_iff_eq]; exact ht
    clear ht
    go_wp2_with fail
    refine (known34_any _ (HM.out.keep HB2.out)).mono ?_
    rintro e wk ⟨rfl, hbk⟩
    go_wp2_with fail
    go_ret
    exact ⟨rfl, Below.trans HB2.out (hbk.mono (Below.size HB2.out))⟩
  · have i1 : (tt == tt') = false := by rw [beq_eq_false_iff_ne]; exact ht
    have HNE : Stow (¬ (k = k' ∧ a = a' ∧ b = b' ∧ n = n')) := ⟨fun h => ht (HI.out.2 h)⟩
    clear ht
    go_wp2_with fail
    all_goals first
      | (refine (known34_any _ (HM.out.keep HB2.out)).mono ?_
         rintro e wk ⟨rfl, hbk⟩
         go_wp2_with fail
         go_ret
         exact ⟨rfl, Below.trans HB2.out (hbk.mono (Below.size HB2.out))⟩)
      | exact absurd ⟨by assumption, by assumption, by assumption, by assumption⟩ HNE.out
end Go.Proofs.YtbnaicgomabigaaDoor
