/- Walks of the laws InjectBack and InjectTwice. Conditions: what the form's reach gives; a variable of the library's holds an int. -/
import Derived.Test.YtbnaicgomabigaaDoorInBack
namespace Go.Proofs.YtbnaicgomabigaaDoor
open Go.RowKit
set_option linter.unusedVariables false

theorem eql_parent (hi lo sp : Nat) (fl : Int) (w : World) : (Op.equalIn 10000 42 (.agg #[.int .u64 hi, .int .u64 lo, .int .u64 sp, .int .i64 fl]) (.agg #[.int .u64 hi, .int .u64 lo, .int .u64 sp, .int .i64 fl])).run Tryd.prog w = .ok true w := by
  have hu := Tryd.underlying38
  have hj := Tryd.underlying3
  simp [go_sem, Tryd.underlying42, Tryd.underlying40]

set_option maxHeartbeats 4000000 in
set_option maxRecDepth 100000 in
theorem back23 (L : List Hd) (A : Option Addr) (cap : Nat) (p : Pr) (w : World) (hS : HdR w A cap L) (hf : In.Pr.fits p) (hm : MaxIs w) :
    Calls Tryd.prog 6 #[.slice A L.length cap, p.val] w fun e w' => e = .returned (.bool true) ∧ Below w.heap.size w w' := by
  have HM := Stow.mk hm
  have HS := Stow.mk hS
  have HX := in_into_box w p
  obtain ⟨f, hfw⟩ : ∃ f, fewH L = f := ⟨_, rfl⟩
  have KF := fun W h => few04_any L A cap W h
  rw [hfw] at KF
  have HKF := Stow.mk KF
  have HF : Stow (f = true → L.length ≤ 60 ∧ ∀ m ∈ L, m.2.length ≤ 400) := ⟨fun h => fewH_of (by rw [hfw]; exact h)⟩
  obtain ⟨er, he⟩ : ∃ er, In.prErr p = er := ⟨_, rfl⟩
  have K2 := fun W h h1 h2 hm => inInto_any L A cap p W h h1 h2 hf hm
  rw [he] at K2
  have HK2 := Stow.mk K2
  have HP : Stow (er ≠ 0 → In.put L p = []) := ⟨fun h => by unfold In.put; rw [if_neg (by rw [he]; exact h)]⟩
  have HP0 : Stow (er = 0 → In.put L p = In.into L p ∧ In.from_ (In.into L p) = (p, 0)) := ⟨fun h => ⟨by unfold In.put; rw [if_pos (by rw [he]; exact h)], In.from_into L (by rw [he]; exact h) hf⟩⟩
  have HALL : Stow (In.strip (In.into L p) = In.strip L ∧ hdAll (In.into L p) In.tp = [In.prText p] ∧ hdAll (In.into L p) In.ts = [In.stText L p.sp] ∧ Ms.valueOk (In.prText p) = true ∧ (In.prText p).length = 55) := ⟨In.strip_into L p, In.into_tp L p, In.into_ts L p, In.prText_value p, In.prText_len p⟩
  have HST := Stow.mk (In.state_fine L p.sp)
  have HIL := Stow.mk (In.into_size L p)
  have HIM := Stow.mk (fun m h => In.into_mem (L := L) (p := p) (m := m) h)
  obtain ⟨T, hT⟩ : ∃ T, In.prText p = T := ⟨_, rfl⟩
  obtain ⟨S, hSS⟩ : ∃ S, In.stText L p.sp = S := ⟨_, rfl⟩
  obtain ⟨I, hI⟩ : ∃ I, In.into L p = I := ⟨_, rfl⟩
  obtain ⟨Z, hZ⟩ : ∃ Z, In.strip L = Z := ⟨_, rfl⟩
  obtain ⟨Q, hQ⟩ : ∃ Q, In.put L p = Q := ⟨_, rfl⟩
  rw [hT, hSS, hI, hZ] at HALL
  rw [hSS] at HST
  rw [hI] at HIL HIM HP0
  rw [hQ] at HP HP0 HK2
  have KSL := fun W h h1 => inStrip_any A cap L W h h1
  rw [hZ] at KSL
  have HKSL := Stow.mk KSL
  clear hm hS KF hfw he K2 hf hT hSS hI hZ hQ KSL
  obtain ⟨hi, lo, sp, fl⟩ := p
  unfold Pr.val at HK2 ⊢
  simp only at HK2 HX ⊢
  go_enter Tryd.func6, Tryd.ntmps6
  go_wp2_with fail
  refine (HKF.out _ (HS.out.alloc _)).mono ?_
  rintro e w1 ⟨rfl, hb1⟩
  obtain ⟨hX1, hB1⟩ := HX.out w1 hb1
  have HX1 := Stow.mk hX1
  have HB1 := Stow.mk hB1
  have HS1 := Stow.mk ((HS.out.alloc _).keep hb1)
  clear hb1 hX1 hB1
  cases f
  · go_wp2_with fail
    refine (known23_any _ (HM.out.keep HB1.out)).mono ?_
    rintro e wk ⟨rfl, hbk⟩
    go_wp2_with fail
    go_ret
    exact ⟨rfl, Below.trans HB1.out (hbk.mono (Below.size HB1.out))⟩
  obtain ⟨h60, h400⟩ := HF.out rfl
  have H400 := Stow.mk h400
  clear h400
  have c0p := Held.cell HX1.out (i := 0) rfl
  have c1p := Held.cell HX1.out (i := 1) rfl
  have c2p := Held.cell HX1.out (i := 2) rfl
  have c3p := Held.cell HX1.out (i := 3) rfl
  go_wp2_with fail
  refine (HK2.out _ HS1.out.slr (by omega) H400.out (HM.out.keep HB1.out)).mono ?_
  rintro e w2 ⟨v2, rfl, hr2, hb2⟩
  have HX2 := Stow.mk (HX1.out.kept hb2)
  have HB2 : Stow (Below w.heap.size w w2) := ⟨HB1.out.trans (hb2.mono HB1.out.size)⟩
  have HS2 := Stow.mk (HS1.out.keep hb2)
  clear hb2 c0p c1p c2p c3p
  by_cases h0 : er = 0
  rotate_left
  · have hz := HP.out h0
    subst hz
    obtain ⟨A2, c2, rfl⟩ := hr2.form
    have h0i : ((er : Int) != 0) = true := by rw [bne_iff_ne]; omega
    simp only [List.length_nil]
    clear hr2
    go_wp2_with fail
    refine (known23_any _ (HM.out.keep HB2.out)).mono ?_
    rintro e wk ⟨rfl, hbk⟩
    go_wp2_with fail
    go_ret
    exact ⟨rfl, Below.trans HB2.out (hbk.mono (Below.size HB2.out))⟩
  obtain ⟨hz, hfr⟩ := HP0.out h0
  subst hz h0
  obtain ⟨A2, c2, rfl⟩ := hr2.form
  have HR2 := Stow.mk hr2.slr
  have HFR := Stow.mk hfr
  have HIV : Stow (∀ m ∈ Q, m.2.length ≤ 140737488355328) := ⟨fun m hm => by
    rcases HIM.out m hm with h | h
    · omega
    · have := H400.out m h; omega⟩
  have hQL := HIL.out
  clear hr2 hfr
  go_wp2_with fail
  refine (inFrom_any Q A2 c2 _ HR2.out HIV.out).mono ?_
  rw [HFR.out]
  unfold Pr.val
  rintro e w3 ⟨rfl, hb3⟩
  have HX3 := Stow.mk (HX2.out.kept (Below.call (Below.self _) hb3))
  have HB3 : Stow (Below w.heap.size w w3) := ⟨HB2.out.trans (hb3.mono HB2.out.size)⟩
  have HS3 := Stow.mk (HS2.out.keep hb3)
  have HR3 := Stow.mk (HR2.out.keep hb3)
  have hY := Held.made w3 [.int .u64 hi, .int .u64 lo, .int .u64 sp, .int .i64 fl] 42
  have hX4 := HX3.out.kept (Below.alloc' (Below.self w3) (.cells #[.int .u64 hi, .int .u64 lo, .int .u64 sp, .int .i64 fl] 42))
  have c0p := Held.cell hX4 (i := 0) rfl
  have c1p := Held.cell hX4 (i := 1) rfl
  have c2p := Held.cell hX4 (i := 2) rfl
  have c3p := Held.cell hX4 (i := 3) rfl
  have c0q := Held.cell hY (i := 0) rfl
  have c1q := Held.cell hY (i := 1) rfl
  have c2q := Held.cell hY (i := 2) rfl
  have c3q := Held.cell hY (i := 3) rfl
  clear hb3 hY hX4
  have heq := eql_parent hi lo sp fl
  simp only
  have KSQ := fun W h => inStrip_any A2 c2 Q W h (by omega)
  rw [HALL.out.1] at KSQ
  have HKSQ := Stow.mk KSQ
  have KA := fun W h => refAll_any In.tp A2 c2 Q W h (by omega)
  have KB := fun W h => refAll_any In.ts A2 c2 Q W h (by omega)
  have KG := fun W h => refHdGet_any In.ts A2 c2 Q W h (by omega)
  rw [hdAll_get] at KG
  rw [HALL.out.2.1] at KA
  rw [HALL.out.2.2.1] at KB KG
  simp only [← tp_bs, ← ts_bs] at KA KB KG
  have HKA := Stow.mk KA
  have HKB := Stow.mk KB
  have HKG := Stow.mk KG
  clear KSQ KA KB KG
  go_wp2_with fail
  refine (HKSQ.out _ (HR3.out.alloc _)).mono ?_
  rintro e w4 ⟨v4, rfl, hr4, hb4⟩
  have hb34 : Below w3.heap.size w3 w4 := Below.call (Below.alloc' (Below.self _) _) hb4
  have HB4 : Stow (Below w.heap.size w w4) := ⟨HB3.out.trans (hb34.mono HB3.out.size)⟩
  have HS4 := Stow.mk (HS3.out.keep hb34)
  have HR4 := Stow.mk (HR3.out.keep hb34)
  have HZ4 := Stow.mk hr4.slr
  clear c0p c1p c2p c3p c0q c1q c2q c3q hr4 hb4 hb34 heq
  go_wp2_with fail
  refine (HKSL.out _ HS4.out.slr (by omega)).mono ?_
  rintro e w5 ⟨v5, rfl, hr5, hb5⟩
  have HB5 : Stow (Below w.heap.size w w5) := ⟨HB4.out.trans (hb5.mono HB4.out.size)⟩
  have HR5 := Stow.mk (HR4.out.keep hb5)
  have HZ5 := Stow.mk (HZ4.out.keep hb5)
  have HY5 := Stow.mk hr5.slr
  clear hr5 hb5
  go_wp2_with fail
  refine (hdSame_any Z v4 v5 _ HZ5.out HY5.out).mono ?_
  rintro e w6 ⟨rfl, hb6⟩
  have HB6 : Stow (Below w.heap.size w w6) := ⟨HB5.out.trans (hb6.mono HB5.out.size)⟩
  have HR6 := Stow.mk (HR5.out.keep hb6)
  clear hb6
  go_wp2_with fail
  refine (HKA.out _ HR6.out).mono ?_
  rintro e w7 ⟨v7, rfl, hr7, hb7⟩
  have HB7 : Stow (Below w.heap.size w w7) := ⟨HB6.out.trans (hb7.mono HB6.out.size)⟩
  have HR7 := Stow.mk (HR6.out.keep hb7)
  obtain ⟨A7, c7, rfl⟩ := hr7.form
  simp only [List.length_singleton]
  clear hr7 hb7
  go_wp2_with fail
  refine (HKB.out _ HR7.out).mono ?_
  rintro e w8 ⟨v8, rfl, hr8, hb8⟩
  have HB8 : Stow (Below w.heap.size w w8) := ⟨HB7.out.trans (hb8.mono HB7.out.size)⟩
  have HR8 := Stow.mk (HR7.out.keep hb8)
  obtain ⟨A8, c8, rfl⟩ := hr8.form
  simp only [List.length_singleton]
  clear hr8 hb8
  go_wp2_with fail
  refine (HKG.out _ HR8.out).mono ?_
  simp only [List.head?_cons, Option.getD_some, Option.isSome_some]
  rintro e w9 ⟨rfl, hb9⟩
  have HB9 : Stow (Below w.heap.size w w9) := ⟨HB8.out.trans (hb9.mono HB8.out.size)⟩
  have HR9 := Stow.mk (HR8.out.keep hb9)
  clear hb9
  go_wp2_with fail
  refine (HKA.out _ HR9.out).mono ?_
  rintro e w10 ⟨v10, rfl, hr10, hb10⟩
  have HB10 : Stow (Below w.heap.size w w10) := ⟨HB9.out.trans (hb10.mono HB9.out.size)⟩
  have hs10 := trow_slr hr10
  obtain ⟨A10, c10, rfl⟩ := hr10.form
  simp only [List.length_singleton] at hs10 ⊢
  obtain ⟨b, off, rfl, hblt, hc⟩ := hs10.open (by simp)
  have t0 := (hs10.cells (i := 0) rfl).2 0 _ rfl
  simp only [Nat.zero_mul, Nat.add_zero] at t0
  have hvT := Stow.mk HALL.out.2.2.2.1
  have hTl := HALL.out.2.2.2.2
  clear hr10 hb10 hs10 hc
  have h01 : (0 : Int) < 1 := by omega
  go_wp2_with fail
  refine (refValue_any T _ (by omega)).mono ?_
  rw [hvT.out]
  rintro e w11 ⟨rfl, rfl⟩
  have HVS := Stow.mk HST.out.1
  clear t0
  go_wp2_with fail
  refine (refValue_any S _ (by obtain ⟨_, R, hSR, hR1, hR2⟩ := HST.out; rw [hSR]; simp only [List.length_cons]; omega)).mono ?_
  rw [HVS.out]
  rintro e w12 ⟨rfl, rfl⟩
  obtain ⟨_, R, hSR, hR1, hR2⟩ := HST.out
  obtain ⟨Bv, hbv⟩ : ∃ Bv, bs S = Bv := ⟨_, rfl⟩
  have hge : (21 : Int) ≤ Bv.size := by rw [← hbv, bs_size, hSR]; simp only [List.length_cons]; omega
  have hin5 : (0 : Int) ≤ 5 ∧ (5 : Int) ≤ Bv.size := ⟨by omega, by omega⟩
  have hex : Bv.extract 0 5 = ⟨#[109, 101, 115, 104, 61]⟩ := by rw [← hbv, bs_extract, hSR] <;> rfl
  rw [hbv]
  clear hSR hbv HALL HST HKG HKB hTl
  go_wp2_with fail
  go_wp2_with fail
  refine (known23_any _ (HM.out.keep HB10.out)).mono ?_
  rintro e wk ⟨rfl, hbk⟩
  go_wp2_with fail
  go_ret
  exact ⟨rfl, Below.trans HB10.out (hbk.mono (Below.size HB10.out))⟩

theorem put_mem {L : List Hd} {p : Pr} {m : Hd} (h : m ∈ In.put L p) : m.2.length ≤ 64 ∨ m ∈ L := by
  unfold In.put at h
  split at h
  · exact In.into_mem h
  · simp at h
theorem put_size (L : List Hd) (p : Pr) : (In.put L p).length ≤ L.length + 2 := by
  unfold In.put
  split
  · exact In.into_size L p
  · simp

set_option maxHeartbeats 4000000 in
set_option maxRecDepth 100000 in
theorem twice23 (L : List Hd) (A : Option Addr) (cap : Nat) (p q : Pr) (w : World) (hS : HdR w A cap L) (hf : In.Pr.fits p) (hg : In.Pr.fits q) (hm : MaxIs w) :
    Calls Tryd.prog 7 #[.slice A L.length cap, p.val, q.val] w fun e w' => e = .returned (.bool true) ∧ Below w.heap.size w w' := by
  have HM := Stow.mk hm
  have HS := Stow.mk hS
  obtain ⟨f, hfw⟩ : ∃ f, fewH L = f := ⟨_, rfl⟩
  have KF := fun W h => few04_any L A cap W h
  rw [hfw] at KF
  have HKF := Stow.mk KF
  have HF : Stow (f = true → L.length ≤ 60 ∧ ∀ m ∈ L, m.2.length ≤ 400) := ⟨fun h => fewH_of (by rw [hfw]; exact h)⟩
  obtain ⟨er, he⟩ : ∃ er, In.prErr p = er := ⟨_, rfl⟩
  obtain ⟨es, hs⟩ : ∃ es, In.prErr q = es := ⟨_, rfl⟩
  have K2 := fun W h h1 h2 hm => inInto_any L A cap p W h h1 h2 hf hm
  have K3 := fun A' c' W h h1 h2 hm => inInto_any (In.put L p) A' c' q W h h1 h2 hg hm
  rw [he] at K2
  rw [hs] at K3
  have HP0 : Stow (er = 0 → es = 0 → In.from_ (In.put (In.put L p) q) = (q, 0) ∧ In.strip (In.put (In.put L p) q) = In.strip L ∧ (In.put (In.put L p) q).length = (In.strip L).length + 2) := ⟨fun h h' => by
    have e1 : In.put L p = In.into L p := by unfold In.put; rw [if_pos (by rw [he]; exact h)]
    have e2 : ∀ X, In.put X q = In.into X q := fun X => by unfold In.put; rw [if_pos (by rw [hs]; exact h')]
    rw [e2, e1]
    exact ⟨In.from_into _ (by rw [hs]; exact h') hg, by rw [In.strip_into, In.strip_into], by rw [In.into_len, In.strip_into]⟩⟩
  have HL1 := Stow.mk (put_size L p)
  have HL2 := Stow.mk (put_size (In.put L p) q)
  have HM1 := Stow.mk (fun m h => put_mem (L := L) (p := p) (m := m) h)
  have HM2 := Stow.mk (fun m h => put_mem (L := In.put L p) (p := q) (m := m) h)
  obtain ⟨I, hI⟩ : ∃ I, In.put L p = I := ⟨_, rfl⟩
  rw [hI] at HP0 HL1 HL2 HM1 HM2 K2 K3
  obtain ⟨J, hJ⟩ : ∃ J, In.put I q = J := ⟨_, rfl⟩
  rw [hJ] at HP0 HL2 HM2 K3
  obtain ⟨Z, hZ⟩ : ∃ Z, In.strip L = Z := ⟨_, rfl⟩
  have KSL := fun W h h1 => inStrip_any A cap L W h h1
  rw [hZ] at KSL HP0
  have HKSL := Stow.mk KSL
  have HK2 := Stow.mk K2
  have HK3 := Stow.mk K3
  clear hm hS KF hfw he hs K2 K3 hf hg hI hJ hZ KSL
  obtain ⟨hi, lo, sp, fl⟩ := p
  obtain ⟨hi', lo', sp', fl'⟩ := q
  unfold Pr.val at HK2 HK3 ⊢
  simp only at HK2 HK3 ⊢
  have HX : Stow (∀ W, Below ((w.alloc (.cells #[.int .u64 hi, .int .u64 lo, .int .u64 sp, .int .i64 fl] 42)).alloc (.cells #[.int .u64 hi', .int .u64 lo', .int .u64 sp', .int .i64 fl'] 42)).heap.size ((w.alloc (.cells #[.int .u64 hi, .int .u64 lo, .int .u64 sp, .int .i64 fl] 42)).alloc (.cells #[.int .u64 hi', .int .u64 lo', .int .u64 sp', .int .i64 fl'] 42)) W →
      Held W w.heap.size [.int .u64 hi, .int .u64 lo, .int .u64 sp, .int .i64 fl] ∧ Held W (w.heap.size + 1) [.int .u64 hi', .int .u64 lo', .int .u64 sp', .int .i64 fl'] ∧ Below w.heap.size w W) := ⟨fun W hb => by
    have e1 : (w.alloc (.cells #[.int .u64 hi, .int .u64 lo, .int .u64 sp, .int .i64 fl] 42)).heap.size = w.heap.size + 1 := by simp
    have h1 := ((Held.made w [.int .u64 hi, .int .u64 lo, .int .u64 sp, .int .i64 fl] 42).kept (Below.alloc' (Below.self _) (.cells #[.int .u64 hi', .int .u64 lo', .int .u64 sp', .int .i64 fl'] 42))).kept hb
    have h2 := (Held.made (w.alloc (.cells #[.int .u64 hi, .int .u64 lo, .int .u64 sp, .int .i64 fl] 42)) [.int .u64 hi', .int .u64 lo', .int .u64 sp', .int .i64 fl'] 42).kept hb
    rw [e1] at h2
    exact ⟨h1, h2, Below.call (Below.alloc' (Below.alloc' (Below.self _) _) _) hb⟩⟩
  go_enter Tryd.func7, Tryd.ntmps7
  go_wp2_with fail
  refine (HKF.out _ ((HS.out.alloc _).alloc _)).mono ?_
  rintro e w1 ⟨rfl, hb1⟩
  obtain ⟨hX1, hY1, hB1⟩ := HX.out w1 hb1
  have HX1 := Stow.mk hX1
  have HY1 := Stow.mk hY1
  have HB1 := Stow.mk hB1
  have HS1 := Stow.mk (((HS.out.alloc _).alloc _).keep hb1)
  clear hb1 hX1 hY1 hB1
  cases f
  · go_wp2_with fail
    refine (known23_any _ (HM.out.keep HB1.out)).mono ?_
    rintro e wk ⟨rfl, hbk⟩
    go_wp2_with fail
    go_ret
    exact ⟨rfl, Below.trans HB1.out (hbk.mono (Below.size HB1.out))⟩
  obtain ⟨h60, h400⟩ := HF.out rfl
  have H400 := Stow.mk h400
  clear h400
  have c0p := Held.cell HX1.out (i := 0) rfl
  have c1p := Held.cell HX1.out (i := 1) rfl
  have c2p := Held.cell HX1.out (i := 2) rfl
  have c3p := Held.cell HX1.out (i := 3) rfl
  go_wp2_with fail
  refine (HK2.out _ HS1.out.slr (by omega) H400.out (HM.out.keep HB1.out)).mono ?_
  rintro e w2 ⟨v2, rfl, hr2, hb2⟩
  have HY2 := Stow.mk (HY1.out.kept hb2)
  have HB2 : Stow (Below w.heap.size w w2) := ⟨HB1.out.trans (hb2.mono HB1.out.size)⟩
  have HS2 := Stow.mk (HS1.out.keep hb2)
  obtain ⟨A2, c2, rfl⟩ := hr2.form
  have HR2 := Stow.mk hr2.slr
  have hIL := HL1.out
  have HI4 : Stow (∀ m ∈ I, m.2.length ≤ 400) := ⟨fun m hm => by
    rcases HM1.out m hm with h | h
    · omega
    · exact H400.out m h⟩
  clear hb2 hr2 c0p c1p c2p c3p
  have c0q := Held.cell HY2.out (i := 0) rfl
  have c1q := Held.cell HY2.out (i := 1) rfl
  have c2q := Held.cell HY2.out (i := 2) rfl
  have c3q := Held.cell HY2.out (i := 3) rfl
  go_wp2_with fail
  refine (HK3.out A2 c2 _ HR2.out (by omega) HI4.out (HM.out.keep HB2.out)).mono ?_
  rintro e w3 ⟨v3, rfl, hr3, hb3⟩
  have HY3 := Stow.mk (HY2.out.kept hb3)
  have HB3 : Stow (Below w.heap.size w w3) := ⟨HB2.out.trans (hb3.mono HB2.out.size)⟩
  have HS3 := Stow.mk (HS2.out.keep hb3)
  obtain ⟨A3, c3, rfl⟩ := hr3.form
  have HR3 := Stow.mk hr3.slr
  have hJL := HL2.out
  have HJ4 : Stow (∀ m ∈ J, m.2.length ≤ 140737488355328) := ⟨fun m hm => by
    rcases HM2.out m hm with h | h
    · omega
    · have := HI4.out m h; omega⟩
  clear hb3 hr3 c0q c1q c2q c3q
  by_cases h0 : er = 0
  rotate_left
  · have h0i : ((er : Int) != 0) = true := by rw [bne_iff_ne]; omega
    go_wp2_with fail
    refine (known23_any _ (HM.out.keep HB3.out)).mono ?_
    rintro e wk ⟨rfl, hbk⟩
    go_wp2_with fail
    go_ret
    exact ⟨rfl, Below.trans HB3.out (hbk.mono (Below.size HB3.out))⟩
  by_cases h1 : es = 0
  rotate_left
  · subst h0
    have h1i : ((es : Int) != 0) = true := by rw [bne_iff_ne]; omega
    go_wp2_with fail
    refine (known23_any _ (HM.out.keep HB3.out)).mono ?_
    rintro e wk ⟨rfl, hbk⟩
    go_wp2_with fail
    go_ret
    exact ⟨rfl, Below.trans HB3.out (hbk.mono (Below.size HB3.out))⟩
  have HPP := Stow.mk (HP0.out h0 h1)
  subst h0 h1
  go_wp2_with fail
  refine (inFrom_any J A3 c3 _ HR3.out HJ4.out).mono ?_
  rw [HPP.out.1]
  unfold Pr.val
  rintro e w4 ⟨rfl, hb4⟩
  have HB4 : Stow (Below w.heap.size w w4) := ⟨HB3.out.trans (hb4.mono HB3.out.size)⟩
  have HS4 := Stow.mk (HS3.out.keep hb4)
  have HR4 := Stow.mk (HR3.out.keep hb4)
  have hA := Held.made w4 [.int .u64 hi', .int .u64 lo', .int .u64 sp', .int .i64 fl'] 42
  have hQ := (HY3.out.kept hb4).kept (Below.alloc' (Below.self w4) (.cells #[.int .u64 hi', .int .u64 lo', .int .u64 sp', .int .i64 fl'] 42))
  have c0a := Held.cell hA (i := 0) rfl
  have c1a := Held.cell hA (i := 1) rfl
  have c2a := Held.cell hA (i := 2) rfl
  have c3a := Held.cell hA (i := 3) rfl
  have c0q := Held.cell hQ (i := 0) rfl
  have c1q := Held.cell hQ (i := 1) rfl
  have c2q := Held.cell hQ (i := 2) rfl
  have c3q := Held.cell hQ (i := 3) rfl
  clear hb4 hA hQ
  have heq := eql_parent hi' lo' sp' fl'
  simp only
  have KSJ := fun W h => inStrip_any A3 c3 J W h (by omega)
  rw [HPP.out.2.1] at KSJ
  have HKSJ := Stow.mk KSJ
  clear KSJ
  go_wp2_with fail
  refine (HKSJ.out _ (HR4.out.alloc _)).mono ?_
  rintro e w5 ⟨v5, rfl, hr5, hb5⟩
  have hb45 : Below w4.heap.size w4 w5 := Below.call (Below.alloc' (Below.self _) _) hb5
  have HB5 : Stow (Below w.heap.size w w5) := ⟨HB4.out.trans (hb45.mono HB4.out.size)⟩
  have HS5 := Stow.mk (HS4.out.keep hb45)
  have HZ5 := Stow.mk hr5.slr
  clear c0a c1a c2a c3a c0q c1q c2q c3q hr5 hb5 hb45 heq
  go_wp2_with fail
  refine (HKSL.out _ HS5.out.slr (by omega)).mono ?_
  rintro e w6 ⟨v6, rfl, hr6, hb6⟩
  have HB6 : Stow (Below w.heap.size w w6) := ⟨HB5.out.trans (hb6.mono HB5.out.size)⟩
  have HS6 := Stow.mk (HS5.out.keep hb6)
  have HZ6 := Stow.mk (HZ5.out.keep hb6)
  have HY6 := Stow.mk hr6.slr
  clear hr6 hb6
  go_wp2_with fail
  refine (hdSame_any Z v5 v6 _ HZ6.out HY6.out).mono ?_
  rintro e w7 ⟨rfl, hb7⟩
  have HB7 : Stow (Below w.heap.size w w7) := ⟨HB6.out.trans (hb7.mono HB6.out.size)⟩
  have HS7 := Stow.mk (HS6.out.keep hb7)
  clear hb7
  go_wp2_with fail
  refine (HKSL.out _ HS7.out.slr (by omega)).mono ?_
  rintro e w8 ⟨v8, rfl, hr8, hb8⟩
  have HB8 : Stow (Below w.heap.size w w8) := ⟨HB7.out.trans (hb8.mono HB7.out.size)⟩
  obtain ⟨A8, c8, rfl⟩ := hr8.form
  have hzl : Z.length ≤ L.length + 4 := by have := HPP.out.2.2; omega
  obtain ⟨n, hn⟩ : ∃ n, J.length = n := ⟨_, rfl⟩
  have hnz : (((n : Int)) == (Z.length : Int) + 2) = true := by rw [← hn, HPP.out.2.2]; simp
  rw [hn]
  clear hr8 hb8 hn
  go_wp2_with fail
  go_wp2_with fail
  refine (known23_any _ (HM.out.keep HB8.out)).mono ?_
  rintro e wk ⟨rfl, hbk⟩
  go_wp2_with fail
  go_ret
  exact ⟨rfl, Below.trans HB8.out (hbk.mono (Below.size HB8.out))⟩
end Go.Proofs.YtbnaicgomabigaaDoor
