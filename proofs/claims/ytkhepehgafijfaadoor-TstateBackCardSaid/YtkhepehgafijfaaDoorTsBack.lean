/- Walk of the law TstateBack. Conditions: what the form's reach gives; a variable of the library's holds an int. -/
import Derived.Test.YtkhepehgafijfaaDoorTsLists
namespace Go.Proofs.YtkhepehgafijfaaDoor
open Go.RowKit
set_option linter.unusedVariables false

theorem Ts.acc_at {L : List Hd} {k v : List UInt8} {i n : Nat} (hi : i < L.length) (hn : n = 1 + (Ts.others (L.take i) k).length) (hc : (L[i].1 != k) = true) (hl : n < (Ts.acc L k v L.length).length) : (Ts.acc L k v L.length)[n]? = some L[i] := by
  unfold Ts.acc at *
  rw [List.take_length] at *
  rw [List.getElem?_take, if_pos (by simp at hl; omega), hn, Nat.add_comm, List.getElem?_cons_succ]
  exact Ts.others_at hi hc
theorem Ts.acc_size {L : List Hd} {k v : List UInt8} : (Ts.acc L k v L.length).length = min (1 + (Ts.others L k).length) 32 := by
  unfold Ts.acc
  rw [List.take_length, List.length_take, List.length_cons]
  omega
theorem Ts.acc_first {L : List Hd} {k v : List UInt8} : (Ts.acc L k v L.length)[0]? = some (k, v) := by
  unfold Ts.acc
  simp

set_option maxHeartbeats 4000000 in
set_option maxRecDepth 100000 in
theorem back08 (L : List Hd) (A : Option Addr) (cap : Nat) (k v : List UInt8) (w : World) (hS : SlR w 2 (.slice A L.length cap) (L.map Hd.cells)) (hf : ∀ m ∈ L, m.1.length ≤ 140737488355328 ∧ m.2.length ≤ 140737488355328) (hk : k.length ≤ 140737488355328) (hv : v.length ≤ 140737488355328) (hm : MaxIs w) :
    Calls Tryd.prog 9 #[.slice A L.length cap, .string (bs k), .string (bs v)] w fun e w' => e = .returned (.bool true) ∧ Below w.heap.size w w' := by
  have HM := Stow.mk hm
  have HS := Stow.mk hS
  have HF := Stow.mk hf
  have HFF := Stow.mk (fits_of_few hf)
  have hlen := hS.len
  simp only [List.length_map] at hlen
  clear hm hS hf
  obtain ⟨f1, hf1⟩ : ∃ c, fewT L = c := ⟨_, rfl⟩
  have HF1 := Stow.mk hf1
  clear hf1
  obtain ⟨c, hc⟩ : ∃ c, Ts.check L = c := ⟨_, rfl⟩
  have HC := Stow.mk hc
  clear hc
  go_enter Tryd.func9, Tryd.ntmps9
  go_wp2_with fail
  refine (tsFew_any L A cap _ HS.out HF.out).mono ?_
  rw [HF1.out]
  rintro e w1 ⟨rfl, hb1⟩
  have HB1 := Stow.mk hb1
  have HS1 := Stow.mk (HS.out.keep hb1)
  clear hb1
  cases f1
  · go_wp2_with fail
    refine (known08_any _ (HM.out.keep HB1.out)).mono ?_
    rintro e wk ⟨rfl, hbk⟩
    go_wp2_with fail
    go_ret
    exact ⟨rfl, HB1.out.trans (hbk.mono HB1.out.size)⟩
  have hL60 := (fewT_few HF1.out).1
  by_cases h1 : 400 < k.length
  · go_wp2_with fail
    refine (known08_any _ (HM.out.keep HB1.out)).mono ?_
    rintro e wk ⟨rfl, hbk⟩
    go_wp2_with fail
    go_ret
    exact ⟨rfl, HB1.out.trans (hbk.mono HB1.out.size)⟩
  by_cases h2 : 400 < v.length
  · go_wp2_with fail
    refine (known08_any _ (HM.out.keep HB1.out)).mono ?_
    rintro e wk ⟨rfl, hbk⟩
    go_wp2_with fail
    go_ret
    exact ⟨rfl, HB1.out.trans (hbk.mono HB1.out.size)⟩
  go_wp2_with fail
  refine (tsCheck_any A cap L _ HS1.out HFF.out).mono ?_
  rw [HC.out]
  rintro e w2 ⟨rfl, hb2⟩
  have HB2 : Stow (Below w.heap.size w w2) := ⟨HB1.out.trans (hb2.mono HB1.out.size)⟩
  have HS2 := Stow.mk (HS1.out.keep hb2)
  clear hb2
  by_cases hc0 : c = 0
  rotate_left
  · have hcn : ((c : Int) != 0) = true := by simp; omega
    go_wp2_with fail
    refine (known08_any _ (HM.out.keep HB2.out)).mono ?_
    rintro e wk ⟨rfl, hbk⟩
    go_wp2_with fail
    go_ret
    exact ⟨rfl, HB2.out.trans (hbk.mono HB2.out.size)⟩
  subst hc0
  have HW := Stow.mk (Ts.write_good HC.out)
  have HTL := Stow.mk (Ts.text_len0 HC.out)
  have HRT := Stow.mk (Ts.read_text HC.out)
  have hk9 : k.length ≤ 9223372036854775807 := by omega
  have hv9 : v.length ≤ 9223372036854775807 := by omega
  go_wp2_with fail
  refine (tsWrite_any A cap L _ HS2.out HFF.out).mono ?_
  rw [HW.out]
  rintro e w3 ⟨rfl, hb3⟩
  have HB3 : Stow (Below w.heap.size w w3) := ⟨HB2.out.trans (hb3.mono HB2.out.size)⟩
  have HS3 := Stow.mk (HS2.out.keep hb3)
  clear hb3
  go_wp2_with fail
  refine (tsRead_any (Ts.text L) _ (by have := HTL.out; omega) (HM.out.keep HB3.out)).mono ?_
  rw [HRT.out]
  intro e w4 h4
  obtain ⟨A4, c4, rfl, hr4, hb4⟩ := h4.form
  have HR4 := Stow.mk hr4
  have HB4 : Stow (Below w.heap.size w w4) := ⟨HB3.out.trans (hb4.mono HB3.out.size)⟩
  have HS4 := Stow.mk (HS3.out.keep hb4)
  clear h4 hr4 hb4
  go_wp2_with fail
  refine (tsSame_any L _ _ _ HR4.out.slr HS4.out).mono ?_
  rintro e w5 ⟨rfl, hb5⟩
  have HB5 : Stow (Below w.heap.size w w5) := ⟨HB4.out.trans (hb5.mono HB4.out.size)⟩
  have HS5 := Stow.mk (HS4.out.keep hb5)
  clear hb5
  obtain ⟨k1, hk1⟩ : ∃ c, Ts.keyOk k = c := ⟨_, rfl⟩
  obtain ⟨v1, hv1⟩ : ∃ c, Ts.valOk v = c := ⟨_, rfl⟩
  have HK1 := Stow.mk hk1
  have HV1 := Stow.mk hv1
  clear hk1 hv1
  by_cases hbad : k1 = false ∨ v1 = false
  · have HPT := Stow.mk (Ts.put_bad (l := L) (k := k) (v := v) (by rcases hbad with h | h; exact .inl (by rw [HK1.out, h]); exact .inr (by rw [HV1.out, h])))
    go_wp2_with fail
    refine (tsPut_any k v A cap L _ HS5.out hk9 hv9).mono ?_
    rw [HPT.out]
    intro e w6 h6
    obtain ⟨A6, c6, rfl, hr6, hb6⟩ := h6.form
    have HB6 : Stow (Below w.heap.size w w6) := ⟨HB5.out.trans (hb6.mono HB5.out.size)⟩
    clear h6 hr6 hb6
    go_wp2_with fail
    refine (known08_any _ (HM.out.keep HB6.out)).mono ?_
    rintro e wk ⟨rfl, hbk⟩
    go_wp2_with fail
    go_ret
    exact ⟨rfl, HB6.out.trans (hbk.mono HB6.out.size)⟩
  obtain ⟨rfl, rfl⟩ : k1 = true ∧ v1 = true := by simpa using hbad
  clear hbad
  have HPT := Stow.mk (Ts.acc_end (l := L) HK1.out HV1.out)
  have HCP := Stow.mk (Ts.check_put HC.out HK1.out HV1.out)
  have HAF := Stow.mk (Ts.acc_first (L := L) (k := k) (v := v))
  have HAS := Stow.mk (Ts.acc_size (L := L) (k := k) (v := v))
  have HAA := Stow.mk (fun i n h1 h2 h3 h4 => Ts.acc_at (L := L) (k := k) (v := v) (i := i) (n := n) h1 h2 h3 h4)
  have HAL := Stow.mk (Ts.acc_len L k v L.length)
  have HCX : Stow (Ts.check (Ts.acc L k v L.length) = 0) := ⟨by have := HCP.out; unfold Ts.acc; rw [List.take_length]; exact this⟩
  have HXF : Stow (∀ m ∈ Ts.acc L k v L.length, Hd.fits m) := ⟨fun m hm => by
    have := (Ts.text_len0 HCX.out).2.2 m hm
    unfold Hd.fits maxLen
    omega⟩
  go_wp2_with fail
  refine (tsPut_any k v A cap L _ HS5.out hk9 hv9).mono ?_
  rw [HPT.out]
  generalize Ts.acc L k v L.length = X at *
  intro e w6 h6
  obtain ⟨A6, c6, rfl, hr6, hb6⟩ := h6.form
  have HR6 := Stow.mk hr6
  have HB6 : Stow (Below w.heap.size w w6) := ⟨HB5.out.trans (hb6.mono HB5.out.size)⟩
  have HS6 := Stow.mk (HS5.out.keep hb6)
  clear h6 hr6 hb6
  go_wp2_with fail
  refine (tsCheck_any A6 c6 X _ HR6.out.slr HXF.out).mono ?_
  rw [HCX.out]
  rintro e w7 ⟨rfl, hb7⟩
  have HR7 := Stow.mk (HR6.out.kept hb7)
  have HB7 : Stow (Below w.heap.size w w7) := ⟨HB6.out.trans (hb7.mono HB6.out.size)⟩
  have HS7 := Stow.mk (HS6.out.keep hb7)
  clear hb7
  have hX1 := HAL.out.2
  have hX2 := HAL.out.1
  obtain ⟨b6, o6, rfl, hb6lt, _⟩ := HR7.out.slr.open (by simp; omega)
  have hfirst : X[0]'(by omega) = (k, v) := by
    have := HAF.out
    rw [List.getElem?_eq_getElem (by omega)] at this
    simpa using this
  have hx0 := head_at (L := X) HR7.out.slr (k := 0) (by omega)
  rw [hfirst] at hx0
  obtain ⟨_, p0, p1⟩ := hx0
  simp only [Nat.zero_mul, Nat.add_zero] at p0 p1
  have hXn : ((X.length : Int) == 0) = false := by rw [beq_eq_false_iff_ne]; omega
  have hXp : (0 : Int) < X.length := by omega
  clear hfirst
  go_wp2_with fail
  clear p0 p1
  have H0 : Stow (1 = 1 + (Ts.others (L.take 0) k).length) := ⟨by simp [Ts.others]⟩
  go_loopw [13, 14] (fun nn c wr => ∃ i n : Nat, nn = .int .i64 (n : Int) ∧ c = .int .i64 (i : Int) ∧ i ≤ L.length ∧ n ≤ i + 1 ∧ Stow (n = 1 + (Ts.others (L.take i) k).length) ∧ Below w7.heap.size w7 wr) (fun _ v _ => L.length - (intOf v).toNat)
  case atStart => exact ⟨0, 1, rfl, rfl, by omega, by omega, H0, Below.self _⟩
  case round =>
    obtain ⟨i, n, rfl, rfl, hi, hni, HN, hbr⟩ := hrel
    have HBR : Stow (Below w.heap.size w wr) := ⟨HB7.out.trans (hbr.mono HB7.out.size)⟩
    by_cases hlt : i < L.length
    · obtain ⟨b, off, rfl, hblt, _⟩ := HS7.out.open (by simp; omega)
      have hsp := head_at (HS7.out.keep hbr) hlt
      have HON := Stow.mk (Ts.others_next (k := k) hlt)
      have hxa := fun h1 h2 h3 => HAA.out i n hlt h1 h2 h3
      obtain ⟨s, hs⟩ : ∃ s, L[i] = s := ⟨_, rfl⟩
      rw [hs] at hsp hxa HON
      have HXA := Stow.mk hxa
      clear hs hxa
      obtain ⟨x, y⟩ := s
      obtain ⟨hltb, q0, q1⟩ := hsp
      simp only at q0 q1 HXA HON
      obtain ⟨c, hc⟩ : ∃ c, (x == k) = c := ⟨_, rfl⟩
      have HCS := Stow.mk hc
      have hcn : (!(x == k)) = !c := by rw [hc]
      have hii : (i : Int) < L.length := by omega
      cases c
      · have HCN : Stow ((x != k) = true) := ⟨by simpa using hcn⟩
        have HN2 : Stow (n + 1 = 1 + (Ts.others (L.take (i + 1)) k).length) := ⟨by
          have := HN.out
          rw [HON.out, if_pos HCN.out]
          simp; omega⟩
        by_cases hnX : n < X.length
        · have hXi : X[n]'hnX = (x, y) := by
            have := HXA.out HN.out HCN.out hnX
            rw [List.getElem?_eq_getElem hnX] at this
            simpa using this
          have hx0 := head_at (L := X) (HR7.out.kept hbr).slr hnX
          rw [hXi] at hx0
          obtain ⟨hltx, p0, p1⟩ := hx0
          simp only at p0 p1
          have hnXi : (n : Int) < X.length := by omega
          clear hXi HXA
          go_wp2_with fail
          go_quiet (fail)
          go_wp2_with fail
          exact ⟨⟨i + 1, n + 1, rfl, rfl, by omega, by omega, HN2, Below.drewN' hbr _⟩, by simp [intOf]; omega⟩
        · have hnXi : ¬ (n : Int) < X.length := by omega
          have hnd : decide ((n : Int) < (X.length : Int)) = false := by simpa using hnXi
          go_wp2_with fail
          go_quiet (fail)
          go_wp2_with fail
          exact ⟨⟨i + 1, n + 1, rfl, rfl, by omega, by omega, HN2, Below.drewN' hbr _⟩, by simp [intOf]; omega⟩
      · have HCN : Stow (¬ (x != k) = true) := ⟨by simpa using HCS.out⟩
        have HN2 : Stow (n = 1 + (Ts.others (L.take (i + 1)) k).length) := ⟨by
          have := HN.out
          rw [HON.out, if_neg HCN.out]
          simpa using this⟩
        go_wp2_with fail
        exact ⟨⟨i + 1, n, rfl, rfl, by omega, by omega, HN2, hbr⟩, by simp [intOf]; omega⟩
    · obtain rfl : i = L.length := by omega
      have hXs : X.length = min n 32 := by
        have h1 := HN.out
        have h2 := HAS.out
        rw [List.take_length] at h1
        omega
      have hXe : (X.length : Int) = min (n : Int) 32 := by omega
      have hXe2 : ((X.length : Int) == min (n : Int) 32) = true := by rw [beq_iff_eq]; exact hXe
      clear hXs
      go_wp2_with fail
      refine (known08_any _ (HM.out.keep HBR.out)).mono ?_
      rintro e wk ⟨rfl, hbk⟩
      go_wp2_with fail
      go_ret
      exact ⟨rfl, HBR.out.trans (hbk.mono HBR.out.size)⟩
end Go.Proofs.YtkhepehgafijfaaDoor
