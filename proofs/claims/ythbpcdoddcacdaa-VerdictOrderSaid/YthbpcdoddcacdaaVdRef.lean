/- Walks of the reference's clashes, Lacks. Conditions: a slice's own; numbers of children are no giants. -/
import Derived.Test.YthbpcdoddcacdaaVdOf
namespace Go.Proofs.Ythbpcdoddcacdaa
open Go.RowKit
set_option linter.unusedVariables false

theorem Tr.fits_seq {kd last q : Int} {t : List Int} (h0 : -1 ≤ last) (hle : last ≤ q ∨ last = -1) :
    Tr.fits kd last (q :: t) = if q < 0 ∨ kd ≤ q ∨ (last ≠ -1 ∧ q = last) then false else Tr.fits kd q t := by
  conv => lhs; unfold Tr.fits
  by_cases h : q ≤ last ∨ kd ≤ q
  · rw [if_pos h, if_pos (by omega)]
  · rw [if_neg h, if_neg (by omega)]

theorem refLost_len (A : Option Addr) (cap : Nat) (L : List Sp) (hn : L.length ≤ 1000) {n : Nat} (h : (Tr.lost L).length = n) (W : World) (hS : SpR W A cap L) : Calls Try.prog 33 #[.slice A L.length cap] W fun e w' => ∃ vA vc, e = .returned (.slice vA n vc) ∧ Below W.heap.size W w' :=
  (refLost_any A cap L W hS hn).mono fun e w' ⟨v, he, hr, hb⟩ => by
    obtain ⟨A1, c1, rfl⟩ := own_form hr
    exact ⟨A1, c1, by rw [he, h], hb⟩
theorem refRoots_len (A : Option Addr) (cap : Nat) (L : List Sp) (hn : L.length ≤ 1000000) {n : Nat} (h : (Tr.roots L).length = n) (W : World) (hS : SpR W A cap L) : Calls Try.prog 25 #[.slice A L.length cap] W fun e w' => ∃ vA vc, e = .returned (.slice vA n vc) ∧ Below W.heap.size W w' :=
  (refRoots_any A cap L W hS hn).mono fun e w' ⟨v, he, hr, hb⟩ => by
    obtain ⟨A1, c1, rfl⟩ := own_form hr
    exact ⟨A1, c1, by rw [he, h], hb⟩
theorem refOrphans_len (A : Option Addr) (cap : Nat) (L : List Sp) (hn : L.length ≤ 1000000) {n : Nat} (h : (Tr.orphans L).length = n) (W : World) (hS : SpR W A cap L) : Calls Try.prog 27 #[.slice A L.length cap] W fun e w' => ∃ vA vc, e = .returned (.slice vA n vc) ∧ Below W.heap.size W w' :=
  (refOrphans_any A cap L W hS hn).mono fun e w' ⟨v, he, hr, hb⟩ => by
    obtain ⟨A1, c1, rfl⟩ := own_form hr
    exact ⟨A1, c1, by rw [he, h], hb⟩
theorem refKids_len (A : Option Addr) (cap : Nat) (L : List Sp) (hn : L.length ≤ 1000000) (i : Nat) (W : World) (hS : SpR W A cap L) : Calls Try.prog 29 #[.slice A L.length cap, .int .i64 (i : Int)] W fun e w' => ∃ vA vc, e = .returned (.slice vA (Tr.kids L i).length vc) ∧ IR w' vA vc (Tr.kids L i) ∧ Below W.heap.size W w' :=
  (refKids_at A cap L i W hS hn).mono fun e w' ⟨v, he, hr, hb⟩ => by
    rw [Tr.kidsI_yes] at hr
    obtain ⟨A1, c1, rfl⟩ := own_form hr
    exact ⟨A1, c1, he, IRow.ir hr, hb⟩

set_option maxHeartbeats 8000000 in
set_option maxRecDepth 100000 in
theorem rfClashes_any (A : Option Addr) (cap hi lo : Nat) (L : List Sp) (x c : Bool) (w : World) (hS : SpR w A cap L) (hn : L.length ≤ 1000) :
    Calls Try.prog 82 #[ktv hi lo A cap L x c] w fun e w' => e = .returned (.bool (Tr.clashes L c)) ∧ Below w.heap.size w w' := by
  have hb1 : Below w.heap.size w (w.alloc (.cells (ktc hi lo A cap L x c).toArray 58)) := Below.alloc' (Below.self w) _
  have HB := Stow.mk hb1
  have HS := Stow.mk (hS.keep hb1)
  have HH := Stow.mk (Held.made w (ktc hi lo A cap L x c) 58)
  have HCL : Stow (Tr.clashes L c = (c || decide (1 < (Tr.roots L).length) || decide (0 < (Tr.lost L).length) || !(List.range L.length).all (Tr.okAt L))) := ⟨rfl⟩
  rw [HCL.out]
  obtain ⟨nr, hnr⟩ : ∃ n, (Tr.roots L).length = n := ⟨_, rfl⟩
  obtain ⟨nl, hnl⟩ : ∃ n, (Tr.lost L).length = n := ⟨_, rfl⟩
  have HKR := Stow.mk (refRoots_len A cap L (by omega) hnr)
  have HKL := Stow.mk (refLost_len A cap L hn hnl)
  have HKK := Stow.mk (refKids_len A cap L (by omega))
  rw [hnr, hnl]
  clear hb1 hS HCL hnr hnl
  unfold ktv
  cases c
  · by_cases h1 : 1 < nr
    · have d1 : decide (1 < nr) = true := by simpa using h1
      have d1i : decide ((1 : Int) < (nr : Int)) = true := by simp; omega
      rw [d1]
      clear h1
      go_enter Try.func82, Try.ntmps82
      go_wp2_with fail
      refine (HKR.out _ HS.out).mono ?_
      rintro e w1 ⟨A1, c1, rfl, hb1⟩
      have HB1 := Stow.mk (HB.out.trans (hb1.mono HB.out.size))
      clear hb1
      go_wp2_with fail
      go_ret
      exact ⟨rfl, HB1.out⟩
    · have d1 : decide (1 < nr) = false := by simpa using h1
      have d1i : decide ((1 : Int) < (nr : Int)) = false := by simp; omega
      rw [d1]
      clear h1
      by_cases h2 : 0 < nl
      · have d2 : decide (0 < nl) = true := by simpa using h2
        rw [d2]
        clear h2
        go_enter Try.func82, Try.ntmps82
        go_wp2_with fail
        refine (HKR.out _ HS.out).mono ?_
        rintro e w1 ⟨A1, c1, rfl, hb1⟩
        have HB1 := Stow.mk (HB.out.trans (hb1.mono HB.out.size))
        have HS1 := Stow.mk (HS.out.keep hb1)
        have HH1 := Stow.mk (HH.out.kept hb1)
        have q2 := HH1.out.cell (i := 2) rfl
        clear hb1
        go_wp2_with fail
        refine (HKL.out _ HS1.out).mono ?_
        rintro e w2 ⟨A2, c2, rfl, hb2⟩
        have HB2 := Stow.mk (HB1.out.trans (hb2.mono HB1.out.size))
        clear hb2
        go_wp2_with fail
        go_ret
        exact ⟨rfl, HB2.out⟩
      · have d2 : decide (0 < nl) = false := by simpa using h2
        rw [d2]
        clear h2
        obtain ⟨R, hR⟩ : ∃ R, (false || false || false || !(List.range L.length).all (Tr.okAt L)) = R := ⟨_, rfl⟩
        rw [hR]
        have HRT : Stow (∀ i, i < L.length → Tr.okAt L i = false → R = true) := ⟨fun i hi h => by rw [← hR, Tr.all_to hi h]; rfl⟩
        have HRF : Stow ((∀ i, i < L.length → Tr.okAt L i = true) → R = false) := ⟨fun h => by rw [← hR, Tr.all_end h]; rfl⟩
        clear hR
        go_enter Try.func82, Try.ntmps82
        go_wp2_with fail
        refine (HKR.out _ HS.out).mono ?_
        rintro e w1 ⟨A1, c1, rfl, hb1⟩
        have HB1 := Stow.mk (HB.out.trans (hb1.mono HB.out.size))
        have HS1 := Stow.mk (HS.out.keep hb1)
        have HH1 := Stow.mk (HH.out.kept hb1)
        have q2 := HH1.out.cell (i := 2) rfl
        clear hb1
        go_wp2_with fail
        refine (HKL.out _ HS1.out).mono ?_
        rintro e w2 ⟨A2, c2, rfl, hb2⟩
        have HB2 := Stow.mk (HB1.out.trans (hb2.mono HB1.out.size))
        have HS2 := Stow.mk (HS1.out.keep hb2)
        have HH2 := Stow.mk (HH1.out.kept hb2)
        clear hb2 q2 HS1 HH1 HB1 HS HH
        go_wp2_with fail
        go_loopw [3] (fun u wr => ∃ i : Nat, u = .int .i64 (i : Int) ∧ i ≤ L.length ∧ Stow (∀ k, k < i → Tr.okAt L k = true) ∧ Stow (Below w2.heap.size w2 wr)) (fun u _ => L.length - (intOf u).toNat)
        case atStart => exact ⟨0, rfl, by omega, ⟨fun k hk => by omega⟩, ⟨Below.self _⟩⟩
        case round =>
          obtain ⟨i, rfl, hi, HA, HBR⟩ := hrel
          have HHR := Stow.mk (HH2.out.kept HBR.out)
          have q2 := HHR.out.cell (i := 2) rfl
          by_cases hlt : i < L.length
          · have HSR := Stow.mk (HS2.out.keep HBR.out)
            have hii : (i : Int) < L.length := by omega
            obtain ⟨K, hK⟩ : ∃ K, Tr.kids L i = K := ⟨_, rfl⟩
            obtain ⟨Q, hQ⟩ : ∃ Q, Tr.seqs L i = Q := ⟨_, rfl⟩
            obtain ⟨s, hs⟩ : ∃ s, Tr.sp L i = s := ⟨_, rfl⟩
            have HKW := Stow.mk (HKK.out i wr HSR.out)
            have hklt := Tr.kids_in (L := L) (i := i)
            have hkn := Tr.kids_len L i
            have hqs := Tr.seqs_sorted L i
            have HOK : Stow (Tr.okAt L i = (decide ((K.length : Int) ≤ s.kd) && Tr.fits s.kd (-1) Q)) := ⟨by unfold Tr.okAt; rw [hK, hQ, hs]⟩
            have hQK : Q = K.map fun k => (Tr.sp L k).sq := by rw [← hQ, ← hK]; rfl
            rw [hK] at HKW hklt hkn
            rw [hQ] at hqs
            have HKT := Stow.mk hklt
            have HQS := Stow.mk hqs
            have HQK := Stow.mk hQK
            have hQl : Q.length = K.length := by rw [hQK]; simp
            have HQL := Stow.mk hQl
            have HSI : Stow (L[i] = s) := ⟨by rw [← hs, Tr.sp_in hlt]⟩
            have hkn2 : K.length ≤ 1000000 := by omega
            clear hK hQ hs hklt hqs hQK hQl hkn
            go_wp2_with fail
            refine HKW.out.mono ?_
            rintro e w3 ⟨A3, c3, rfl, hr3, hb3⟩
            have HB3 := Stow.mk (HBR.out.trans (hb3.mono HBR.out.size))
            have HH3 := Stow.mk (HHR.out.kept hb3)
            have HS3 := Stow.mk (HSR.out.keep hb3)
            have HK3 := Stow.mk hr3
            have HBW := Stow.mk (HB2.out.trans (HB3.out.mono HB2.out.size))
            clear hr3 hb3 q2 HKW HSR HHR
            have q2 := HH3.out.cell (i := 2) rfl
            obtain ⟨b, off, rfl, hblt, _⟩ := HS3.out.open (by simp; omega)
            have hsp := span_at HS3.out hlt
            rw [HSI.out] at hsp
            have p7 := hsp.c7
            clear hsp
            by_cases hkd : (K.length : Int) ≤ s.kd
            · have d3 : decide (s.kd < (K.length : Int)) = false := by simpa using hkd
              have HKD : Stow (decide ((K.length : Int) ≤ s.kd) = true) := ⟨by simpa using hkd⟩
              clear hkd
              go_wp2_with fail
              go_loopw [5] (fun u wz => ∃ (j : Nat) (l : Int), u = .int .i64 (j : Int) ∧ j ≤ K.length ∧ Stow (Tr.fits s.kd (-1) Q = Tr.fits s.kd l (Q.drop j)) ∧ Stow (-1 ≤ l ∧ (j = 0 → l = -1) ∧ ∀ h : 0 < j, Q[j - 1]? = some l ∧ l ≠ -1) ∧ Stow (Below w3.heap.size w3 wz)) (fun u _ => K.length - (intOf u).toNat)
              case atStart => exact ⟨0, -1, rfl, by omega, ⟨rfl⟩, ⟨by omega, fun _ => rfl, fun h => absurd h (by omega)⟩, ⟨Below.self _⟩⟩
              case round =>
                obtain ⟨j, l, rfl, hj, HF, HL, HBZ⟩ := hrel
                by_cases hjl : j < K.length
                · obtain ⟨WZ, hWZ⟩ : ∃ W : World, W = wr := ⟨_, rfl⟩
                  have HKZ := Stow.mk (SlR.keep HK3.out HBZ.out)
                  have HSZ := Stow.mk (HS3.out.keep HBZ.out)
                  have q2 := (HH3.out.kept HBZ.out).cell (i := 2) rfl
                  have p7 := (HBZ.out.cell (p := ⟨b, off + i * 11 + 7, none⟩) hblt).trans p7
                  obtain ⟨bk, offk, rfl, _, r0⟩ := IR.at_ HKZ.out hjl
                  have hkl := HKT.out _ (List.getElem_mem hjl)
                  have hqj : Q[j]? = some (Tr.sp L K[j]).sq := by rw [HQK.out]; simp [hjl]
                  have hdr : Q.drop j = (Tr.sp L K[j]).sq :: Q.drop (j + 1) := by
                    rw [List.drop_eq_getElem_cons (show j < Q.length by rw [HQL.out]; exact hjl)]
                    congr 1
                    rw [List.getElem?_eq_getElem (show j < Q.length by rw [HQL.out]; exact hjl)] at hqj
                    exact Option.some.inj hqj
                  have hspk := (span_at HSZ.out hkl).c6
                  rw [← Tr.sp_in hkl] at hspk
                  obtain ⟨k, hk⟩ : ∃ k, K[j] = k := ⟨_, rfl⟩
                  rw [hk] at r0 hkl hqj hdr hspk
                  obtain ⟨q, hq⟩ : ∃ q, (Tr.sp L k).sq = q := ⟨_, rfl⟩
                  rw [hq] at hqj hdr hspk
                  have hle : l ≤ q ∨ l = -1 := by
                    rcases Nat.eq_zero_or_pos j with h0 | h0
                    · exact .inr (HL.out.2.1 h0)
                    · have h1 := (HL.out.2.2 h0).1
                      left
                      have hp := List.pairwise_iff_getElem.1 HQS.out (j - 1) j (by rw [HQL.out]; omega) (by rw [HQL.out]; exact hjl) (by omega)
                      rw [List.getElem?_eq_getElem (by rw [HQL.out]; omega)] at h1 hqj
                      rw [Option.some.inj h1, Option.some.inj hqj] at hp
                      exact hp
                  have HFE : Stow (Tr.fits s.kd (-1) Q = if q < 0 ∨ s.kd ≤ q ∨ (l ≠ -1 ∧ q = l) then false else Tr.fits s.kd q (Q.drop (j + 1))) := ⟨by rw [HF.out, hdr, Tr.fits_seq HL.out.1 hle]⟩
                  have HQJ := Stow.mk hqj
                  have hjj : (j : Int) < K.length := by omega
                  have hkk : (k : Int) < L.length := by omega
                  have hj0 : (0 : Int) ≤ j := by omega
                  have hk0 : (0 : Int) ≤ k := by omega
                  have hi0 : (0 : Int) ≤ i := by omega
                  clear hq hk hdr hqj hle hWZ
                  go_wp2_with fail
                  go_quiet (fail)
                  obtain ⟨n1, hn1⟩ : ∃ n, nq = n := ⟨_, rfl⟩
                  rw [hn1]
                  have HBQ := Stow.mk (Below.drewN' HBZ.out n1)
                  clear hn1
                  by_cases h1 : q < 0
                  · have d4 : decide (q < 0) = true := by simpa using h1
                    obtain rfl : R = true := HRT.out i hlt (by rw [HOK.out, HFE.out, if_pos (.inl h1)]; simp)
                    clear h1
                    go_wp2_with fail
                    go_quiet (fail)
                    go_wp2_with fail
                    go_ret
                    first
                      | exact ⟨rfl, HBW.out.trans ((Below.drewN' HBQ.out _).mono HBW.out.size)⟩
                      | exact ⟨rfl, HBW.out.trans ((Below.drewN' HBZ.out _).mono HBW.out.size)⟩
                  · have d4 : decide (q < 0) = false := by simpa using h1
                    by_cases h2 : s.kd ≤ q
                    · have d5 : decide (s.kd ≤ q) = true := by simpa using h2
                      obtain rfl : R = true := HRT.out i hlt (by rw [HOK.out, HFE.out, if_pos (.inr (.inl h2))]; simp)
                      clear h1 h2
                      go_wp2_with fail
                      go_quiet (fail)
                      go_wp2_with fail
                      go_ret
                      first
                        | exact ⟨rfl, HBW.out.trans ((Below.drewN' HBQ.out _).mono HBW.out.size)⟩
                        | exact ⟨rfl, HBW.out.trans ((Below.drewN' HBZ.out _).mono HBW.out.size)⟩
                    · have d5 : decide (s.kd ≤ q) = false := by simpa using h2
                      rcases Nat.eq_zero_or_pos j with h0 | h0
                      · have hl := HL.out.2.1 h0
                        have HFN : Stow (Tr.fits s.kd (-1) Q = Tr.fits s.kd q (Q.drop (j + 1))) := ⟨by rw [HFE.out, if_neg (by omega)]⟩
                        have HLN : Stow (-1 ≤ q ∧ (j + 1 = 0 → q = -1) ∧ ∀ h : 0 < j + 1, Q[j + 1 - 1]? = some q ∧ q ≠ -1) := ⟨by omega, by omega, fun _ => ⟨HQJ.out, by omega⟩⟩
                        have e2 : decide ((0 : Int) < j) = false := by simp; omega
                        have e2' : decide (0 < j) = false := by simp; omega
                        clear h1 h2
                        subst h0
                        clear HF HL HFE HQJ hl
                        go_wp2_with fail
                        go_quiet (fail)
                        go_wp2_with fail
                        exact ⟨⟨1, q, rfl, by omega, HFN, HLN, ⟨by first | exact Below.drewN' HBQ.out _ | exact Below.drewN' HBZ.out _⟩⟩, by simp [intOf]; omega⟩
                      · obtain ⟨hl1, hl2⟩ := HL.out.2.2 h0
                        have hj1 : j - 1 < K.length := by omega
                        obtain ⟨_, _, hAe, _, r1⟩ := IR.at_ HKZ.out hj1
                        obtain ⟨rfl, rfl⟩ : bk = _ ∧ offk = _ := by simpa using hAe
                        have hk1 := HKT.out _ (List.getElem_mem hj1)
                        have hspk1 := (span_at HSZ.out hk1).c6
                        rw [← Tr.sp_in hk1] at hspk1
                        have hl3 : (Tr.sp L K[j - 1]).sq = l := by
                          rw [HQK.out, List.getElem?_map, List.getElem?_eq_getElem hj1] at hl1
                          exact Option.some.inj hl1
                        rw [hl3] at hspk1
                        obtain ⟨k1, hke⟩ : ∃ k1, K[j - 1] = k1 := ⟨_, rfl⟩
                        rw [hke] at r1 hk1 hspk1
                        have e2 : decide ((0 : Int) < j) = true := by simp; omega
                        have e2' : decide (0 < j) = true := by simp; omega
                        have e5 : IntKind.i64.wrap ((j : Int) - 1) = ((j - 1 : Nat) : Int) := by rw [IntWalk.i64_in _ (by omega)]; omega
                        have e6 : ((j - 1 : Nat) : Int) < K.length := by omega
                        have e7 : (0 : Int) ≤ ((j - 1 : Nat) : Int) := by omega
                        have e8 : (k1 : Int) < L.length := by omega
                        have e9 : (0 : Int) ≤ k1 := by omega
                        by_cases h3 : q = l
                        · have d6 : (q == l) = true := by simpa using h3
                          obtain rfl : R = true := HRT.out i hlt (by rw [HOK.out, HFE.out, if_pos (.inr (.inr ⟨hl2, h3⟩))]; simp)
                          clear h1 h2 hl3 hke hAe hl1 HF HL HFE HQJ
                          subst h3
                          go_wp2_with fail
                          go_quiet (fail)
                          go_wp2_with fail
                          go_ret
                          first
                            | exact ⟨rfl, HBW.out.trans ((Below.drewN' HBQ.out _).mono HBW.out.size)⟩
                            | exact ⟨rfl, HBW.out.trans ((Below.drewN' HBZ.out _).mono HBW.out.size)⟩
                        · have d6 : (q == l) = false := by simpa using h3
                          have HFN : Stow (Tr.fits s.kd (-1) Q = Tr.fits s.kd q (Q.drop (j + 1))) := ⟨by rw [HFE.out, if_neg (by omega)]⟩
                          have HLN : Stow (-1 ≤ q ∧ (j + 1 = 0 → q = -1) ∧ ∀ h : 0 < j + 1, Q[j + 1 - 1]? = some q ∧ q ≠ -1) := ⟨by omega, by omega, fun _ => ⟨HQJ.out, by omega⟩⟩
                          clear h1 h2 hl3 hke hAe hl1 HF HL HFE HQJ h3
                          go_wp2_with fail
                          go_quiet (fail)
                          go_wp2_with fail
                          exact ⟨⟨j + 1, q, rfl, by omega, HFN, HLN, ⟨by first | exact Below.drewN' HBQ.out _ | exact Below.drewN' HBZ.out _⟩⟩, by simp [intOf]; omega⟩
                · obtain rfl : j = K.length := by omega
                  have hok : Tr.okAt L i = true := by rw [HOK.out, HKD.out, HF.out, List.drop_of_length_le (by rw [HQL.out]; exact Nat.le_refl _)]; rfl
                  have HA2 : Stow (∀ k, k < i + 1 → Tr.okAt L k = true) := ⟨fun k hk => by
                    by_cases h : k < i
                    · exact HA.out k h
                    · obtain rfl : k = i := by omega
                      exact hok⟩
                  have HB4 : Stow (Below w2.heap.size w2 wr) := ⟨HB3.out.trans (HBZ.out.mono HB3.out.size)⟩
                  have hni : ¬ (K.length : Int) < K.length := by omega
                  clear hok
                  go_wp2_with fail
                  exact ⟨⟨i + 1, rfl, by omega, HA2, HB4⟩, by simp [intOf]; omega⟩
            · have d3 : decide (s.kd < (K.length : Int)) = true := by simp; omega
              obtain rfl : R = true := HRT.out i hlt (by rw [HOK.out, decide_eq_false hkd]; rfl)
              clear hkd
              go_wp2_with fail
              go_ret
              exact ⟨rfl, HBW.out⟩
          · obtain rfl : i = L.length := by omega
            obtain rfl : R = false := HRF.out HA.out
            have hni : ¬ (L.length : Int) < L.length := by omega
            go_wp2_with fail
            go_ret
            exact ⟨rfl, HB2.out.trans (HBR.out.mono HB2.out.size)⟩
  · go_enter Try.func82, Try.ntmps82
    go_wp2_with fail
    go_ret
    exact ⟨by simp, HB.out⟩
end Go.Proofs.Ythbpcdoddcacdaa
