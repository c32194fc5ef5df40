/- Walks of the reference's clashes, Lacks. Conditions: a slice's own; numbers of children are no giants.; Walks of the reference's Lacks, Of, Tree. Conditions: a slice's own; numbers of children are no giants. -/
import Derived.Test.YtfbhdkkmcfnghaaGreatM32
import Derived.Test.YtfbhdkkmcfnghaaGreatM30

section
namespace Go.Proofs.YtfbhdkkmcfnghaaGreat
open Go.RowKit
set_option linter.unusedVariables false

theorem Tr.fits_seq {kd last q : Int} {t : List Int} (h0 : -1 ≤ last) (hle : last ≤ q ∨ last = -1) :
    Tr.fits kd last (q :: t) = if q < 0 ∨ kd ≤ q ∨ (last ≠ -1 ∧ q = last) then false else Tr.fits kd q t := by
  conv => lhs; unfold Tr.fits
  by_cases h : q ≤ last ∨ kd ≤ q
  · rw [if_pos h, if_pos (by omega)]
  · rw [if_neg h, if_neg (by omega)]

theorem refLost_len (A : Option Addr) (cap : Nat) (L : List Sp) (hn : L.length ≤ 1000) {n : Nat} (h : (Tr.lost L).length = n) (W : World) (hS : SpR W A cap L) : Calls Tryz.prog 112 #[.slice A L.length cap] W fun e w' => ∃ vA vc, e = .returned (.slice vA n vc) ∧ Below W.heap.size W w' :=
  (refLost_any A cap L W hS hn).mono fun e w' ⟨v, he, hr, hb⟩ => by
    obtain ⟨A1, c1, rfl⟩ := own_form hr
    exact ⟨A1, c1, by rw [he, h], hb⟩
theorem refRoots_len (A : Option Addr) (cap : Nat) (L : List Sp) (hn : L.length ≤ 1000000) {n : Nat} (h : (Tr.roots L).length = n) (W : World) (hS : SpR W A cap L) : Calls Tryz.prog 70 #[.slice A L.length cap] W fun e w' => ∃ vA vc, e = .returned (.slice vA n vc) ∧ Below W.heap.size W w' :=
  (refRoots_any A cap L W hS hn).mono fun e w' ⟨v, he, hr, hb⟩ => by
    obtain ⟨A1, c1, rfl⟩ := own_form hr
    exact ⟨A1, c1, by rw [he, h], hb⟩
theorem refOrphans_len (A : Option Addr) (cap : Nat) (L : List Sp) (hn : L.length ≤ 1000000) {n : Nat} (h : (Tr.orphans L).length = n) (W : World) (hS : SpR W A cap L) : Calls Tryz.prog 71 #[.slice A L.length cap] W fun e w' => ∃ vA vc, e = .returned (.slice vA n vc) ∧ Below W.heap.size W w' :=
  (refOrphans_any A cap L W hS hn).mono fun e w' ⟨v, he, hr, hb⟩ => by
    obtain ⟨A1, c1, rfl⟩ := own_form hr
    exact ⟨A1, c1, by rw [he, h], hb⟩
theorem refKids_len (A : Option Addr) (cap : Nat) (L : List Sp) (hn : L.length ≤ 1000000) (i : Nat) (W : World) (hS : SpR W A cap L) : Calls Tryz.prog 113 #[.slice A L.length cap, .int .i64 (i : Int)] W fun e w' => ∃ vA vc, e = .returned (.slice vA (Tr.kids L i).length vc) ∧ IR w' vA vc (Tr.kids L i) ∧ Below W.heap.size W w' :=
  (refKids_at A cap L i W hS hn).mono fun e w' ⟨v, he, hr, hb⟩ => by
    rw [Tr.kidsI_yes] at hr
    obtain ⟨A1, c1, rfl⟩ := own_form hr
    exact ⟨A1, c1, he, IRow.ir hr, hb⟩

set_option maxHeartbeats 8000000 in
set_option maxRecDepth 100000 in
theorem rfClashes_any (A : Option Addr) (cap hi lo : Nat) (L : List Sp) (x c : Bool) (w : World) (hS : SpR w A cap L) (hn : L.length ≤ 1000) :
    Calls Tryz.prog 69 #[ktv hi lo A cap L x c] w fun e w' => e = .returned (.bool (Tr.clashes L c)) ∧ Below w.heap.size w w' := by
  have hb1 : Below w.heap.size w (w.alloc (.cells (ktc hi lo A cap L x c).toArray 40)) := Below.alloc' (Below.self w) _
  have HB := Stow.mk hb1
  have HS := Stow.mk (hS.keep hb1)
  have HH := Stow.mk (Held.made w (ktc hi lo A cap L x c) 40)
  have HCL : Stow (Tr.clashes L c = (c || decide (1 < (Tr.roots L).length) || decide (0 < (Tr.lost L).length) || !(List.range L.length).all (Tr.okAt L))) := ⟨rfl⟩
  rw [HCL.out]
  obtain ⟨nr, hnr⟩ : ∃ n, (Tr.roots L).length = n := ⟨_, rfl⟩
  obtain ⟨nl, hnl⟩ : ∃ n, (Tr.lost L).length = n := ⟨_, rfl⟩
  have HKR := Stow.mk (refRoots_len A cap L (by omega) hnr)
  have HKL := Stow.mk (refLost_len A cap L hn hnl)
  have HKK := Stow.mk (refKids_len A cap L (by omega))
  rw [hnr, hnl]
  clear hb1 hS HCL hnr hnl
  unfold ktv
  cases c
  · by_cases h1 : 1 < nr
    · have d1 : decide (1 < nr) = true := by simpa using h1
      have d1i : decide ((1 : Int) < (nr : Int)) = true := by simp; omega
      rw [d1]
      clear h1
      go_enter Tryz.func69, Tryz.ntmps69
      go_wp2_with fail
      refine (HKR.out _ HS.out).mono ?_
      rintro e w1 ⟨A1, c1, rfl, hb1⟩
      have HB1 := Stow.mk (HB.out.trans (hb1.mono HB.out.size))
      clear hb1
      go_wp2_with fail
      go_ret
      exact ⟨rfl, HB1.out⟩
    · have d1 : decide (1 < nr) = false := by simpa using h1
      have d1i : decide ((1 : Int) < (nr : Int)) = false := by simp; omega
      rw [d1]
      clear h1
      by_cases h2 : 0 < nl
      · have d2 : decide (0 < nl) = true := by simpa using h2
        rw [d2]
        clear h2
        go_enter Tryz.func69, Tryz.ntmps69
        go_wp2_with fail
        refine (HKR.out _ HS.out).mono ?_
        rintro e w1 ⟨A1, c1, rfl, hb1⟩
        have HB1 := Stow.mk (HB.out.trans (hb1.mono HB.out.size))
        have HS1 := Stow.mk (HS.out.keep hb1)
        have HH1 := Stow.mk (HH.out.kept hb1)
        have q2 := HH1.out.cell (i := 2) rfl
        clear hb1
        go_wp2_with fail
        refine (HKL.out _ HS1.out).mono ?_
        rintro e w2 ⟨A2, c2, rfl, hb2⟩
        have HB2 := Stow.mk (HB1.out.trans (hb2.mono HB1.out.size))
        clear hb2
        go_wp2_with fail
        go_ret
        exact ⟨rfl, HB2.out⟩
      · have d2 : decide (0 < nl) = false := by simpa using h2
        rw [d2]
        clear h2
        obtain ⟨R, hR⟩ : ∃ R, (false || false || false || !(List.range L.length).all (Tr.okAt L)) = R := ⟨_, rfl⟩
        rw [hR]
        have HRT : Stow (∀ i, i < L.length → Tr.okAt L i = false → R = true) := ⟨fun i hi h => by rw [← hR, Tr.all_to hi h]; rfl⟩
        have HRF : Stow ((∀ i, i < L.length → Tr.okAt L i = true) → R = false) := ⟨fun h => by rw [← hR, Tr.all_end h]; rfl⟩
        clear hR
        go_enter Tryz.func69, Tryz.ntmps69
        go_wp2_with fail
        refine (HKR.out _ HS.out).mono ?_
        rintro e w1 ⟨A1, c1, rfl, hb1⟩
        have HB1 := Stow.mk (HB.out.trans (hb1.mono HB.out.size))
        have HS1 := Stow.mk (HS.out.keep hb1)
        have HH1 := Stow.mk (HH.out.kept hb1)
        have q2 := HH1.out.cell (i := 2) rfl
        clear hb1
        go_wp2_with fail
        refine (HKL.out _ HS1.out).mono ?_
        rintro e w2 ⟨A2, c2, rfl, hb2⟩
        have HB2 := Stow.mk (HB1.out.trans (hb2.mono HB1.out.size))
        have HS2 := Stow.mk (HS1.out.keep hb2)
        have HH2 := Stow.mk (HH1.out.kept hb2)
        clear hb2 q2 HS1 HH1 HB1 HS HH
        go_wp2_with fail
        go_loopw [3] (fun u wr => ∃ i : Nat, u = .int .i64 (i : Int) ∧ i ≤ L.length ∧ Stow (∀ k, k < i → Tr.okAt L k = true) ∧ Stow (Below w2.heap.size w2 wr)) (fun u _ => L.length - (intOf u).toNat)
        case atStart => exact ⟨0, rfl, by omega, ⟨fun k hk => by omega⟩, ⟨Below.self _⟩⟩
        case round =>
          obtain ⟨i, rfl, hi, HA, HBR⟩ := hrel
          have HHR := Stow.mk (HH2.out.kept HBR.out)
          have q2 := HHR.out.cell (i := 2) rfl
          by_cases hlt : i < L.length
          · have HSR := Stow.mk (HS2.out.keep HBR.out)
            have hii : (i : Int) < L.length := by omega
            obtain ⟨K, hK⟩ : ∃ K, Tr.kids L i = K := ⟨_, rfl⟩
            obtain ⟨Q, hQ⟩ : ∃ Q, Tr.seqs L i = Q := ⟨_, rfl⟩
            obtain ⟨s, hs⟩ : ∃ s, Tr.sp L i = s := ⟨_, rfl⟩
            have HKW := Stow.mk (HKK.out i wr HSR.out)
            have hklt := Tr.kids_in (L := L) (i := i)
            have hkn := Tr.kids_len L i
            have hqs := Tr.seqs_sorted L i
            have HOK : Stow (Tr.okAt L i = (decide ((K.length : Int) ≤ s.kd) && Tr.fits s.kd (-1) Q)) := ⟨by unfold Tr.okAt; rw [hK, hQ, hs]⟩
            have hQK : Q = K.map fun k => (Tr.sp L k).sq := by rw [← hQ, ← hK]; rfl
            rw [hK] at HKW hklt hkn
            rw [hQ] at hqs
            have HKT := Stow.mk hklt
            have HQS := Stow.mk hqs
            have HQK := Stow.mk hQK
            have hQl : Q.length = K.length := by rw [hQK]; simp
            have HQL := Stow.mk hQl
            have HSI : Stow (L[i] = s) := ⟨by rw [← hs, Tr.sp_in hlt]⟩
            have hkn2 : K.length ≤ 1000000 := by omega
            clear hK hQ hs hklt hqs hQK hQl hkn
            go_wp2_with fail
            refine HKW.out.mono ?_
            rintro e w3 ⟨A3, c3, rfl, hr3, hb3⟩
            have HB3 := Stow.mk (HBR.out.trans (hb3.mono HBR.out.size))
            have HH3 := Stow.mk (HHR.out.kept hb3)
            have HS3 := Stow.mk (HSR.out.keep hb3)
            have HK3 := Stow.mk hr3
            have HBW := Stow.mk (HB2.out.trans (HB3.out.mono HB2.out.size))
            clear hr3 hb3 q2 HKW HSR HHR
            have q2 := HH3.out.cell (i := 2) rfl
            obtain ⟨b, off, rfl, hblt, _⟩ := HS3.out.open (by simp; omega)
            have hsp := span_at HS3.out hlt
            rw [HSI.out] at hsp
            have p7 := hsp.c7
            clear hsp
            by_cases hkd : (K.length : Int) ≤ s.kd
            · have d3 : decide (s.kd < (K.length : Int)) = false := by simpa using hkd
              have HKD : Stow (decide ((K.length : Int) ≤ s.kd) = true) := ⟨by simpa using hkd⟩
              clear hkd
              go_wp2_with fail
              go_loopw [5] (fun u wz => ∃ (j : Nat) (l : Int), u = .int .i64 (j : Int) ∧ j ≤ K.length ∧ Stow (Tr.fits s.kd (-1) Q = Tr.fits s.kd l (Q.drop j)) ∧ Stow (-1 ≤ l ∧ (j = 0 → l = -1) ∧ ∀ h : 0 < j, Q[j - 1]? = some l ∧ l ≠ -1) ∧ Stow (Below w3.heap.size w3 wz)) (fun u _ => K.length - (intOf u).toNat)
              case atStart => exact ⟨0, -1, rfl, by omega, ⟨rfl⟩, ⟨by omega, fun _ => rfl, fun h => absurd h (by omega)⟩, ⟨Below.self _⟩⟩
              case round =>
                obtain ⟨j, l, rfl, hj, HF, HL, HBZ⟩ := hrel
                by_cases hjl : j < K.length
                · obtain ⟨WZ, hWZ⟩ : ∃ W : World, W = wr := ⟨_, rfl⟩
                  have HKZ := Stow.mk (SlR.keep HK3.out HBZ.out)
                  have HSZ := Stow.mk (HS3.out.keep HBZ.out)
                  have q2 := (HH3.out.kept HBZ.out).cell (i := 2) rfl
                  have p7 := (HBZ.out.cell (p := ⟨b, off + i * 11 + 7, none⟩) hblt).trans p7
                  obtain ⟨bk, offk, rfl, _, r0⟩ := IR.at_ HKZ.out hjl
                  have hkl := HKT.out _ (List.getElem_mem hjl)
                  have hqj : Q[j]? = some (Tr.sp L K[j]).sq := by rw [HQK.out]; simp [hjl]
                  have hdr : Q.drop j = (Tr.sp L K[j]).sq :: Q.drop (j + 1) := by
                    rw [List.drop_eq_getElem_cons (show j < Q.length by rw [HQL.out]; exact hjl)]
                    congr 1
                    rw [List.getElem?_eq_getElem (show j < Q.length by rw [HQL.out]; exact hjl)] at hqj
                    exact Option.some.inj hqj
                  have hspk := (span_at HSZ.out hkl).c6
                  rw [← Tr.sp_in hkl] at hspk
                  obtain ⟨k, hk⟩ : ∃ k, K[j] = k := ⟨_, rfl⟩
                  rw [hk] at r0 hkl hqj hdr hspk
                  obtain ⟨q, hq⟩ : ∃ q, (Tr.sp L k).sq = q := ⟨_, rfl⟩
                  rw [hq] at hqj hdr hspk
                  have hle : l ≤ q ∨ l = -1 := by
                    rcases Nat.eq_zero_or_pos j with h0 | h0
                    · exact .inr (HL.out.2.1 h0)
                    · have h1 := (HL.out.2.2 h0).1
                      left
                      have hp := List.pairwise_iff_getElem.1 HQS.out (j - 1) j (by rw [HQL.out]; omega) (by rw [HQL.out]; exact hjl) (by omega)
                      rw [List.getElem?_eq_getElem (by rw [HQL.out]; omega)] at h1 hqj
                      rw [Option.some.inj h1, Option.some.inj hqj] at hp
                      exact hp
                  have HFE : Stow (Tr.fits s.kd (-1) Q = if q < 0 ∨ s.kd ≤ q ∨ (l ≠ -1 ∧ q = l) then false else Tr.fits s.kd q (Q.drop (j + 1))) := ⟨by rw [HF.out, hdr, Tr.fits_seq HL.out.1 hle]⟩
                  have HQJ := Stow.mk hqj
                  have hjj : (j : Int) < K.length := by omega
                  have hkk : (k : Int) < L.length := by omega
                  have hj0 : (0 : Int) ≤ j := by omega
                  have hk0 : (0 : Int) ≤ k := by omega
                  have hi0 : (0 : Int) ≤ i := by omega
                  clear hq hk hdr hqj hle hWZ
                  go_wp2_with fail
                  go_quiet (fail)
                  obtain ⟨n1, hn1⟩ : ∃ n, nq = n := ⟨_, rfl⟩
                  rw [hn1]
                  have HBQ := Stow.mk (Below.drewN' HBZ.out n1)
                  clear hn1
                  by_cases h1 : q < 0
                  · have d4 : decide (q < 0) = true := by simpa using h1
                    obtain rfl : R = true := HRT.out i hlt (by rw [HOK.out, HFE.out, if_pos (.inl h1)]; simp)
                    clear h1
                    go_wp2_with fail
                    go_quiet (fail)
                    go_wp2_with fail
                    go_ret
                    first
                      | exact ⟨rfl, HBW.out.trans ((Below.drewN' HBQ.out _).mono HBW.out.size)⟩
                      | exact ⟨rfl, HBW.out.trans ((Below.drewN' HBZ.out _).mono HBW.out.size)⟩
                  · have d4 : decide (q < 0) = false := by simpa using h1
                    by_cases h2 : s.kd ≤ q
                    · have d5 : decide (s.kd ≤ q) = true := by simpa using h2
                      obtain rfl : R = true := HRT.out i hlt (by rw [HOK.out, HFE.out, if_pos (.inr (.inl h2))]; simp)
                      clear h1 h2
                      go_wp2_with fail
                      go_quiet (fail)
                      go_wp2_with fail
                      go_ret
                      first
                        | exact ⟨rfl, HBW.out.trans ((Below.drewN' HBQ.out _).mono HBW.out.size)⟩
                        | exact ⟨rfl, HBW.out.trans ((Below.drewN' HBZ.out _).mono HBW.out.size)⟩
                    · have d5 : decide (s.kd ≤ q) = false := by simpa using h2
                      rcases Nat.eq_zero_or_pos j with h0 | h0
                      · have hl := HL.out.2.1 h0
                        have HFN : Stow (Tr.fits s.kd (-1) Q = Tr.fits s.kd q (Q.drop (j + 1))) := ⟨by rw [HFE.out, if_neg (by omega)]⟩
                        have HLN : Stow (-1 ≤ q ∧ (j + 1 = 0 → q = -1) ∧ ∀ h : 0 < j + 1, Q[j + 1 - 1]? = some q ∧ q ≠ -1) := ⟨by omega, by omega, fun _ => ⟨HQJ.out, by omega⟩⟩
                        have e2 : decide ((0 : Int) < j) = false := by simp; omega
                        have e2' : decide (0 < j) = false := by simp; omega
                        clear h1 h2
                        subst h0
                        clear HF HL HFE HQJ hl
                        go_wp2_with fail
                        go_quiet (fail)
                        go_wp2_with fail
                        exact ⟨⟨1, q, rfl, by omega, HFN, HLN, ⟨by first | exact Below.drewN' HBQ.out _ | exact Below.drewN' HBZ.out _⟩⟩, by simp [intOf]; omega⟩
                      · obtain ⟨hl1, hl2⟩ := HL.out.2.2 h0
                        have hj1 : j - 1 < K.length := by omega
                        obtain ⟨_, _, hAe, _, r1⟩ := IR.at_ HKZ.out hj1
                        obtain ⟨rfl, rfl⟩ : bk = _ ∧ offk = _ := by simpa using hAe
                        have hk1 := HKT.out _ (List.getElem_mem hj1)
                        have hspk1 := (span_at HSZ.out hk1).c6
                        rw [← Tr.sp_in hk1] at hspk1
                        have hl3 : (Tr.sp L K[j - 1]).sq = l := by
                          rw [HQK.out, List.getElem?_map, List.getElem?_eq_getElem hj1] at hl1
                          exact Option.some.inj hl1
                        rw [hl3] at hspk1
                        obtain ⟨k1, hke⟩ : ∃ k1, K[j - 1] = k1 := ⟨_, rfl⟩
                        rw [hke] at r1 hk1 hspk1
                        have e2 : decide ((0 : Int) < j) = true := by simp; omega
                        have e2' : decide (0 < j) = true := by simp; omega
                        have e5 : IntKind.i64.wrap ((j : Int) - 1) = ((j - 1 : Nat) : Int) := by rw [IntWalk.i64_in _ (by omega)]; omega
                        have e6 : ((j - 1 : Nat) : Int) < K.length := by omega
                        have e7 : (0 : Int) ≤ ((j - 1 : Nat) : Int) := by omega
                        have e8 : (k1 : Int) < L.length := by omega
                        have e9 : (0 : Int) ≤ k1 := by omega
                        by_cases h3 : q = l
                        · have d6 : (q == l) = true := by simpa using h3
                          obtain rfl : R = true := HRT.out i hlt (by rw [HOK.out, HFE.out, if_pos (.inr (.inr ⟨hl2, h3⟩))]; simp)
                          clear h1 h2 hl3 hke hAe hl1 HF HL HFE HQJ
                          subst h3
                          go_wp2_with fail
                          go_quiet (fail)
                          go_wp2_with fail
                          go_ret
                          first
                            | exact ⟨rfl, HBW.out.trans ((Below.drewN' HBQ.out _).mono HBW.out.size)⟩
                            | exact ⟨rfl, HBW.out.trans ((Below.drewN' HBZ.out _).mono HBW.out.size)⟩
                        · have d6 : (q == l) = false := by simpa using h3
                          have HFN : Stow (Tr.fits s.kd (-1) Q = Tr.fits s.kd q (Q.drop (j + 1))) := ⟨by rw [HFE.out, if_neg (by omega)]⟩
                          have HLN : Stow (-1 ≤ q ∧ (j + 1 = 0 → q = -1) ∧ ∀ h : 0 < j + 1, Q[j + 1 - 1]? = some q ∧ q ≠ -1) := ⟨by omega, by omega, fun _ => ⟨HQJ.out, by omega⟩⟩
                          clear h1 h2 hl3 hke hAe hl1 HF HL HFE HQJ h3
                          go_wp2_with fail
                          go_quiet (fail)
                          go_wp2_with fail
                          exact ⟨⟨j + 1, q, rfl, by omega, HFN, HLN, ⟨by first | exact Below.drewN' HBQ.out _ | exact Below.drewN' HBZ.out _⟩⟩, by simp [intOf]; omega⟩
                · obtain rfl : j = K.length := by omega
                  have hok : Tr.okAt L i = true := by rw [HOK.out, HKD.out, HF.out, List.drop_of_length_le (by rw [HQL.out]; exact Nat.le_refl _)]; rfl
                  have HA2 : Stow (∀ k, k < i + 1 → Tr.okAt L k = true) := ⟨fun k hk => by
                    by_cases h : k < i
                    · exact HA.out k h
                    · obtain rfl : k = i := by omega
                      exact hok⟩
                  have HB4 : Stow (Below w2.heap.size w2 wr) := ⟨HB3.out.trans (HBZ.out.mono HB3.out.size)⟩
                  have hni : ¬ (K.length : Int) < K.length := by omega
                  clear hok
                  go_wp2_with fail
                  exact ⟨⟨i + 1, rfl, by omega, HA2, HB4⟩, by simp [intOf]; omega⟩
            · have d3 : decide (s.kd < (K.length : Int)) = true := by simp; omega
              obtain rfl : R = true := HRT.out i hlt (by rw [HOK.out, decide_eq_false hkd]; rfl)
              clear hkd
              go_wp2_with fail
              go_ret
              exact ⟨rfl, HBW.out⟩
          · obtain rfl : i = L.length := by omega
            obtain rfl : R = false := HRF.out HA.out
            have hni : ¬ (L.length : Int) < L.length := by omega
            go_wp2_with fail
            go_ret
            exact ⟨rfl, HB2.out.trans (HBR.out.mono HB2.out.size)⟩
  · go_enter Tryz.func69, Tryz.ntmps69
    go_wp2_with fail
    go_ret
    exact ⟨by simp, HB.out⟩
end Go.Proofs.YtfbhdkkmcfnghaaGreat
end

section
namespace Go.Proofs.YtfbhdkkmcfnghaaGreat
open Go.RowKit
set_option linter.unusedVariables false

set_option maxHeartbeats 4000000 in
set_option maxRecDepth 100000 in
theorem rfLacks_any (A : Option Addr) (cap hi lo : Nat) (L : List Sp) (x c : Bool) (w : World) (hS : SpR w A cap L) (hn : L.length ≤ 1000) (hkd : KdOk L) :
    Calls Tryz.prog 72 #[ktv hi lo A cap L x c] w fun e w' => e = .returned (.int .i64 (Tr.lacks L)) ∧ Below w.heap.size w w' := by
  have hb1 : Below w.heap.size w (w.alloc (.cells (ktc hi lo A cap L x c).toArray 40)) := Below.alloc' (Below.self w) _
  have HB := Stow.mk hb1
  have HS := Stow.mk (hS.keep hb1)
  have HH := Stow.mk (Held.made w (ktc hi lo A cap L x c) 40)
  have HKK := Stow.mk (refKids_len A cap L (by omega))
  have HKD := Stow.mk hkd
  obtain ⟨w1, hw1⟩ : ∃ w1, w.alloc (.cells (ktc hi lo A cap L x c).toArray 40) = w1 := ⟨_, rfl⟩
  have HLE : Stow (∀ i, i ≤ L.length → 0 ≤ Tr.lackTo L i ∧ Tr.lackTo L i ≤ 1099511627776 * (i : Int)) := ⟨fun i hi => ⟨Tr.lackTo_nonneg L i, Tr.lackTo_le (fun s hs => (hkd s hs).2) (by omega) i hi⟩⟩
  have HAL : Stow (Tr.lacks L = Tr.lackTo L L.length) := ⟨rfl⟩
  rw [HAL.out]
  clear hb1 hS hkd HAL
  unfold ktv
  go_enter Tryz.func72, Tryz.ntmps72
  go_wp2_with fail
  rw [show w.alloc (.cells #[.int .u64 (hi : Int), .int .u64 (lo : Int), .slice A L.length cap, .bool x, .bool c] 40) = w1 from hw1]
  rw [hw1] at HB HS HH
  clear hw1
  go_loopw [3, 4] (fun v u wr => ∃ i : Nat, u = .int .i64 (i : Int) ∧ v = .int .i64 (Tr.lackTo L i) ∧ i ≤ L.length ∧ Stow (Below w1.heap.size w1 wr)) (fun _ u _ => L.length - (intOf u).toNat)
  case atStart => exact ⟨0, rfl, rfl, by omega, ⟨Below.self _⟩⟩
  case round =>
    obtain ⟨i, rfl, rfl, hi, HBR⟩ := hrel
    have q2 := (HH.out.kept HBR.out).cell (i := 2) rfl
    by_cases hlt : i < L.length
    · have HHR := Stow.mk (HH.out.kept HBR.out)
      have HSR := Stow.mk (HS.out.keep HBR.out)
      obtain ⟨b, off, rfl, hblt, _⟩ := HSR.out.open (by simp; omega)
      have p7 := (span_at HSR.out hlt).c7
      rw [← Tr.sp_in hlt] at p7
      have hk := HKD.out _ (Tr.sp_mem hlt)
      have hle := HLE.out i hi
      have hkl := Tr.kids_len L i
      have HNX : Stow (Tr.lackTo L (i + 1) = Tr.lackTo L i + max 0 ((Tr.sp L i).kd - ((Tr.kids L i).length : Nat))) := ⟨Tr.lackTo_next L i⟩
      obtain ⟨d, hd⟩ : ∃ d, (Tr.sp L i).kd = d := ⟨_, rfl⟩
      obtain ⟨m, hm⟩ : ∃ d, Tr.lackTo L i = d := ⟨_, rfl⟩
      obtain ⟨m2, hm2⟩ : ∃ d, Tr.lackTo L (i + 1) = d := ⟨_, rfl⟩
      have HKW : Stow (∀ W, SpR W (some ⟨b, off, none⟩) cap L → Calls Tryz.prog 113 #[.slice (some ⟨b, off, none⟩) L.length cap, .int .i64 (i : Int)] W fun e w' => ∃ vA vc, e = .returned (.slice vA (Tr.kids L i).length vc) ∧ Below W.heap.size W w') := ⟨fun W h => (HKK.out i W h).mono fun e w' ⟨a, b, c, _, d⟩ => ⟨a, b, c, d⟩⟩
      obtain ⟨n, hnn⟩ : ∃ d, (Tr.kids L i).length = d := ⟨_, rfl⟩
      have HM2 := Stow.mk hm2
      rw [hd] at p7 hk HNX
      rw [hm] at hle HNX ⊢
      rw [hm2, hnn] at HNX
      rw [hnn] at HKW hkl
      have SF : Stow (∀ W', Below wr.heap.size wr W' → W'.cell? ⟨w.heap.size, 2, none⟩ = some (.slice (some ⟨b, off, none⟩) L.length cap) ∧ W'.cell? ⟨b, off + i * 11 + 7, none⟩ = some (.int .i64 d)) := ⟨fun W' hb => ⟨(HHR.out.kept hb).cell (i := 2) rfl, (hb.cell (p := ⟨b, off + i * 11 + 7, none⟩) hblt).trans p7⟩⟩
      have e1 : IntKind.i64.wrap (d - n) = d - n := IntWalk.i64_in _ (by omega)
      have hm2v := HNX.out
      have e2 : IntKind.i64.wrap (m + if (n : Int) < d then d - n else 0) = m2 := by
        rw [show (if (n : Int) < d then d - n else 0) = max 0 (d - n) by split <;> omega, ← hm2v]
        exact IntWalk.i64_in _ (by omega)
      have hii : (i : Int) < L.length := by omega
      have hi0 : (0 : Int) ≤ i := by omega
      clear hd hm hnn hm2 HNX hblt HKK hm2v
      go_wp2_with fail
      go_region_held3 (fun w' => w'.cell? ⟨w.heap.size, 2, none⟩ = some (.slice (some ⟨b, off, none⟩) L.length cap) ∧ w'.cell? ⟨b, off + i * 11 + 7, none⟩ = some (.int .i64 d)) (first | go_keep | exact hk6)
        (first
          | (go_at_call 113; refine (HKW.out _ HSR.out.drew).mono ?_; rintro e w5 ⟨g5, vc5, rfl, hb5⟩; have HB5 := Stow.mk (Below.call (Below.drew (Below.self wr)) hb5); have hk6 := SF.out w5 HB5.out))
      have HB6 := Stow.mk (HBR.out.trans (HB5.out.mono HBR.out.size))
      clear hk6 hb5
      go_wp2_with fail
      exact ⟨⟨i + 1, rfl, by rw [HM2.out], by omega, HB6⟩, by simp [intOf]; omega⟩
    · obtain rfl : i = L.length := by omega
      have hni : ¬ (L.length : Int) < L.length := by omega
      go_wp2_with fail
      go_ret
      exact ⟨rfl, HB.out.trans (HBR.out.mono HB.out.size)⟩

set_option maxHeartbeats 2000000 in
set_option maxRecDepth 100000 in
theorem rfOf_any (A : Option Addr) (cap hi lo : Nat) (L : List Sp) (x c : Bool) (w : World) (hS : SpR w A cap L) (hn : L.length ≤ 1000) (hkd : KdOk L) :
    Calls Tryz.prog 40 #[ktv hi lo A cap L x c] w fun e w' => e = .returned (.int .i64 (Tr.said L x c : Nat)) ∧ Below w.heap.size w w' := by
  have hb1 : Below w.heap.size w (w.alloc (.cells (ktc hi lo A cap L x c).toArray 40)) := Below.alloc' (Below.self w) _
  have HB := Stow.mk hb1
  have HS := Stow.mk (hS.keep hb1)
  have HH := Stow.mk (Held.made w (ktc hi lo A cap L x c) 40)
  have HCL : Stow (Tr.said L x c = if Tr.clashes L c then 2 else if (!x && decide ((Tr.roots L).length = 1) && decide ((Tr.orphans L).length = 0) && decide (Tr.lacks L = 0)) then 1 else 0) := ⟨rfl⟩
  rw [HCL.out]
  have HKC : Stow (∀ W, SpR W A cap L → Calls Tryz.prog 69 #[ktv hi lo A cap L x c] W fun e w' => e = .returned (.bool (Tr.clashes L c)) ∧ Below W.heap.size W w') := ⟨fun W h1 => rfClashes_any A cap hi lo L x c W h1 hn⟩
  obtain ⟨nr, hnr⟩ : ∃ n, (Tr.roots L).length = n := ⟨_, rfl⟩
  obtain ⟨nl, hnl⟩ : ∃ n, (Tr.orphans L).length = n := ⟨_, rfl⟩
  have HKR := Stow.mk (refRoots_len A cap L (by omega) hnr)
  have HKL := Stow.mk (refOrphans_len A cap L (by omega) hnl)
  have HKE : Stow (∀ W, SpR W A cap L → Calls Tryz.prog 72 #[ktv hi lo A cap L x c] W fun e w' => e = .returned (.int .i64 (Tr.lacks L)) ∧ Below W.heap.size W w') := ⟨fun W h1 => rfLacks_any A cap hi lo L x c W h1 hn hkd⟩
  obtain ⟨m, hm⟩ : ∃ n, Tr.lacks L = n := ⟨_, rfl⟩
  obtain ⟨b1, hb1⟩ : ∃ n, Tr.clashes L c = n := ⟨_, rfl⟩
  rw [hb1] at HKC ⊢
  rw [hm] at HKE ⊢
  rw [hnr, hnl]
  clear hS HCL hnr hnl hm hkd hb1
  unfold ktv
  cases b1
  rotate_left
  · go_enter Tryz.func40, Tryz.ntmps40
    go_wp2_with fail
    refine (HKC.out _ HS.out).mono ?_
    rintro e w1 ⟨rfl, hb1⟩
    have HB1 := Stow.mk (HB.out.trans (hb1.mono HB.out.size))
    clear hb1
    go_wp2_with fail
    go_ret
    exact ⟨rfl, HB1.out⟩
  cases x
  · by_cases h1 : nr ≠ 1
    · obtain ⟨d1, d2, d3, _⟩ := eq1_no h1
      rw [decide_eq_false h1]
      go_enter Tryz.func40, Tryz.ntmps40
      go_wp2_with fail
      refine (HKC.out _ HS.out).mono ?_
      rintro e w1 ⟨rfl, hbo⟩
      have HB := Stow.mk (HB.out.trans (hbo.mono HB.out.size))
      have HS := Stow.mk (HS.out.keep hbo)
      have HH := Stow.mk (HH.out.kept hbo)
      have q0w1 := HH.out.cell (i := 0) rfl
      have q1w1 := HH.out.cell (i := 1) rfl
      have q2w1 := HH.out.cell (i := 2) rfl
      have q3w1 := HH.out.cell (i := 3) rfl
      have q4w1 := HH.out.cell (i := 4) rfl
      clear hbo
      go_wp2_with fail
      refine (HKR.out _ HS.out).mono ?_
      rintro e w2 ⟨A1, c1, rfl, hb1⟩
      have HB2 := Stow.mk (HB.out.trans (hb1.mono HB.out.size))
      clear hb1
      go_wp2_with fail
      go_ret
      exact ⟨rfl, HB2.out⟩
    · obtain rfl : nr = 1 := by omega
      by_cases h2 : nl ≠ 0
      · obtain ⟨d1, d2, d3⟩ := eq0_no h2
        rw [decide_eq_false h2]
        go_enter Tryz.func40, Tryz.ntmps40
        go_wp2_with fail
        refine (HKC.out _ HS.out).mono ?_
        rintro e w1 ⟨rfl, hbo⟩
        have HB := Stow.mk (HB.out.trans (hbo.mono HB.out.size))
        have HS := Stow.mk (HS.out.keep hbo)
        have HH := Stow.mk (HH.out.kept hbo)
        have q0w1 := HH.out.cell (i := 0) rfl
        have q1w1 := HH.out.cell (i := 1) rfl
        have q2w1 := HH.out.cell (i := 2) rfl
        have q3w1 := HH.out.cell (i := 3) rfl
        have q4w1 := HH.out.cell (i := 4) rfl
        clear hbo
        go_wp2_with fail
        refine (HKR.out _ HS.out).mono ?_
        rintro e w2 ⟨A1, c1, rfl, hb1⟩
        have HB := Stow.mk (HB.out.trans (hb1.mono HB.out.size))
        have HS := Stow.mk (HS.out.keep hb1)
        have HH := Stow.mk (HH.out.kept hb1)
        have q0w2 := HH.out.cell (i := 0) rfl
        have q1w2 := HH.out.cell (i := 1) rfl
        have q2w2 := HH.out.cell (i := 2) rfl
        have q3w2 := HH.out.cell (i := 3) rfl
        have q4w2 := HH.out.cell (i := 4) rfl
        clear hb1
        go_wp2_with fail
        refine (HKL.out _ HS.out).mono ?_
        rintro e w3 ⟨A2, c2, rfl, hb2⟩
        have HB2 := Stow.mk (HB.out.trans (hb2.mono HB.out.size))
        clear hb2
        go_wp2_with fail
        go_ret
        exact ⟨rfl, HB2.out⟩
      · obtain rfl : nl = 0 := by omega
        obtain ⟨b3, hb3⟩ : ∃ b, decide (m = 0) = b := ⟨_, rfl⟩
        have d3 : (m == 0) = b3 := by rw [← hb3, Bool.eq_iff_iff]; simp
        rw [hb3]
        clear hb3
        go_enter Tryz.func40, Tryz.ntmps40
        go_wp2_with fail
        refine (HKC.out _ HS.out).mono ?_
        rintro e w1 ⟨rfl, hbo⟩
        have HB := Stow.mk (HB.out.trans (hbo.mono HB.out.size))
        have HS := Stow.mk (HS.out.keep hbo)
        have HH := Stow.mk (HH.out.kept hbo)
        have q0w1 := HH.out.cell (i := 0) rfl
        have q1w1 := HH.out.cell (i := 1) rfl
        have q2w1 := HH.out.cell (i := 2) rfl
        have q3w1 := HH.out.cell (i := 3) rfl
        have q4w1 := HH.out.cell (i := 4) rfl
        clear hbo
        go_wp2_with fail
        refine (HKR.out _ HS.out).mono ?_
        rintro e w2 ⟨A1, c1, rfl, hb1⟩
        have HB := Stow.mk (HB.out.trans (hb1.mono HB.out.size))
        have HS := Stow.mk (HS.out.keep hb1)
        have HH := Stow.mk (HH.out.kept hb1)
        have q0w2 := HH.out.cell (i := 0) rfl
        have q1w2 := HH.out.cell (i := 1) rfl
        have q2w2 := HH.out.cell (i := 2) rfl
        have q3w2 := HH.out.cell (i := 3) rfl
        have q4w2 := HH.out.cell (i := 4) rfl
        clear hb1
        go_wp2_with fail
        refine (HKL.out _ HS.out).mono ?_
        rintro e w3 ⟨A2, c2, rfl, hb2⟩
        have HB := Stow.mk (HB.out.trans (hb2.mono HB.out.size))
        have HS := Stow.mk (HS.out.keep hb2)
        have HH := Stow.mk (HH.out.kept hb2)
        have q0w3 := HH.out.cell (i := 0) rfl
        have q1w3 := HH.out.cell (i := 1) rfl
        have q2w3 := HH.out.cell (i := 2) rfl
        have q3w3 := HH.out.cell (i := 3) rfl
        have q4w3 := HH.out.cell (i := 4) rfl
        clear hb2
        go_wp2_with fail
        refine (HKE.out _ HS.out).mono ?_
        rintro e w4 ⟨rfl, hb3⟩
        have HB3 := Stow.mk (HB.out.trans (hb3.mono HB.out.size))
        clear hb3
        cases b3
        · go_wp2_with fail
          go_ret
          exact ⟨rfl, HB3.out⟩
        · go_wp2_with fail
          go_ret
          exact ⟨rfl, HB3.out⟩
  · go_enter Tryz.func40, Tryz.ntmps40
    go_wp2_with fail
    refine (HKC.out _ HS.out).mono ?_
    rintro e w1 ⟨rfl, hb1⟩
    have HB := Stow.mk (HB.out.trans (hb1.mono HB.out.size))
    have HS := Stow.mk (HS.out.keep hb1)
    have HH := Stow.mk (HH.out.kept hb1)
    have q0w1 := HH.out.cell (i := 0) rfl
    have q1w1 := HH.out.cell (i := 1) rfl
    have q2w1 := HH.out.cell (i := 2) rfl
    have q3w1 := HH.out.cell (i := 3) rfl
    have q4w1 := HH.out.cell (i := 4) rfl
    clear hb1
    go_wp2_with fail
    go_ret
    exact ⟨rfl, HB.out⟩

set_option maxHeartbeats 2000000 in
set_option maxRecDepth 100000 in
theorem rfTree_any (A : Option Addr) (cap hi lo : Nat) (L : List Sp) (x c : Bool) (w : World) (hS : SpR w A cap L) (hn : L.length ≤ 1000) (hkd : KdOk L) :
    Calls Tryz.prog 66 #[ktv hi lo A cap L x c] w fun e w' => TreeOut (Tr.treeN L x c) (decide (Tr.said L x c = 1)) w e w' := by
  have HKO : Stow (∀ W, SpR W A cap L → Calls Tryz.prog 40 #[ktv hi lo A cap L x c] W fun e w' => e = .returned (.int .i64 (Tr.said L x c : Nat)) ∧ Below W.heap.size W w') := ⟨fun W h1 => rfOf_any A cap hi lo L x c W h1 hn hkd⟩
  have HKR0 : Stow (∀ W, SpR W A cap L → _) := ⟨fun W h => refRoots_any A cap L W h (by omega)⟩
  have HKN0 : Stow (∀ W r, SpR W A cap L → r < L.length → _) := ⟨fun W r h hr => refNodes_yes A cap L r W h (by omega) hr⟩
  have hb1 : Below w.heap.size w (w.alloc (.cells (ktc hi lo A cap L x c).toArray 40)) := Below.alloc' (Below.self w) _
  have HB := Stow.mk hb1
  have HS := Stow.mk (hS.keep hb1)
  have HH := Stow.mk (Held.made w (ktc hi lo A cap L x c) 40)
  obtain ⟨n, hn1⟩ : ∃ n, Tr.said L x c = n := ⟨_, rfl⟩
  rw [hn1] at HKO
  by_cases h1 : n = 1
  · subst h1
    obtain ⟨r, hr, hrl, hM⟩ := Tr.treeN_yes hn1
    rw [hM, hn1]
    obtain ⟨M, hM⟩ : ∃ M, (Tr.walk L r).map (Tr.node L) = M := ⟨_, rfl⟩
    rw [hM]
    have HKR : Stow (∀ W, SpR W A cap L → Calls Tryz.prog 70 #[.slice A L.length cap] W fun e w' => ∃ g vc, e = .returned (.slice (some ⟨g, 0, none⟩) 1 vc) ∧ w'.cell? ⟨g, 0, none⟩ = some (.int .i64 (r : Int)) ∧ Below W.heap.size W w') := ⟨fun W h => (HKR0.out W h).mono fun e w' ⟨v, he, hr1, hb⟩ => by
      rw [hr] at hr1
      obtain ⟨A1, c1, rfl⟩ := own_form hr1
      obtain ⟨g, rfl, _, _, q⟩ := IRow.at_ hr1 (i := 0) (by simp)
      exact ⟨g, c1, he, q, hb⟩⟩
    have HKN : Stow (∀ W, SpR W A cap L → Calls Tryz.prog 105 #[.slice A L.length cap, .int .i64 (r : Int)] W fun e w' => ∃ vA vc, e = .returned (.slice vA M.length vc) ∧ NvR w' vA vc M ∧ Below W.heap.size W w') := ⟨fun W h => (HKN0.out W r h hrl).mono fun e w' h => nv_of hM h⟩
    have SF : Stow (∀ W', Held W' w.heap.size (ktc hi lo A cap L x c) → W'.cell? ⟨w.heap.size, 2, none⟩ = some (.slice A L.length cap)) := ⟨fun W' h => h.cell (i := 2) rfl⟩
    clear hb1 hS hr hM hn1 HKR0 HKN0
    unfold ktv
    go_enter Tryz.func66, Tryz.ntmps66
    go_wp2_with fail
    refine (HKO.out _ HS.out).mono ?_
    rintro e w1 ⟨rfl, hb1⟩
    have HB1 := Stow.mk (HB.out.trans (hb1.mono HB.out.size))
    have HS1 := Stow.mk (HS.out.keep hb1)
    have HH1 := Stow.mk (HH.out.kept hb1)
    have q2 := SF.out _ HH1.out
    clear hb1
    go_wp2_with fail
    go_region_with
      (first
        | (go_at_call 70; refine (HKR.out _ HS1.out.drew).mono ?_; rintro e w5 ⟨g5, vc5, rfl, p5, hb5⟩; have HB5 := Stow.mk (Below.call (Below.drew (Below.self w1)) hb5); have HS5 := Stow.mk (HS1.out.keep HB5.out); have HH5 := Stow.mk (HH1.out.kept HB5.out); have hk6 := SF.out w5 HH5.out)
        | (go_at_call 105; refine (HKN.out _ HS5.out).mono ?_; rintro e w6 ⟨vA6, vc6, rfl, hr6, hb6⟩; have HB6 := Stow.mk (HB5.out.trans (hb6.mono HB5.out.size)); have HN6 := Stow.mk hr6; have hk6 := SF.out w6 (HH5.out.kept hb6)))
    all_goals
      have HB7 := Stow.mk (HB1.out.trans (HB6.out.mono HB1.out.size))
      clear hb5 hb6 hr6 hk6
      go_wp2_with fail
      go_ret2
      exact ⟨_, _, rfl, HN6.out, HB7.out⟩
  · obtain ⟨e1, e2, e3, e4, e5⟩ := eq1_no h1
    have HE1 : Stow (decide (n = 1) = false) := ⟨by simpa using h1⟩
    rw [Tr.treeN_no (by rw [hn1]; exact h1), hn1, HE1.out]
    clear hb1 hS hn1 h1 HE1 HKR0 HKN0
    unfold ktv
    go_enter Tryz.func66, Tryz.ntmps66
    go_wp2_with fail
    refine (HKO.out _ HS.out).mono ?_
    rintro e w1 ⟨rfl, hb1⟩
    have HB1 := Stow.mk (HB.out.trans (hb1.mono HB.out.size))
    clear hb1
    go_wp2_with fail
    refine bodyPost_ret (results_tmp2 rfl _ _ _) rfl ?_
    exact ⟨none, 0, rfl, nvr_nil _, HB1.out⟩
end Go.Proofs.YtfbhdkkmcfnghaaGreat
end
