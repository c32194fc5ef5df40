/- Walk of the statement on all of a walk. Condition: a slice's own. -/
import Derived.Test.YthbpcdoddcacdaaTrWalksLaw
import Derived.Test.YthbpcdoddcacdaaTrAllMath
namespace Go.Proofs.Ythbpcdoddcacdaa
open Go.RowKit Cells
set_option linter.unusedVariables false

theorem not_before {W : List Nat} (h : W.Nodup) {i : Nat} (hi : i < W.length) : W[i] ∉ W.take i := by
  intro hm
  rw [List.mem_take_iff_getElem] at hm
  obtain ⟨j, hj, he⟩ := hm
  have := (List.getElem_inj h).1 he
  omega

theorem Tr.Dep.le {out : List (Nat × Nat)} (h : Tr.Dep out) : ∀ i (hi : i < out.length), out[i].2 ≤ i
  | 0, hi => by have := ((h 0 hi).1).2 rfl; omega
  | i + 1, hi => by
    have h1 := (h (i + 1) hi).2 (Nat.succ_pos i)
    have h2 := Tr.Dep.le h i (by omega)
    simp only [Nat.add_sub_cancel] at h1
    omega
theorem Tr.walkI_dep (L : List Sp) (a : Int) : Tr.Dep (Tr.walkI L a) := by
  unfold Tr.walkI
  split
  · intro i hi; simp at hi
  · exact Tr.walk_dep L _
/-- The depths of nodes. -/
theorem nodes_dep {L : List Sp} {R : List (Nat × Nat)} (h : Tr.Dep R) {M : List Nv} (hM : R.map (Tr.node L) = M) : M.length = R.length ∧ ∀ i (hi : i < M.length), (M[i].d = 0 ↔ i = 0) ∧ M[i].d ≤ i ∧ ∀ (h0 : 0 < i), M[i].d ≤ (M[i - 1]'(by omega)).d + 1 := by
  subst hM
  refine ⟨List.length_map _, fun i hi => ?_⟩
  have hr : i < R.length := by simpa using hi
  refine ⟨?_, ?_, fun h0 => ?_⟩
  · simpa [Tr.node] using (h i hr).1
  · simpa [Tr.node] using h.le i hr
  · simpa [Tr.node] using (h i hr).2 h0

set_option maxHeartbeats 4000000 in
set_option maxRecDepth 100000 in
theorem all31 (A : Option Addr) (cap : Nat) (L : List Sp) (a : Int) (w : World) (hS : SpR w A cap L) :
    Calls Try.prog 6 #[.slice A L.length cap, .int .i64 a] w fun e w' => e = .returned (.bool true) ∧ Below w.heap.size w w' := by
  have HS := Stow.mk hS
  by_cases hl : 100 < L.length
  · have hd : decide (100 < L.length) = true := by simpa using hl
    clear hS
    go_enter Try.func6, Try.ntmps6
    go_wp2_with fail
    refine (known31_any _).mono ?_
    rintro e wk ⟨rfl, hbk⟩
    go_wp2_with fail
    go_ret
    exact ⟨rfl, hbk⟩
  · have hd : decide (100 < L.length) = false := by simpa using hl
    have HLL : Stow (L.length ≤ 1000000) := ⟨by omega⟩
    have HLK : Stow (L.length ≤ 100) := ⟨by omega⟩
    have KW := trWalkW_at A cap L a w hS HLL.out
    have hout := Tr.walkI_out L a
    have hwk : ∀ x ∈ (Tr.walkI L a).map Prod.fst, ∀ k ∈ Tr.kids L x, k ∈ (Tr.walkI L a).map Prod.fst := by
      unfold Tr.walkI
      split
      · simp
      · exact Tr.walk_kids L _
    obtain ⟨W, hW⟩ : ∃ W, (Tr.walkI L a).map Prod.fst = W := ⟨_, rfl⟩
    have HNL : Stow ((Tr.walkI L a).length = W.length) := ⟨by rw [← hW, List.length_map]⟩
    have hWl := hout.len
    have hnd := hout.nd
    have hlt := hout.lt
    rw [HNL.out] at hWl
    rw [hW] at KW hwk hnd hlt
    have HKW := Stow.mk KW
    have HWK := Stow.mk hwk
    have HND := Stow.mk hnd
    have HWL := Stow.mk hlt
    clear KW hwk hnd hlt hout hW hS
    go_enter Try.func6, Try.ntmps6
    go_wp2_with fail
    refine HKW.out.mono ?_
    rintro e w1 ⟨v1, rfl, hr1, hb1⟩
    obtain ⟨A1, c1, rfl⟩ := own_form hr1
    have HW := Stow.mk hr1
    have HB1 := Stow.mk hb1
    clear hr1 hb1 HKW
    go_wp2_with fail
    go_loopw [6] (fun u wr => ∃ i : Nat, u = .int .i64 (i : Int) ∧ i ≤ W.length ∧ Stow (Below w1.heap.size w1 wr)) (fun u _ => W.length - (intOf u).toNat)
    case atStart => exact ⟨0, rfl, by omega, ⟨Below.self _⟩⟩
    case round =>
      obtain ⟨i, rfl, hi, HB⟩ := hrel
      by_cases hlt : i < W.length
      · have HWR := Stow.mk (IRow.keep HW.out HB.out)
        obtain ⟨g, rfl, hgl, _, q0⟩ := IRow.at_ HWR.out hlt
        have HNB := Stow.mk (not_before HND.out hlt)
        have HIT := Stow.mk (List.getElem_mem hlt)
        obtain ⟨x, hx⟩ : ∃ x, W[i] = x := ⟨_, rfl⟩
        rw [hx] at q0 HNB HIT
        have hxL := HWL.out x HIT.out
        have hl6 := HLK.out
        have hd0 : decide ((x : Int) < 0) = false := by simp
        have hd1 : decide ((L.length : Int) ≤ x) = false := by simp; omega
        have hd2 : decide (L.length ≤ x) = false := by simp; omega
        have hii : (i : Int) < W.length := by omega
        have hi0 : (0 : Int) ≤ i := by omega
        have hOl : W.length ≤ c1 := by
          rcases HWR.out.2 with ⟨h1, h2⟩ | ⟨g2, cp, cur, hv, _, _, h1, _⟩
          · simp only [Value.slice.injEq] at h1; cases h1.1
          · simp only [Value.slice.injEq] at hv; omega
        have hkc : (i : Int) ≤ c1 := by omega
        have hkO : (i : Int) ≤ W.length := by omega
        have HIR := Stow.mk (IRow.ir HWR.out)
        have HIN : Stow (∀ k, Calls Try.prog 37 #[.slice (some ⟨g, 0, none⟩) i c1, .int .i64 (x : Int)] (wr.drewN k) fun e w' => e = .returned (.bool false) ∧ w' = wr.drewN k) := ⟨fun k => by
          have hT : IR (wr.drewN k) (some ⟨g, 0, none⟩) c1 (W.take i) := by
            have := SlR.take (SlR.keep HIR.out (Below.drewN' (Below.self wr) k)) (k := i) (by simpa using hi)
            unfold IR
            rw [List.map_take, List.length_take, Nat.min_eq_left hi]
            exact this
          have := in_any (W.take i) x (some ⟨g, 0, none⟩) c1 (wr.drewN k) hT
          rw [decide_eq_false HNB.out, List.length_take, Nat.min_eq_left hi] at this
          exact this⟩
        clear hx
        go_wp2_with fail
        go_quiet ((go_at_call 37; exact Calls.quiet_of_same (HIN.out _)))
        have HBD : Stow (Below w1.heap.size w1 (wr.drewN nq)) := ⟨Below.drewN' HB.out nq⟩
        have KK := trKids_any A cap L x (wr.drewN nq) (HS.out.keep (HB1.out.trans (HBD.out.mono HB1.out.size))) HLL.out
        have hkm := HWK.out x HIT.out
        have hkl := Tr.kids_len L x
        obtain ⟨K, hK⟩ : ∃ K, Tr.kids L x = K := ⟨_, rfl⟩
        rw [hK] at KK hkm hkl
        have HKM := Stow.mk hkm
        have HKK := Stow.mk KK
        clear KK hkm hK HWR HIN
        go_wp2_with fail
        refine HKK.out.mono ?_
        rintro e w3 ⟨vk, rfl, hk, hb3⟩
        obtain ⟨Ak, ck, rfl⟩ := own_form hk
        have HK3 := Stow.mk hk
        have HB3 := Stow.mk (HBD.out.trans (hb3.mono HBD.out.size))
        have HI3 := Stow.mk (SlR.keep HIR.out ((Below.drewN' (Below.self wr) nq).trans (hb3.mono (Below.drewN' (Below.self wr) nq).size)))
        clear hk hb3 HKK HIR q0
        go_wp2_with fail
        go_loopw [8] (fun u wz => ∃ j : Nat, u = .int .i64 (j : Int) ∧ j ≤ K.length ∧ wz = w3) (fun u _ => K.length - (intOf u).toNat)
        case atStart => exact ⟨0, rfl, by omega, rfl⟩
        case round =>
          obtain ⟨j, rfl, hj, rfl⟩ := hrel
          by_cases hjl : j < K.length
          · obtain ⟨gk, rfl, _, _, y0⟩ := IRow.at_ HK3.out hjl
            have hym := HKM.out _ (List.getElem_mem hjl)
            obtain ⟨y, hy⟩ : ∃ y, K[j] = y := ⟨_, rfl⟩
            rw [hy] at y0 hym
            have KI := in_any W y (some ⟨g, 0, none⟩) c1 _ HI3.out
            rw [decide_eq_true hym] at KI
            have HKI := Stow.mk KI
            have hjj : (j : Int) < K.length := by omega
            clear KI hy hym
            go_wp2_with fail
            refine HKI.out.mono ?_
            rintro e wz ⟨rfl, hwz⟩
            have HZ := Stow.mk hwz
            clear hwz
            go_wp2_with fail
            exact ⟨⟨j + 1, rfl, by omega, HZ.out⟩, by simp [intOf]; omega⟩
          · obtain rfl : j = K.length := by omega
            have hnk : ¬ (K.length : Int) < K.length := by omega
            go_wp2_with fail
            exact ⟨⟨i + 1, rfl, by omega, HB3⟩, by simp [intOf]; omega⟩
      · obtain rfl : i = W.length := by omega
        have hnW : ¬ (W.length : Int) < W.length := by omega
        have HBW : Stow (Below w.heap.size w wr) := ⟨HB1.out.trans (HB.out.mono HB1.out.size)⟩
        obtain ⟨M, hM⟩ : ∃ M, (Tr.walkI L a).map (Tr.node L) = M := ⟨_, rfl⟩
        have hmd := nodes_dep (Tr.walkI_dep L a) hM
        rw [HNL.out] at hmd
        have HMD := Stow.mk hmd.2
        have HML := Stow.mk hmd.1
        have KN := (trNodes_at A cap L a wr (HS.out.keep HBW.out) HLL.out).mono fun e w' h => nv_of hM h
        have HKN := Stow.mk KN
        clear KN hM hmd
        go_wp2_with fail
        refine HKN.out.mono ?_
        rintro e wn ⟨An, cn, rfl, hrn, hbn⟩
        have HN := Stow.mk hrn
        have HBn := Stow.mk (HBW.out.trans (hbn.mono HBW.out.size))
        clear hrn hbn HKN
        go_wp2_with fail
        go_loopw [10] (fun u wz => ∃ i : Nat, u = .int .i64 (i : Int) ∧ i ≤ M.length ∧ Stow (Below wn.heap.size wn wz)) (fun u _ => M.length - (intOf u).toNat)
        case atStart => exact ⟨0, rfl, by omega, ⟨Below.self _⟩⟩
        case round =>
          obtain ⟨i, rfl, hi, HBZ⟩ := hrel
          have hS1 := HN.out.keep HBZ.out
          have hl6 := HLK.out
          have hml := HML.out
          by_cases hlt : i < M.length
          · obtain ⟨b, off, rfl, hb, _⟩ := hS1.open (by simp; omega)
            have hi1 : (M.map Nv.cells)[i]? = some (M[i].cells) := by rw [List.getElem?_map, List.getElem?_eq_getElem hlt]; rfl
            obtain ⟨_, c1_⟩ := hS1.cells hi1
            have n0 := c1_ 0 _ rfl
            obtain ⟨m0, m1, m2⟩ := HMD.out i hlt
            have hii : (i : Int) < M.length := by omega
            have hi00 : (0 : Int) ≤ i := by omega
            rcases Nat.eq_zero_or_pos i with rfl | h0
            · have hz := m0.2 rfl
              rw [hz] at n0
              simp only [Nat.add_zero] at n0
              clear m0 m1 m2 c1_ hi1 hS1 hz
              go_wp2_with fail
              go_quiet (fail)
              go_wp2_with fail
              exact ⟨⟨1, rfl, by omega, ⟨Below.drewN' HBZ.out _⟩⟩, by simp [intOf]; omega⟩
            · have hm2 := m2 h0
              have hi2 : (M.map Nv.cells)[i - 1]? = some ((M[i - 1]'(by omega)).cells) := by rw [List.getElem?_map, List.getElem?_eq_getElem (by omega)]; rfl
              obtain ⟨_, c2_⟩ := hS1.cells hi2
              have n1 := c2_ 0 _ rfl
              have m3 := (HMD.out (i - 1) (by omega)).2.1
              obtain ⟨p, hp⟩ : ∃ p, M[i].d = p := ⟨_, rfl⟩
              obtain ⟨q, hq⟩ : ∃ q, (M[i - 1]'(by omega)).d = q := ⟨_, rfl⟩
              simp only [hp] at n0 m0 m1 hm2
              simp only [hq] at n1 hm2 m3
              simp only [Nat.add_zero] at n0
              simp only [Nat.add_zero] at n1
              clear m2 c1_ c2_ hi1 hi2 hS1 hp hq
              have e1 : ((p : Int) == 0) = false := by rw [beq_eq_false_iff_ne]; omega
              have e2 : ((i : Int) == 0) = false := by rw [beq_eq_false_iff_ne]; omega
              have e3 : decide ((0 : Int) < i) = true := by simp; omega
              have e3' : decide (0 < i) = true := by simp; omega
              have e4 : decide ((q : Int) + 1 < p) = false := by simp; omega
              have e5 : IntKind.i64.wrap ((i : Int) - 1) = ((i - 1 : Nat) : Int) := by rw [IntWalk.i64_in _ (by omega)]; omega
              have e6 : IntKind.i64.wrap ((q : Int) + 1) = (q : Int) + 1 := IntWalk.i64_in _ (by omega)
              have e7 : ((i - 1 : Nat) : Int) < M.length := by omega
              clear m0
              go_wp2_with fail
              go_quiet (fail)
              go_wp2_with fail
              exact ⟨⟨i + 1, rfl, by omega, ⟨Below.drewN' HBZ.out _⟩⟩, by simp [intOf]; omega⟩
          · obtain rfl : i = M.length := by omega
            have hnM : ¬ (M.length : Int) < M.length := by omega
            have HX : Stow (Below w.heap.size w wr) := ⟨HBn.out.trans (HBZ.out.mono HBn.out.size)⟩
            have hn6 := HLL.out
            have HLE : Stow (Tr.lost L = Tr.no (Tr.met L (Tr.tops L)) L.length) := ⟨rfl⟩
            have HTD : Stow (Tr.tops L = Tr.roots L ++ Tr.orphans L) := ⟨rfl⟩
            obtain ⟨R1, hR1⟩ : ∃ R, Tr.roots L = R := ⟨_, rfl⟩
            obtain ⟨R2, hR2⟩ : ∃ R, Tr.orphans L = R := ⟨_, rfl⟩
            have hl1 : R1.length ≤ L.length := by rw [← hR1]; exact Tr.places_len _ _
            have hl2 : R2.length ≤ L.length := by rw [← hR2]; exact Tr.places_len _ _
            have K1 := trRoots_any A cap L wr (HS.out.keep HX.out) hn6
            rw [hR1] at K1 HTD
            rw [hR2] at HTD
            have HK1 := Stow.mk K1
            have HK2 : Stow (∀ W, SpR W A cap L → Calls Try.prog 26 #[.slice A L.length cap] W fun e w' => ∃ v, e = .returned v ∧ IRow w' W.heap.size v R2 ∧ Below W.heap.size W w') := ⟨fun W h => by have := trOrphans_any A cap L W h hn6; rwa [hR2] at this⟩
            obtain ⟨T, hTe⟩ : ∃ T, R1 ++ R2 = T := ⟨_, rfl⟩
            have hTl : T.length ≤ 2000 := by rw [← hTe, List.length_append]; omega
            have hrm : (R1.length + R2.length) * 8 ≤ 140737488355328 := by omega
            rw [hTe] at HTD
            rw [HTD.out] at HLE
            have HTE := Stow.mk hTe
            clear hTe K1 hR1 hR2 hS1
            go_wp2_with fail
            refine HK1.out.mono ?_
            rintro e wa ⟨va, rfl, hra, hba⟩
            obtain ⟨Aa, ca, rfl⟩ := own_form hra
            have HRA := Stow.mk hra
            have HBA := Stow.mk (HX.out.trans (hba.mono HX.out.size))
            have HRA0 := Stow.mk (IRow.lower hra HX.out.size)
            clear hra hba HRA
            go_wp2_with fail
            refine (HK2.out _ (HS.out.keep HBA.out)).mono ?_
            rintro e wb ⟨vb, rfl, hrb, hbb⟩
            obtain ⟨Ab, cb, rfl⟩ := own_form hrb
            have HRA2 := Stow.mk (IRow.keep HRA0.out hbb)
            have HWB := Stow.mk (IRow.win hrb)
            have HBB := Stow.mk (HBA.out.trans (hbb.mono HBA.out.size))
            clear hrb hbb HBA
            go_wp2_with (at_builtin; refine wpList_append_win HRA2.out R2 Ab R2.length cb rfl HWB.out rfl (.tmp 111) (.tmp 113) rfl rfl rfl hrm HBB.out.size ?_; intro At ct wt h3 _ hb3; rw [HTE.out] at h3 ⊢; have HT := Stow.mk (And.intro h3 (HBB.out.trans hb3)); clear h3 hb3)
            go_loopw [11, 13] (fun v u wr => ∃ i : Nat, u = .int .i64 (i : Int) ∧ i ≤ T.length ∧ Stow (IRow wr wt.heap.size v (Tr.met L (T.take i))) ∧ Stow (Below wt.heap.size wt wr)) (fun _ u _ => T.length - (intOf u).toNat)
            case atStart => exact ⟨0, rfl, by omega, ⟨NRow.nil _ _ _ _⟩, ⟨Below.self _⟩⟩
            case round =>
              obtain ⟨i, rfl, hi, HM, HBR⟩ := hrel
              obtain ⟨M, hM⟩ : ∃ M, Tr.met L (T.take i) = M := ⟨_, rfl⟩
              have hMl : M.length ≤ 2000000 := by
                have h1 : (T.take i).length ≤ 2000 := by rw [List.length_take]; omega
                have h2 := Nat.mul_le_mul h1 (show L.length ≤ 1000 by omega)
                have h3 := Tr.met_len (L := L) (T.take i)
                rw [hM] at h3
                omega
              have HMT : Stow (∀ h : i < T.length, Tr.met L (T.take (i + 1)) = M ++ (Tr.walk L T[i]).map Prod.fst) := ⟨fun h => by rw [← hM]; unfold Tr.met; rw [List.take_succ_eq_append_getElem h, List.flatMap_append]; simp⟩
              have HMA : Stow (i = T.length → M = Tr.met L T) := ⟨fun h => by rw [← hM, h, List.take_length]⟩
              rw [hM] at HM
              clear hM
              obtain ⟨Am, cm, rfl⟩ := own_form HM.out
              by_cases hlt : i < T.length
              · obtain ⟨g, rfl, _, _, q0⟩ := IRow.at_ (IRow.keep HT.out.1 HBR.out) hlt
                obtain ⟨k, hk⟩ : ∃ k, T[i] = k := ⟨_, rfl⟩
                have HMT2 := Stow.mk (HMT.out hlt)
                rw [hk] at q0 HMT2
                have KW := trWalkW_any A cap L k wr (HS.out.keep (HT.out.2.trans (HBR.out.mono HT.out.2.size))) hn6
                have hWl : ((Tr.walk L k).map Prod.fst).length ≤ 1000 := by rw [List.length_map]; exact Nat.le_trans (Tr.walk_len L k) (by omega)
                obtain ⟨Wk, hW⟩ : ∃ W, (Tr.walk L k).map Prod.fst = W := ⟨_, rfl⟩
                rw [hW] at KW hWl HMT2
                have HKW := Stow.mk KW
                have hii : (i : Int) < T.length := by omega
                have K8 : Stow ((M.length + Wk.length) * 8 ≤ 140737488355328) := ⟨by omega⟩
                clear KW hW hk HMT HMA
                go_wp2_with fail
                refine HKW.out.mono ?_
                rintro e w5 ⟨v5, rfl, hr5, hb5⟩
                obtain ⟨A5, c5, rfl⟩ := own_form hr5
                have HW5 := Stow.mk (IRow.win hr5)
                have HM5 := Stow.mk (IRow.keep HM.out hb5)
                have HB5 := Stow.mk (HBR.out.trans (hb5.mono HBR.out.size))
                clear hr5 hb5
                go_wp2_with (at_builtin; refine wpList_append_win HM5.out Wk A5 Wk.length c5 rfl HW5.out rfl (.tmp 121) (.tmp 127) rfl rfl rfl K8.out HB5.out.size ?_; intro A6 c6 w6 h6 _ hb6; have HF := Stow.mk (And.intro h6 (HB5.out.trans hb6)); clear h6 hb6)
                exact ⟨⟨i + 1, rfl, by omega, ⟨by rw [HMT2.out]; have h := HF.out.1; simp only [List.length_append] at h; exact h⟩, ⟨HF.out.2⟩⟩, by simp [intOf]; omega⟩
              · obtain rfl : i = T.length := by omega
                have HLM : Stow (Tr.lost L = Tr.no M L.length) := ⟨by rw [HLE.out, HMA.out rfl]⟩
                have hni : ¬ (T.length : Int) < T.length := by omega
                have hwl : wt.heap.size ≤ wr.heap.size := HBR.out.size
                obtain ⟨H, hH⟩ : ∃ H, wr.heap.size = H := ⟨_, rfl⟩
                have HMK : Stow (∀ W, Below H wr W → IR W Am cm M) := ⟨fun W h => IRow.ir (IRow.keep HM.out (hH ▸ h))⟩
                have HBF : Stow (∀ W, Below H wr W → Below w.heap.size w W ∧ w.heap.size ≤ H) := ⟨fun W h => ⟨(HT.out.2.trans (HBR.out.mono HT.out.2.size)).trans (h.mono (by have := HT.out.2.size; omega)), by have := HT.out.2.size; omega⟩⟩
                have HBS : Stow (Below H wr wr ∧ H ≤ wr.heap.size) := ⟨Below.refl _ _, by omega⟩
                clear HMT HMA HBR HM hH hwl
                have KL := trLost_any A cap L wr (HS.out.keep (HBF.out _ HBS.out.1).1) hn6
                rw [HLM.out] at KL
                have HKL := Stow.mk KL
                have HNM : Stow (∀ x, x < L.length → (decide (x ∈ Tr.no M L.length) = !decide (x ∈ M))) := ⟨fun x hx => by unfold Tr.no; by_cases h : x ∈ M <;> simp [h, hx]⟩
                obtain ⟨Z, hZ⟩ : ∃ Z, Tr.no M L.length = Z := ⟨_, rfl⟩
                rw [hZ] at HKL HNM
                clear KL hZ HLM
                go_wp2_with fail
                refine HKL.out.mono ?_
                rintro e wq ⟨vq, rfl, hrq, hbq⟩
                obtain ⟨Aq, cq, rfl⟩ := own_form hrq
                have HRQ := Stow.mk (IRow.ir hrq)
                have HMQ := Stow.mk (HMK.out _ (HBS.out.1.trans (hbq.mono HBS.out.2)))
                have HBQ := Stow.mk (HBF.out _ (HBS.out.1.trans (hbq.mono HBS.out.2))).1
                clear hrq hbq
                go_wp2_with fail
                go_loopw [15] (fun u wz => ∃ j : Nat, u = .int .i64 (j : Int) ∧ j ≤ L.length ∧ wz = wq) (fun u _ => L.length - (intOf u).toNat)
                case atStart => exact ⟨0, rfl, by omega, rfl⟩
                case round =>
                  obtain ⟨j, rfl, hj, rfl⟩ := hrel
                  by_cases hlt : j < L.length
                  · have KI1 := in_any M j Am cm _ HMQ.out
                    have KI2 := in_any Z j Aq cq _ HRQ.out
                    rw [HNM.out j hlt] at KI2
                    obtain ⟨r, hr⟩ : ∃ r, decide (j ∈ M) = r := ⟨_, rfl⟩
                    rw [hr] at KI1 KI2
                    have HI1 := Stow.mk KI1
                    have HI2 := Stow.mk KI2
                    clear KI1 KI2 hr
                    go_wp2_with fail
                    refine HI1.out.mono ?_
                    rintro e wz ⟨rfl, hwz⟩
                    subst hwz
                    go_wp2_with fail
                    refine HI2.out.mono ?_
                    rintro e wz ⟨rfl, hwz⟩
                    have HZ := Stow.mk hwz
                    clear hwz
                    cases r
                    · go_wp2_with fail
                      exact ⟨⟨j + 1, rfl, by omega, HZ.out⟩, by simp [intOf]; omega⟩
                    · go_wp2_with fail
                      exact ⟨⟨j + 1, rfl, by omega, HZ.out⟩, by simp [intOf]; omega⟩
                  · obtain rfl : j = L.length := by omega
                    have hni2 : ¬ (L.length : Int) < L.length := by omega
                    have HMLI : Stow ((M.length : Int) = M.length) := ⟨rfl⟩
                    go_wp2_with fail
                    refine (known31_any _).mono ?_
                    rintro e wk ⟨rfl, hbk⟩
                    have HF := Stow.mk (HBQ.out.trans (hbk.mono HBQ.out.size))
                    clear hbk
                    go_wp2_with fail
                    go_ret
                    exact ⟨rfl, HF.out⟩
theorem all31_at (v : Value) (a : Int) (w : World) (hv : pSlice w 11 spanCells v) : Calls Try.prog 6 #[v, .int .i64 a] w fun e w' => e = .returned (.bool true) ∧ Below w.heap.size w w' := by
  obtain ⟨L, A, cap, rfl, hS, hf⟩ := spans_of hv
  exact all31 A cap L a w hS
end Go.Proofs.Ythbpcdoddcacdaa
