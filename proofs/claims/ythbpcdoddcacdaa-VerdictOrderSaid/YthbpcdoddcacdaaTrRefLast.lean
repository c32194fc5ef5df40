/- Walks of the reference's Walk and Lost. Condition: a slice's own. -/
import Derived.Test.YthbpcdoddcacdaaTrRefWalk
import Derived.Test.YthbpcdoddcacdaaTrRefA
namespace Go.Proofs.Ythbpcdoddcacdaa
open Go.RowKit
set_option linter.unusedVariables false

theorem IRow.win {w : World} {B : Nat} {A : Option Addr} {cap : Nat} {L : List Nat} (h : IRow w B (.slice A L.length cap) L) : (L = [] ∧ (A = none → cap = 0)) ∨ ∃ gg off, A = some ⟨gg, off, none⟩ ∧ ∀ j (h : j < L.length), w.cell? ⟨gg, off + j, none⟩ = some (.int .i64 (L[j] : Nat)) := by
  by_cases hz : L = []
  · refine .inl ⟨hz, fun hA => ?_⟩
    rcases h.2 with ⟨h1, h2⟩ | ⟨g2, cp, cur, hv, _⟩
    · simp only [Value.slice.injEq] at h1; exact h1.2.2
    · simp only [Value.slice.injEq] at hv; rw [hA] at hv; cases hv.1
  · right
    have hpos : 0 < L.length := List.length_pos_iff.2 hz
    obtain ⟨g0, hA, _⟩ := IRow.at_ h hpos
    refine ⟨g0, 0, hA, fun j hj => ?_⟩
    obtain ⟨g1, hA', _, _, hc⟩ := IRow.at_ h hj
    rw [hA] at hA'
    simp only [Option.some.injEq, Addr.mk.injEq] at hA'
    obtain ⟨rfl, _, _⟩ := hA'
    rw [Nat.zero_add, hc]

theorem refWalk_top (A : Option Addr) (cap : Nat) (L : List Sp) (n : Nat) (w : World) (hS : SpR w A cap L) (hn : L.length ≤ 1000000) (hl : n < L.length) :
    Calls Try.prog 78 #[.slice A L.length cap, .int .i64 (n : Int), .int .i64 0, .slice none 0 0, .slice none 0 0] w fun e w' => ∃ v1 v2, e = .returned (.tuple #[v1, v2]) ∧ IRow w' w.heap.size v1 ((Tr.walk L n).map Prod.fst) ∧ IRow w' w.heap.size v2 ((Tr.walk L n).map Prod.snd) ∧ Below w.heap.size w w' := by
  rw [Tr.walk_dfs hl (Nat.lt_succ_self _)]
  refine (refWalk_fuel A cap L w ⟨hS⟩ hn (L.length + 1) n 0 [] (.slice none 0 0) (.slice none 0 0) w (Below.self _) ⟨NRow.nil _ _ _ _, NRow.nil _ _ _ _, fun k h => by cases h⟩ ⟨by simp, by simp⟩ hl (Nat.le_refl _) (by simp)).mono ?_
  rintro e w' ⟨v1, v2, rfl, h1, h2, _⟩
  exact ⟨v1, v2, rfl, h1.s, h1.d, h2⟩

set_option maxHeartbeats 2000000 in
set_option maxRecDepth 100000 in
theorem refWalkW_at (A : Option Addr) (cap : Nat) (L : List Sp) (a : Int) (w : World) (hS : SpR w A cap L) (hn : L.length ≤ 1000000) :
    Calls Try.prog 31 #[.slice A L.length cap, .int .i64 a] w fun e w' => ∃ v, e = .returned v ∧ IRow w' w.heap.size v ((Tr.walkI L a).map Prod.fst) ∧ Below w.heap.size w w' := by
  have HM := Stow.mk (Below.self w)
  by_cases h1 : a < 0
  · have hw : Stow (Tr.walkI L a = []) := ⟨Tr.walkI_no (.inl h1)⟩
    have hd : decide (a < 0) = true := by simpa using h1
    clear hS
    go_enter Try.func31, Try.ntmps31
    go_wp2_with fail
    go_ret
    exact ⟨_, rfl, by rw [hw.out]; exact NRow.nil _ _ _ _, HM.out⟩
  · have hd : decide (a < 0) = false := by simpa using h1
    by_cases h2 : (L.length : Int) ≤ a
    · have hw : Stow (Tr.walkI L a = []) := ⟨Tr.walkI_no (.inr h2)⟩
      have hd2 : decide ((L.length : Int) ≤ a) = true := by simpa using h2
      clear hS
      go_enter Try.func31, Try.ntmps31
      go_wp2_with fail
      go_ret
      exact ⟨_, rfl, by rw [hw.out]; exact NRow.nil _ _ _ _, HM.out⟩
    · obtain ⟨n, rfl⟩ : ∃ n : Nat, a = n := ⟨a.toNat, by omega⟩
      have hd2 : decide (L.length ≤ n) = false := by simp; omega
      have HK := Stow.mk (refWalk_top A cap L n w hS hn (by omega))
      rw [Tr.walkI_yes]
      clear hS
      go_enter Try.func31, Try.ntmps31
      go_wp2_with fail
      refine HK.out.mono ?_
      rintro e w' ⟨v1, v2, rfl, hr1, hr2, hb⟩
      have HR := Stow.mk (And.intro hr1 hb)
      clear hr1 hr2 hb
      go_wp2_with fail
      go_ret
      exact ⟨_, rfl, HR.out.1, HR.out.2⟩
theorem refWalkW_any (A : Option Addr) (cap : Nat) (L : List Sp) (n : Nat) (w : World) (hS : SpR w A cap L) (hn : L.length ≤ 1000000) :
    Calls Try.prog 31 #[.slice A L.length cap, .int .i64 (n : Int)] w fun e w' => ∃ v, e = .returned v ∧ IRow w' w.heap.size v ((Tr.walk L n).map Prod.fst) ∧ Below w.heap.size w w' := by
  have := refWalkW_at A cap L n w hS hn
  rwa [Tr.walkI_yes] at this

theorem Tr.met_len {L : List Sp} : ∀ T : List Nat, (Tr.met L T).length ≤ T.length * L.length
  | [] => by simp [Tr.met]
  | t :: T => by
    have h := Tr.met_len (L := L) T
    have h2 := Tr.walk_len L t
    unfold Tr.met at h ⊢
    rw [List.flatMap_cons, List.length_append, List.length_map, List.length_cons, Nat.succ_mul]
    omega

set_option maxHeartbeats 4000000 in
set_option maxRecDepth 100000 in
theorem refLost_any (A : Option Addr) (cap : Nat) (L : List Sp) (w : World) (hS : SpR w A cap L) (hn : L.length ≤ 1000) :
    Calls Try.prog 33 #[.slice A L.length cap] w fun e w' => ∃ v, e = .returned v ∧ IRow w' w.heap.size v (Tr.lost L) ∧ Below w.heap.size w w' := by
  have HS := Stow.mk hS
  have hn6 : L.length ≤ 1000000 := by omega
  have HLE : Stow (Tr.lost L = Tr.no (Tr.met L (Tr.tops L)) L.length) := ⟨rfl⟩
  have HTD : Stow (Tr.tops L = Tr.roots L ++ Tr.orphans L) := ⟨rfl⟩
  obtain ⟨R1, hR1⟩ : ∃ R, Tr.roots L = R := ⟨_, rfl⟩
  obtain ⟨R2, hR2⟩ : ∃ R, Tr.orphans L = R := ⟨_, rfl⟩
  have hl1 : R1.length ≤ L.length := by rw [← hR1]; exact Tr.places_len _ _
  have hl2 : R2.length ≤ L.length := by rw [← hR2]; exact Tr.places_len _ _
  have K1 := refRoots_any A cap L w hS hn6
  rw [hR1] at K1 HTD
  rw [hR2] at HTD
  have HK1 := Stow.mk K1
  have HK2 : Stow (∀ W, SpR W A cap L → Calls Try.prog 27 #[.slice A L.length cap] W fun e w' => ∃ v, e = .returned v ∧ IRow w' W.heap.size v R2 ∧ Below W.heap.size W w') := ⟨fun W h => by have := refOrphans_any A cap L W h hn6; rwa [hR2] at this⟩
  clear hS K1 hR1 hR2
  go_enter Try.func33, Try.ntmps33
  go_wp2_with fail
  refine HK1.out.mono ?_
  rintro e w1 ⟨va, rfl, hra, hba⟩
  obtain ⟨Aa, ca, rfl⟩ := own_form hra
  have HRA := Stow.mk hra
  have HBA := Stow.mk hba
  clear hra hba
  go_wp2_with fail
  refine (HK2.out _ (HS.out.keep HBA.out)).mono ?_
  rintro e w2 ⟨vb, rfl, hrb, hbb⟩
  obtain ⟨Ab, cb, rfl⟩ := own_form hrb
  have HRA2 := Stow.mk (IRow.keep HRA.out hbb)
  have HWB := Stow.mk (IRow.win hrb)
  have HBB := Stow.mk (HBA.out.trans (hbb.mono HBA.out.size))
  have K8 : Stow ((R1.length + R2.length) * 8 ≤ 140737488355328) := ⟨by omega⟩
  clear hrb hbb HRA HBA
  obtain ⟨T, hTe⟩ : ∃ T, R1 ++ R2 = T := ⟨_, rfl⟩
  have hTl : T.length ≤ 2000 := by rw [← hTe, List.length_append]; omega
  rw [hTe] at HTD
  rw [HTD.out] at HLE
  have HTE := Stow.mk hTe
  clear hTe
  go_wp2_with (at_builtin; refine wpList_append_win HRA2.out R2 Ab R2.length cb rfl HWB.out rfl (.tmp 10) (.tmp 12) rfl rfl rfl K8.out HBB.out.size ?_; intro At ct w3 h3 _ hb3; rw [HTE.out] at h3 ⊢; have HT := Stow.mk (And.intro h3 (HBB.out.trans hb3)); clear h3 hb3)
  clear HRA2 HWB HBB K8 HTE HTD HK1 HK2 hl1 hl2
  go_loopw [3, 5] (fun v u wr => ∃ i : Nat, u = .int .i64 (i : Int) ∧ i ≤ T.length ∧ Stow (IRow wr w3.heap.size v (Tr.met L (T.take i))) ∧ Stow (Below w3.heap.size w3 wr)) (fun _ u _ => T.length - (intOf u).toNat)
  case atStart => exact ⟨0, rfl, by omega, ⟨NRow.nil _ _ _ _⟩, ⟨Below.self _⟩⟩
  case round =>
    obtain ⟨i, rfl, hi, HM, HBR⟩ := hrel
    obtain ⟨M, hM⟩ : ∃ M, Tr.met L (T.take i) = M := ⟨_, rfl⟩
    have hMl : M.length ≤ 2000000 := by
      have h1 : (T.take i).length ≤ 2000 := by rw [List.length_take]; omega
      have h2 := Nat.mul_le_mul h1 hn
      have h3 := Tr.met_len (L := L) (T.take i)
      rw [hM] at h3
      omega
    have HMT : Stow (∀ h : i < T.length, Tr.met L (T.take (i + 1)) = M ++ (Tr.walk L T[i]).map Prod.fst) := ⟨fun h => by rw [← hM]; unfold Tr.met; rw [List.take_succ_eq_append_getElem h, List.flatMap_append]; simp⟩
    have HMA : Stow (i = T.length → M = Tr.met L T) := ⟨fun h => by rw [← hM, h, List.take_length]⟩
    rw [hM] at HM
    clear hM
    obtain ⟨Am, cm, rfl⟩ := own_form HM.out
    by_cases hlt : i < T.length
    · obtain ⟨g, rfl, _, _, q0⟩ := IRow.at_ (IRow.keep HT.out.1 HBR.out) hlt
      obtain ⟨k, hk⟩ : ∃ k, T[i] = k := ⟨_, rfl⟩
      have HMT2 := Stow.mk (HMT.out hlt)
      rw [hk] at q0 HMT2
      have KW := refWalkW_any A cap L k wr (HS.out.keep (HT.out.2.trans (HBR.out.mono HT.out.2.size))) hn6
      have hWl : ((Tr.walk L k).map Prod.fst).length ≤ 1000 := by rw [List.length_map]; exact Nat.le_trans (Tr.walk_len L k) hn
      obtain ⟨Wk, hW⟩ : ∃ W, (Tr.walk L k).map Prod.fst = W := ⟨_, rfl⟩
      rw [hW] at KW hWl HMT2
      have HKW := Stow.mk KW
      have hii : (i : Int) < T.length := by omega
      have K8 : Stow ((M.length + Wk.length) * 8 ≤ 140737488355328) := ⟨by omega⟩
      clear KW hW hk HMT HMA
      go_wp2_with fail
      refine HKW.out.mono ?_
      rintro e w5 ⟨v5, rfl, hr5, hb5⟩
      obtain ⟨A5, c5, rfl⟩ := own_form hr5
      have HW5 := Stow.mk (IRow.win hr5)
      have HM5 := Stow.mk (IRow.keep HM.out hb5)
      have HB5 := Stow.mk (HBR.out.trans (hb5.mono HBR.out.size))
      clear hr5 hb5
      go_wp2_with (at_builtin; refine wpList_append_win HM5.out Wk A5 Wk.length c5 rfl HW5.out rfl (.tmp 20) (.tmp 26) rfl rfl rfl K8.out HB5.out.size ?_; intro A6 c6 w6 h6 _ hb6; have HF := Stow.mk (And.intro h6 (HB5.out.trans hb6)); clear h6 hb6)
      exact ⟨⟨i + 1, rfl, by omega, ⟨by rw [HMT2.out]; have h := HF.out.1; simp only [List.length_append] at h; exact h⟩, ⟨HF.out.2⟩⟩, by simp [intOf]; omega⟩
    · obtain rfl : i = T.length := by omega
      have HLM : Stow (Tr.lost L = Tr.no M L.length) := ⟨by rw [HLE.out, HMA.out rfl]⟩
      have hni : ¬ (T.length : Int) < T.length := by omega
      have hwl : w3.heap.size ≤ wr.heap.size := HBR.out.size
      obtain ⟨H, hH⟩ : ∃ H, wr.heap.size = H := ⟨_, rfl⟩
      have HMK : Stow (∀ W, Below H wr W → IR W Am cm M) := ⟨fun W h => IRow.ir (IRow.keep HM.out (hH ▸ h))⟩
      have HBF : Stow (∀ W, Below H wr W → Below w.heap.size w W ∧ w.heap.size ≤ H) := ⟨fun W h => ⟨(HT.out.2.trans (HBR.out.mono HT.out.2.size)).trans (h.mono (by have := HT.out.2.size; omega)), by have := HT.out.2.size; omega⟩⟩
      have HBS : Stow (Below H wr wr ∧ H ≤ wr.heap.size) := ⟨Below.refl _ _, by omega⟩
      clear HMT HMA HBR HM hH hwl
      go_wp2_with fail
      go_loopw [6, 7] (fun v u wz => ∃ j : Nat, u = .int .i64 (j : Int) ∧ j ≤ L.length ∧ Stow (IRow wz H v (Tr.no M j)) ∧ Stow (Below H wr wz)) (fun _ u _ => L.length - (intOf u).toNat)
      case atStart => exact ⟨0, rfl, by omega, ⟨NRow.nil _ _ _ _⟩, ⟨HBS.out.1⟩⟩
      case round =>
        obtain ⟨j, rfl, hj, HR, HBZ⟩ := hrel
        obtain ⟨O, hO⟩ : ∃ O, Tr.no M j = O := ⟨_, rfl⟩
        have hOl : O.length ≤ j := by rw [← hO]; exact Tr.no_len M j
        have HO := Stow.mk hO
        rw [hO] at HR
        clear hO
        obtain ⟨Ao, co, rfl⟩ := own_form HR.out
        have KI := in_any M j Am cm _ (HMK.out _ HBZ.out)
        by_cases hlt : j < L.length
        · by_cases hin : j ∈ M
          · have HN := Stow.mk (Tr.no_yes hin)
            rw [decide_eq_true hin] at KI
            clear hin
            have HKI := Stow.mk KI
            clear KI
            go_wp2_with fail
            refine HKI.out.mono ?_
            rintro e wz ⟨rfl, rfl⟩
            go_wp2_with fail
            exact ⟨⟨j + 1, rfl, by omega, ⟨by rw [HN.out, HO.out]; exact HR.out⟩, HBZ⟩, by simp [intOf]; omega⟩
          · have HN := Stow.mk (Tr.no_no hin)
            rw [decide_eq_false hin] at KI
            clear hin
            have HKI := Stow.mk KI
            have K8 : Stow ((O.length + 1) * 8 ≤ 140737488355328) := ⟨by omega⟩
            have HSZ : Stow _ := ⟨Nat.le_trans HBS.out.2 HBZ.out.size⟩
            clear KI
            go_wp2_with fail
            refine HKI.out.mono ?_
            rintro e wz ⟨rfl, rfl⟩
            go_wp2_with (at_builtin; refine wpList_append_int HR.out j rfl (.tmp 38) (.tmp 40) 44 rfl Try.underlying44 info_int rfl _ rfl rfl K8.out HSZ.out ?_; intro A8 c8 w8 h8 _ hb8 _; have HF := Stow.mk (And.intro h8 (HBZ.out.trans hb8)); clear h8 hb8)
            exact ⟨⟨j + 1, rfl, by omega, ⟨by rw [HN.out, HO.out]; exact HF.out.1⟩, ⟨HF.out.2⟩⟩, by simp [intOf]; omega⟩
        · obtain rfl : j = L.length := by omega
          have hni2 : ¬ (L.length : Int) < L.length := by omega
          go_wp2_with fail
          go_ret
          exact ⟨_, rfl, by rw [HLM.out, HO.out]; exact IRow.lower HR.out (HBF.out _ HBZ.out).2, (HBF.out _ HBZ.out).1⟩
end Go.Proofs.Ythbpcdoddcacdaa
