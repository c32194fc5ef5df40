/- Walk of tree.Lost. Conditions: a slice's own. -/
import Derived.Test.YthbpcdoddcacdaaTrConcat
namespace Go.Proofs.Ythbpcdoddcacdaa
open Go.RowKit
set_option linter.unusedVariables false

/-- Marks of places in a row of the call's own. -/
abbrev KRow (w : World) (B g N : Nat) (S : List Nat) : Prop := w.ownsRow B 4 1 (.slice (some ⟨g, 0, none⟩) N N) N ((List.range N).map fun i => .bool (decide (i ∈ S)))
theorem KRow.mark {w : World} {B g N : Nat} {S : List Nat} (h : KRow w B g N S) {x : Nat} (hx : x < N) : KRow (w.setCell ⟨g, x, none⟩ (.bool true)) B g N (S ++ [x]) := by
  have := (World.ownsRow.stored h x (.bool true)).1
  have e : ((List.range N).map fun i => Value.bool (decide (i ∈ S))).set x (.bool true) = (List.range N).map fun i => Value.bool (decide (i ∈ S ++ [x])) := by
    apply List.ext_getElem?
    intro i
    rw [List.getElem?_set, List.getElem?_map, List.getElem?_map]
    by_cases hi : x = i
    · subst hi
      simp [hx]
    · rw [if_neg hi]
      rcases Nat.lt_or_ge i N with h1 | h1
      · simp [List.getElem?_range h1]
        intro e
        exact absurd e.symm hi
      · rw [List.getElem?_eq_none (by simpa using h1)]; rfl
  unfold KRow
  rw [← e]
  exact this
theorem KRow.cell {w : World} {B g N : Nat} {S : List Nat} (h : KRow w B g N S) {x : Nat} (hx : x < N) : w.cell? ⟨g, x, none⟩ = some (.bool (decide (x ∈ S))) ∧ w.frozen? ⟨g, x, none⟩ = false ∧ g < w.heap.size ∧ B ≤ g := by
  have c := World.ownsRow.cells h rfl x (.bool (decide (x ∈ S))) (by rw [List.getElem?_map, List.getElem?_range hx]; rfl)
  rw [Addr.add_lit, Nat.zero_add] at c
  exact ⟨c, World.ownsRow.frozenAt h x, (World.ownsRow.lt h g rfl).2, (World.ownsRow.lt h g rfl).1⟩
namespace Tr
def no (S : List Nat) (j : Nat) : List Nat := (List.range j).filter fun i => !S.contains i
theorem no_yes {S : List Nat} {j : Nat} (h : j ∈ S) : no S (j + 1) = no S j := by
  unfold no
  rw [List.range_succ, List.filter_append]
  simp [h]
theorem no_no {S : List Nat} {j : Nat} (h : j ∉ S) : no S (j + 1) = no S j ++ [j] := by
  unfold no
  rw [List.range_succ, List.filter_append]
  simp [h]
theorem no_len (S : List Nat) (j : Nat) : (no S j).length ≤ j := by
  have := List.length_filter_le (fun i => !S.contains i) (List.range j)
  simpa [no] using this
def tops (L : List Sp) : List Nat := roots L ++ orphans L
def met (L : List Sp) (T : List Nat) : List Nat := T.flatMap fun t => (walk L t).map Prod.fst
theorem lost_eq (L : List Sp) : lost L = no (met L (tops L)) L.length := rfl
end Tr

set_option maxHeartbeats 8000000 in
set_option maxRecDepth 100000 in
theorem trLost_any (A : Option Addr) (cap : Nat) (L : List Sp) (w : World) (hS : SpR w A cap L) (hn : L.length ≤ 1000000) :
    Calls Try.prog 32 #[.slice A L.length cap] w fun e w' => ∃ v, e = .returned v ∧ IRow w' w.heap.size v (Tr.lost L) ∧ Below w.heap.size w w' := by
  have HS := Stow.mk hS
  clear hS
  obtain ⟨i0, hi0, hz, hsz, hby⟩ := info_parts info_bool
  go_enter Try.func32, Try.ntmps32
  go_wp2_with (refine wpList_make_full _ rfl (.tmp 12) (.tmp 12) 125 rfl w.heap.size 4 i0 (.bool false) 1 Try.underlying125 hi0 hz hsz .i64 .i64 _ _ L.length rfl rfl rfl rfl (by rw [hby]; omega) (by unfold maxLen; omega) (Nat.le_refl _) ?_; intro w1 hown1 hgrow1)
  have hb1 : Below w.heap.size w w1 := (Below.self w).grown hgrow1 (Nat.le_refl _) (by intro k hk; cases hk)
  have hk1 : KRow w1 w.heap.size w.heap.size L.length [] := by
    have hm : (madeCells (Value.bool false).cells (L.length * 1)).toList = (List.range L.length).map fun i => Value.bool (decide (i ∈ ([] : List Nat))) := by
      apply List.ext_getElem
      · simp [madeCells]
      · intro j h1 h2; simp [madeCells, Value.cells, Nat.mod_one]
    rw [hm] at hown1
    exact hown1
  have hg1 : w.heap.size < w1.heap.size := (World.ownsRow.lt hk1 w.heap.size rfl).2
  have HB1 := Stow.mk hb1
  have HK1 := Stow.mk hk1
  clear hown1 hgrow1 hi0 hz hsz hby hb1 hk1
  refine (trRoots_any A cap L w1 (HS.out.keep HB1.out) hn).mono ?_
  rintro e w2 ⟨v2, rfl, hr2, hb2⟩
  obtain ⟨A2, c2, rfl⟩ := own_form hr2
  have HR2 := Stow.mk hr2
  have HB2 := Stow.mk hb2
  have HL2 := Stow.mk (Tr.places_len L fun s => s.up == 0)
  clear hr2 hb2
  go_wp2_with fail
  refine (trOrphans_any A cap L w2 (HS.out.keep (HB1.out.trans (HB2.out.mono HB1.out.size))) hn).mono ?_
  rintro e w3 ⟨v3, rfl, hr3, hb3⟩
  obtain ⟨A3, c3, rfl⟩ := own_form hr3
  have HL3 := Stow.mk (Tr.places_len L (Tr.lost_ L))
  have hM3 := Below.alloc' hb3 (.cells #[.slice A2 (Tr.roots L).length c2, .slice A3 (Tr.orphans L).length c3] 44)
  have HC := Stow.mk (concat_any w3.heap.size _ _ A2 A3 c2 c3 (Tr.roots L) (Tr.orphans L) (w3.alloc (.cells #[.slice A2 (Tr.roots L).length c2, .slice A3 (Tr.orphans L).length c3] 44)) (Held.made w3 [.slice A2 (Tr.roots L).length c2, .slice A3 (Tr.orphans L).length c3] _) (IRow.keep HR2.out hM3) (IRow.alloc hr3 _) (Nat.le_trans HL2.out hn) (Nat.le_trans HL3.out hn))
  have HB3 : Stow (Below w1.heap.size w1 (w3.alloc (.cells #[.slice A2 (Tr.roots L).length c2, .slice A3 (Tr.orphans L).length c3] 44))) := ⟨HB2.out.trans (hM3.mono HB2.out.size)⟩
  have HT : Stow (Tr.roots L ++ Tr.orphans L = Tr.tops L) := ⟨rfl⟩
  rw [HT.out] at HC
  clear hr3 hb3 hM3 HR2 HB2
  go_wp2_with fail
  refine HC.out.mono ?_
  rintro e w4 ⟨v4, rfl, hr4, hb4⟩
  have hlt3 := HB3.out.size
  have HB4 : Stow (Below w1.heap.size w1 w4) := ⟨HB3.out.trans (hb4.mono HB3.out.size)⟩
  have HK4 : Stow (KRow w4 w.heap.size w.heap.size L.length []) := ⟨own_kept HK1.out HB4.out⟩
  have hTT : (Tr.tops L).length ≤ 2 * L.length := by
    unfold Tr.tops
    have h1 := HL2.out
    have h2 := HL3.out
    rw [List.length_append]
    show (Tr.places L _).length + (Tr.places L _).length ≤ _
    omega
  obtain ⟨T, hT⟩ : ∃ T, Tr.tops L = T := ⟨_, rfl⟩
  have HTT := Stow.mk hT
  rw [hT] at hr4 hTT
  obtain ⟨A4, c4, rfl⟩ := own_form hr4
  have HR4 : Stow (IRow w4 w1.heap.size (.slice A4 T.length c4) T) := ⟨IRow.lower hr4 hlt3⟩
  have HBW4 : Stow (Below w.heap.size w w4) := ⟨HB1.out.trans (HB4.out.mono HB1.out.size)⟩
  have hw4 := HB4.out.size
  clear hr4 hb4 HC HK1 HB3 HL2 HL3 HT hT hlt3
  go_wp2_with fail
  go_loopw [21] (fun u wr => ∃ i : Nat, u = .int .i64 (i : Int) ∧ i ≤ T.length ∧ Stow (KRow wr w.heap.size w.heap.size L.length (Tr.met L (T.take i))) ∧ Only w.heap.size w4 wr) (fun u _ => T.length - (intOf u).toNat)
  case atStart => exact ⟨0, rfl, by omega, HK4, Only.refl _ _⟩
  case round =>
    obtain ⟨i, rfl, hi, HKR, ho⟩ := hrel
    have HO := Stow.mk ho
    have HBR : Stow (Below w.heap.size w wr) := ⟨HBW4.out.trans (ho.below (Nat.le_refl _) HBW4.out.size)⟩
    have HRR : Stow (IRow wr w1.heap.size (.slice A4 T.length c4) T) := ⟨apart_kept HR4.out ho (fun k hk e => by have := (World.ownsRow.lt HR4.out k hk).1; cases e; omega)⟩
    clear ho
    by_cases hlt : i < T.length
    · obtain ⟨gt, rfl, _, hgt, q0⟩ := IRow.at_ HRR.out hlt
      obtain ⟨t, ht⟩ : ∃ t, T[i] = t := ⟨_, rfl⟩
      rw [ht] at q0
      obtain ⟨W, hW⟩ : ∃ W, (Tr.walk L t).map Prod.fst = W := ⟨_, rfl⟩
      have HWL : Stow (W.length ≤ L.length ∧ ∀ x ∈ W, x < L.length) := ⟨by rw [← hW, List.length_map]; exact Tr.walk_len L t, by rw [← hW]; exact (Tr.walk_out L t).lt⟩
      have HMT : Stow (Tr.met L (T.take (i + 1)) = Tr.met L (T.take i) ++ W) := ⟨by unfold Tr.met; rw [List.take_succ_eq_append_getElem hlt, ht, List.flatMap_append]; simp [hW]⟩
      have KW := trWalkW_any A cap L t wr (HS.out.keep HBR.out) hn
      rw [hW] at KW
      have HKW := Stow.mk KW
      have hii : (i : Int) < T.length := by omega
      clear KW hW ht
      go_wp2_with fail
      refine HKW.out.mono ?_
      rintro e w5 ⟨v5, rfl, hr5, hb5⟩
      obtain ⟨A5, c5, rfl⟩ := own_form hr5
      have hgr : w.heap.size < wr.heap.size := by have := HO.out.size; omega
      obtain ⟨H, hH⟩ : ∃ H, wr.heap.size = H := ⟨_, rfl⟩
      have HR5 : Stow (IRow w5 H (.slice A5 W.length c5) W) := ⟨hH ▸ hr5⟩
      rw [hH] at hgr
      have HK5 : Stow (KRow w5 w.heap.size w.heap.size L.length (Tr.met L (T.take i) ++ W.take 0)) := ⟨by rw [List.take_zero, List.append_nil]; exact own_kept HKR.out hb5⟩
      have HO5 : Stow (Only w.heap.size w4 w5) := ⟨HO.out.trans (Only.of_below hb5)⟩
      obtain ⟨S, hS⟩ : ∃ S, Tr.met L (T.take i) = S := ⟨_, rfl⟩
      rw [hS] at HK5 HMT
      clear hr5 hb5 HKR HKW hS hH
      go_wp2_with fail
      go_loopw [29] (fun u wi => ∃ j : Nat, u = .int .i64 (j : Int) ∧ j ≤ W.length ∧ Stow (KRow wi w.heap.size w.heap.size L.length (S ++ W.take j)) ∧ Only w.heap.size w5 wi) (fun u _ => W.length - (intOf u).toNat)
      case atStart => exact ⟨0, rfl, by omega, HK5, Only.refl _ _⟩
      case round =>
        obtain ⟨j, rfl, hj, HKI, ho⟩ := hrel
        have HOI := Stow.mk ho
        clear ho
        by_cases hjl : j < W.length
        · obtain ⟨gw, rfl, _, hgw, p0⟩ := IRow.at_ (show IRow _ H _ W from apart_kept HR5.out HOI.out (fun k hk e => by have := (World.ownsRow.lt HR5.out k hk).1; cases e; omega)) hjl
          have hxN := HWL.out.2 _ (List.getElem_mem hjl)
          obtain ⟨x, hx⟩ : ∃ x, W[j] = x := ⟨_, rfl⟩
          rw [hx] at p0 hxN
          obtain ⟨k0, k1, k2, _⟩ := KRow.cell HKI.out hxN
          have HNX := Stow.mk (KRow.mark HKI.out hxN)
          have HTJ : Stow (S ++ W.take (j + 1) = S ++ W.take j ++ [x]) := ⟨by rw [List.take_succ_eq_append_getElem hjl, hx, ← List.append_assoc]⟩
          have hji : (j : Int) < W.length := by omega
          have hxi : (x : Int) < L.length := by omega
          have hwl := HWL.out.1
          clear hx
          go_wp2_with fail
          exact ⟨⟨j + 1, rfl, by omega, ⟨by rw [HTJ.out]; exact HNX.out⟩, HOI.out.trans (Only.set _ _ _ _)⟩, by simp [intOf]; omega⟩
        · obtain rfl : j = W.length := by omega
          have hji : ¬ (W.length : Int) < W.length := by omega
          have HKE := HKI.out
          rw [List.take_length, ← HMT.out] at HKE
          have HKE' := Stow.mk HKE
          clear HKE
          go_wp2_with fail
          exact ⟨⟨i + 1, rfl, by omega, HKE', HO5.out.trans HOI.out⟩, by simp [intOf]; omega⟩
    · obtain rfl : i = T.length := by omega
      have hii : ¬ (T.length : Int) < T.length := by omega
      have hk := HKR.out
      rw [List.take_length] at hk
      obtain ⟨S, hSe⟩ : ∃ S, Tr.met L T = S := ⟨_, rfl⟩
      rw [hSe] at hk
      have HLE : Stow (Tr.lost L = Tr.no S L.length) := ⟨by rw [Tr.lost_eq, HTT.out, hSe]⟩
      have HKF := Stow.mk hk
      clear hk hSe HKR
      go_wp2_with fail
      go_loopw [8, 40] (fun v u wi => ∃ j : Nat, u = .int .i64 (j : Int) ∧ j ≤ L.length ∧ Stow (IRow wi wr.heap.size v (Tr.no S j)) ∧ Below wr.heap.size wr wi) (fun _ u _ => L.length - (intOf u).toNat)
      case atStart => exact ⟨0, rfl, by omega, ⟨NRow.nil _ _ _ _⟩, Below.self _⟩
      case round =>
        obtain ⟨j, rfl, hj, HOR, hbi⟩ := hrel
        have HBI := Stow.mk hbi
        clear hbi
        obtain ⟨Ao, co, rfl⟩ := own_form HOR.out
        by_cases hjl : j < L.length
        · obtain ⟨k0, _, k2, _⟩ := KRow.cell (show KRow _ _ _ _ _ from own_kept HKF.out HBI.out) hjl
          have hji : (j : Int) < L.length := by omega
          by_cases hin : j ∈ S
          · have hdt : decide (j ∈ S) = true := by simpa using hin
            rw [hdt] at k0
            have HN := Stow.mk (Tr.no_yes hin)
            clear hin hdt
            go_wp2_with fail
            exact ⟨⟨j + 1, rfl, by omega, ⟨by rw [HN.out]; exact HOR.out⟩, HBI.out⟩, by simp [intOf]; omega⟩
          · have hdt : decide (j ∈ S) = false := by simpa using hin
            rw [hdt] at k0
            have HN := Stow.mk (Tr.no_no hin)
            have hnl := Tr.no_len S j
            have K8 : Stow (((Tr.no S j).length + 1) * 8 ≤ 140737488355328) := ⟨by omega⟩
            clear hin hdt hnl
            go_wp2_with (at_builtin; refine wpList_append_int HOR.out j rfl (.tmp 47) (.tmp 49) 44 rfl Try.underlying44 info_int rfl _ rfl rfl K8.out HBI.out.size ?_; intro A9 c9 w9 hown9 _ hb9 hs9)
            exact ⟨⟨j + 1, rfl, by omega, ⟨by rw [HN.out]; exact hown9⟩, HBI.out.trans hb9⟩, by simp [intOf]; omega⟩
        · obtain rfl : j = L.length := by omega
          have hji : ¬ (L.length : Int) < L.length := by omega
          go_wp2_with fail
          go_ret
          exact ⟨_, rfl, by rw [HLE.out]; exact IRow.lower HOR.out HBR.out.size, HBR.out.trans (HBI.out.mono HBR.out.size)⟩
end Go.Proofs.Ythbpcdoddcacdaa
