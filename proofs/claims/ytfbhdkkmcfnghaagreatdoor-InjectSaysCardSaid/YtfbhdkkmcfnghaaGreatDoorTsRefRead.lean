/- Walk of the reference's Read. Condition: the text is no longer than 2^31. -/
import Derived.Test.YtfbhdkkmcfnghaaGreatDoorTsRead
namespace Go.Proofs.YtfbhdkkmcfnghaaGreatDoor
open Go.RowKit
set_option linter.unusedVariables false

set_option maxHeartbeats 2000000 in
set_option maxRecDepth 100000 in
theorem tsRefRead_any (l : List UInt8) (w : World) (hl : l.length ≤ 2147483647) :
    Calls Tryz.prog 38 #[.string (bs l)] w (MembersOf w (Ts.read l)) := by
  have HPL := Stow.mk (Ts.pieces_len 44 l)
  have HRD : Stow (Ts.read l = Ts.readFrom (Ts.pieces 44 l) []) := ⟨rfl⟩
  go_enter Tryz.func38, Tryz.ntmps38
  go_wp2_with fail
  refine (tsRefSplit_any l _ hl).mono ?_
  rintro e w1 ⟨v0, rfl, hT, hb1⟩
  generalize Ts.pieces 44 l = P at *
  have hPl : P.length ≤ 4294967296 := by have := HPL.out.1; omega
  obtain ⟨A0, cap0, rfl⟩ := TRow.form hT
  have HS := Stow.mk (trow_slr hT)
  have HB1 := Stow.mk hb1
  have HPP : Stow (0 < P.length → ∃ b off, A0 = some ⟨b, off, none⟩) := ⟨fun h => by
    obtain ⟨b, off, h1, _⟩ := HS.out.open (by simpa using h)
    exact ⟨b, off, h1⟩⟩
  clear hT hb1
  go_wp2_with fail
  go_loopw [4, 6] (fun o c wr => ∃ j cp A acc, o = .slice A (List.length acc) cp ∧ c = .int .i64 (j : Nat) ∧ j ≤ P.length ∧ List.length acc ≤ j ∧ MRow wr w1.heap.size o acc ∧ Stow (Ts.readFrom (P.drop j) acc = Ts.read l) ∧ Below w1.heap.size w1 wr) (fun _ v _ => P.length - (intOf v).toNat)
  case atStart => exact ⟨0, 0, none, [], rfl, rfl, by omega, by simp, MRow.nil _ _, ⟨by rw [HRD.out]; rfl⟩, Below.self _⟩
  case round =>
    obtain ⟨j, cp, A, acc, rfl, rfl, hj, haj, hown, HJ, hbr⟩ := hrel
    have hsz1 := HB1.out.size
    by_cases hlt : j < P.length
    · obtain ⟨b, off, rfl⟩ := HPP.out (by omega)
      obtain ⟨hltb, q0⟩ := text_at (HS.out.keep hbr) hlt
      have RS := Stow.mk (fun h => Ts.read_skip (out := acc) hlt h)
      have RF := Stow.mk (fun h h2 => Ts.read_form (out := acc) hlt h h2)
      have RB := Stow.mk (fun m h h2 h3 => Ts.read_bad (out := acc) (m := m) hlt h h2 h3)
      have RM := Stow.mk (fun m h h2 h3 => Ts.read_more (out := acc) (m := m) hlt h h2 h3)
      have hpl := HPL.out.2 _ (List.getElem_mem hlt)
      generalize P[j] = p at *
      have htl := Ts.trim_len p
      obtain ⟨t, ht⟩ : ∃ t, Ts.trim p = t := ⟨_, rfl⟩
      rw [ht] at htl
      have HTR := Stow.mk ht
      have hpl2 : p.length ≤ 9223372036854775807 := by omega
      have htl2 : t.length ≤ 2147483647 := by omega
      have HO := Stow.mk hown
      have HBR := Stow.mk hbr
      have hji : (j : Int) < P.length := by omega
      clear hown hbr ht
      go_wp2_with fail
      refine (tsTrim_any p _ hpl2).mono ?_
      rw [HTR.out]
      rintro e w2 ⟨rfl, rfl⟩
      clear q0
      by_cases ht0 : t = []
      · subst ht0
        have HN := Stow.mk (RS.out HTR.out)
        go_wp2_with fail
        exact ⟨⟨j + 1, cp, A, acc, rfl, rfl, by omega, by omega, HO.out, ⟨by rw [← HN.out]; exact HJ.out⟩, HBR.out⟩, by simp [intOf]; omega⟩
      have ht1 : (t == []) = false := by simpa using ht0
      have HT0 : Stow (Ts.trim p ≠ []) := ⟨by rw [HTR.out]; exact ht0⟩
      clear ht0
      go_wp2_with fail
      go_loop [8] (fun c => ∃ n : Nat, c = .int .i64 n ∧ n ≤ t.length ∧ Stow (∀ i (hi : i < t.length), i < n → t[i] ≠ 61)) (fun v => t.length - (intOf v).toNat)
      case atStart => exact ⟨0, rfl, by omega, ⟨fun i _ h => by omega⟩⟩
      case round =>
        obtain ⟨n, rfl, hn, HQ⟩ := hrel
        by_cases hnt : n < t.length
        · have hlb : n < (bs t).size := hnt
          obtain ⟨u, hu⟩ : ∃ u, (t[n]'hlb).toNat = u := ⟨_, rfl⟩
          have HU : Stow ((t[n]'hnt).toNat = u) := ⟨hu⟩
          by_cases hu61 : u = 61
          · have HE : Stow (t[n]'hnt = 61) := ⟨UInt8.toNat_inj.1 (by rw [HU.out, hu61]; rfl)⟩
            have HC := Stow.mk (Ts.cutEq_at hnt (fun i hi => HQ.out i (by omega) hi) HE.out)
            have hune : ((u : Int) != 61) = false := by simp; omega
            have hne : ((n : Int) == (t.length : Int)) = false := by simp; omega
            have hdl : (t.drop (n + 1)).length = t.length - (n + 1) := by simp
            have RB2 := Stow.mk (RB.out _ HT0.out (by rw [HTR.out]; exact HC.out))
            have RM2 := Stow.mk (RM.out _ HT0.out (by rw [HTR.out]; exact HC.out))
            have hml : (t.take n).length ≤ 2147483647 ∧ (t.drop (n + 1)).length ≤ 2147483647 := by simp; omega
            have HML := Stow.mk hml
            clear hml hdl
            go_wp2_with fail
            go_region
            generalize t.take n = k at *
            generalize t.drop (n + 1) = v at *
            obtain ⟨r, hr⟩ : ∃ r, Ts.next acc (k, v) = r := ⟨_, rfl⟩
            have HR := Stow.mk hr
            clear hr
            have hk9 : k.length ≤ 9223372036854775807 := by have := HML.out.1; omega
            have hv9 : v.length ≤ 9223372036854775807 := by have := HML.out.2; omega
            go_wp2_with fail
            refine (tsOne_any k v A _ cp acc rfl _ (HO.out.kept ?_).slr hk9 hv9).mono ?_
            · (repeat (first | exact Below.self _ | refine Below.alloc' ?_ _ | refine Below.drew ?_ | refine Below.drewN' ?_ _ | (refine Below.call ?_ (by assumption))))
            rw [HR.out]
            rintro e w4 ⟨rfl, hb4⟩
            have hH0 : Held (w2.alloc (.cells #[.string (bs k), .string (bs v)] 121)).drew w2.heap.size [.string (bs k), .string (bs v)] := Held.made w2 [.string (bs k), .string (bs v)] _
            have hH := hH0.kept hb4
            have c0 := hH.cell (i := 0) rfl
            have c1 := hH.cell (i := 1) rfl
            have hbw4 : Below w2.heap.size w2 w4 := by
              refine Below.call ?_ hb4
              (repeat (first | exact Below.self _ | refine Below.alloc' ?_ _ | refine Below.drew ?_ | refine Below.drewN' ?_ _ | (refine Below.call ?_ (by assumption))))
            have HB4 := Stow.mk hbw4
            clear hbw4 hH0
            have HBR4 : Stow (Below w1.heap.size w1 w4) := ⟨HBR.out.trans (HB4.out.mono HBR.out.size)⟩
            have HO4 := Stow.mk (HO.out.kept HB4.out)
            clear hb4 hH
            by_cases hr0 : r = 0
            · subst hr0
              have HN := Stow.mk (RM2.out HR.out)
              have K2 : Stow ((acc.length + 1) * 32 ≤ 140737488355328) := ⟨by omega⟩
              have K3 : Stow (acc.length + 1 ≤ maxLen) := ⟨by unfold maxLen; omega⟩
              have K4 := Stow.mk HBR4.out.size
              go_wp2_with (at_builtin; refine wpList_append_elem_form _ _ _ rfl (.tmp 56) (.tmp 58) 70 rfl w1.heap.size 121 _ 2 32 Tryz.underlying70 info_member _ _ _ HO4.out rfl _ rfl rfl rfl (by decide) rfl (by intro u hu; simp at hu; rcases hu with rfl | rfl <;> rfl) K2.out K3.out K4.out ?_; intro A5 cap5 w5 hown5 hg5 hb5 hs5)
              exact ⟨⟨j + 1, cap5, A5, acc ++ [(k, v)], by simp, rfl, by omega, by simp; omega, by simpa [MRow, Hd.cells] using hown5, ⟨by rw [← HN.out]; exact HJ.out⟩, HBR4.out.trans hb5⟩, by simp [intOf]; omega⟩
            · have HN := Stow.mk (RB2.out (by rw [HR.out]; exact hr0))
              have hrn : ((r : Int) != 0) = true := by simp; omega
              go_wp2_with fail
              go_ret2
              rw [← HJ.out, HN.out, HR.out]
              exact ⟨_, rfl, MRow.nil _ _, HB1.out.trans (HBR4.out.mono hsz1)⟩
          · have hune : ((u : Int) != 61) = true := by simp; omega
            have HE : Stow (t[n]'hnt ≠ 61) := ⟨fun e => hu61 (by rw [← HU.out, e]; rfl)⟩
            go_wp2_with fail
            refine ⟨⟨n + 1, rfl, by omega, ⟨fun i hi h => ?_⟩⟩, by simp [intOf]; omega⟩
            rcases Nat.lt_or_ge i n with h1 | h1
            · exact HQ.out i hi h1
            · obtain rfl : i = n := by omega
              exact HE.out
        · obtain rfl : n = t.length := by omega
          have HC := Stow.mk (Ts.cutEq_no (fun i hi => HQ.out i hi hi))
          have HN := Stow.mk (RF.out HT0.out (by rw [HTR.out]; exact HC.out))
          go_wp2_with fail
          go_ret2
          rw [← HJ.out, HN.out]
          exact ⟨_, rfl, MRow.nil _ _, HB1.out.trans (HBR.out.mono hsz1)⟩
    · obtain rfl : j = P.length := by omega
      have HO := Stow.mk hown
      have HN : Stow (Ts.read l = (acc, 0)) := ⟨by rw [← HJ.out]; simp [Ts.readFrom]⟩
      go_wp2_with fail
      go_ret2
      rw [HN.out]
      exact ⟨_, rfl, HO.out.base hsz1, HB1.out.trans (hbr.mono hsz1)⟩
end Go.Proofs.YtfbhdkkmcfnghaaGreatDoor
