/- Walks of the reference's Compile and Same. Conditions: texts as an int can say. -/
import Derived.Test.YtmknemnpjjcdbaaDoorFmRef
namespace Go.Proofs.YtmknemnpjjcdbaaDoor
open Go.RowKit
set_option linter.unusedVariables false

namespace Fm
theorem flush_few (out : List Pt) (text : List UInt8) : (flush out text).length ≤ out.length + 1 := by
  unfold flush; split <;> simp
theorem flush_short {out : List Pt} {text : List UInt8} {n : Nat} (h : ∀ p ∈ out, p.2.length ≤ n) (ht : text.length ≤ n) : ∀ p ∈ flush out text, p.2.length ≤ n := by
  intro p hp
  unfold flush at hp
  split at hp
  · exact h p hp
  · rcases List.mem_append.1 hp with hp | hp
    · exact h p hp
    · simp at hp; subst hp; exact ht
theorem part_short {s : List UInt8} {p : Pt} (h : part s = some p) : p.2.length ≤ s.length ∧ p.1 ≠ 0 := by
  refine ⟨?_, (part_wr h).2.2⟩
  unfold part at h
  split at h
  · simp only [Option.some.injEq] at h; subst h; simp
  · split at h
    · simp only [Option.some.injEq] at h; subst h
      unfold inner; simp; omega
    · cases h
end Fm
set_option maxHeartbeats 4000000 in
set_option maxRecDepth 100000 in
theorem fmRefCompile_any (s : List UInt8) (w : World) (hl : s.length ≤ 9223372036854775807) :
    Calls Tryd.prog 8 #[.string (bs s)] w (CompOf w (Fm.compile s)) := by
  by_cases h120 : 120 < s.length
  · have HC : Stow (Fm.compile s = ([], 0, 6)) := ⟨by unfold Fm.compile; rw [if_pos h120]⟩
    have hi : (120 : Int) < s.length := by omega
    go_enter Tryd.func8, Tryd.ntmps8
    go_wp2_with fail
    refine bodyPost_ret (results_tmp3 rfl _ _ _) rfl ?_
    rw [HC.out]
    exact ⟨_, rfl, PRow.nil _ _, Below.self _⟩
  obtain ⟨R, hR⟩ : ∃ R, Fm.compile s = R := ⟨_, rfl⟩
  have HC : Stow (Fm.comp s 0 [] [] none = R) := ⟨by rw [← hR]; unfold Fm.compile; rw [if_neg h120]⟩
  have hi : ¬ (120 : Int) < s.length := by omega
  rw [hR]
  clear hR
  go_enter Tryd.func8, Tryd.ntmps8
  go_wp2_with fail
  go_loopw [5, 6] (fun v a wr => ∃ (n : Nat) (out : List Pt) (text : List UInt8), a = .int .i64 n ∧ n ≤ s.length ∧ out.length ≤ n ∧ text.length ≤ n ∧ Stow (Fm.noText out ∧ ∀ p ∈ out, p.2.length ≤ 120) ∧ Stow (Fm.comp (s.drop n) n out text none = R) ∧ PRow wr w.heap.size v (Fm.flush out text) ∧ Below w.heap.size w wr) (fun _ a _ => s.length - (intOf a).toNat)
  case atStart => exact ⟨0, [], [], rfl, by omega, by simp, by simp, ⟨Fm.noText_nil, by simp⟩, HC, PRow.nil _ _, Below.self _⟩
  case round =>
    obtain ⟨n, out, text, rfl, hn, ho, ht, HNT, HJ, hrow, hbr⟩ := hrel
    obtain ⟨A, cap, rfl⟩ := hrow.form
    have HRW := Stow.mk hrow
    have HBR := Stow.mk hbr
    have HFS := Stow.mk (Fm.flush_short HNT.out.2 (Nat.le_trans ht (by omega)))
    have hff := Fm.flush_few out text
    clear hrow hbr
    by_cases hlt : n < s.length
    · have hlb : n < (bs s).size := hlt
      have hj := HJ.out
      rw [Fm.comp_cons hlt] at hj
      obtain ⟨c, hc⟩ : ∃ c, s[n]'hlt = c := ⟨_, rfl⟩
      rw [hc] at hj
      obtain ⟨u, hu⟩ : ∃ u, c.toNat = u := ⟨_, rfl⟩
      have hlu : ((s[n]'hlb).toNat) = u := by rw [← hu, ← hc]; rfl
      have hni : (n : Int) < s.length := by omega
      by_cases h1 : u < 32
      · have hod : Fm.odd c = true := by unfold Fm.odd; rw [hu]; simp [h1]
        rw [if_pos hod] at hj
        have HR := Stow.mk hj
        have h1i : (u : Int) < 32 := by omega
        clear hj hc hu hod
        go_wp2_with fail
        refine bodyPost_ret (results_tmp3 rfl _ _ _) rfl ?_
        rw [← HR.out]
        exact ⟨_, rfl, PRow.nil _ _, HBR.out⟩
      by_cases h2 : 126 < u
      · have hod : Fm.odd c = true := by unfold Fm.odd; rw [hu]; simp [h2]
        rw [if_pos hod] at hj
        have HR := Stow.mk hj
        have h1i : ¬ (u : Int) < 32 := by omega
        have h1d : decide (u < 32) = false := by simp; omega
        have h2i : (126 : Int) < u := by omega
        clear hj hc hu hod
        go_wp2_with fail
        refine bodyPost_ret (results_tmp3 rfl _ _ _) rfl ?_
        rw [← HR.out]
        exact ⟨_, rfl, PRow.nil _ _, HBR.out⟩
      have hod : Fm.odd c = false := by unfold Fm.odd; rw [hu]; simp; omega
      rw [if_neg (by rw [hod]; simp)] at hj
      have h1i : ¬ (u : Int) < 32 := by omega
      have h2i : ¬ (126 : Int) < u := by omega
      have h1d : decide (u < 32) = false := by simp; omega
      have h2d : decide (126 < u) = false := by simp; omega
      by_cases h37 : c = 37
      rotate_left
      · rw [if_neg h37] at hj
        have HJ2 := Stow.mk hj
        have hu37 : ((u : Int) != 37) = true := by
          rw [bne_iff_ne]
          intro h
          exact h37 (UInt8.toNat_inj.1 (by rw [hu]; show u = 37; omega))
        have HMF : Stow (Fm.more (Fm.flush out text) [c] = Fm.flush out (text ++ [c])) := ⟨Fm.more_flush HNT.out.1 (by simp)⟩
        have HCE : Stow ((s.drop n).take 1 = [c]) := ⟨by rw [List.drop_eq_getElem_cons hlt, ← hc]; rfl⟩
        have e1 : (n + 1 - n) = 1 := by omega
        have KW := fun W a b => fmRefWith_any (Fm.flush out text) [c] (.slice A (Fm.flush out text).length cap) w.heap.size W a (by omega) b (by simp) (fun p hp => by have := HFS.out p hp; omega)
        have HKW := Stow.mk KW
        clear hj hc hu hod h37 KW
        generalize (Fm.flush out text).length = m at *
        have hnn : (n : Int) ≤ (n : Int) + 1 := by omega
        have hnl : (n : Int) + 1 ≤ s.length := by omega
        go_wp2_with fail
        rw [HCE.out]
        refine (HKW.out _ HRW.out HBR.out.size).mono ?_
        rintro e w1 ⟨v1, rfl, hp1, hb1⟩
        rw [HMF.out] at hp1
        obtain ⟨A1, c1, rfl⟩ := hp1.form
        have HP1 := Stow.mk hp1
        have HB1 := Stow.mk hb1
        clear hp1 hb1
        go_wp2_with fail
        exact ⟨⟨n + 1, out, text ++ [c], by simp, by omega, by omega, by simp; omega, HNT, HJ2, HP1.out, HBR.out.trans HB1.out⟩, by simp [intOf]; omega⟩
      rw [if_pos h37] at hj
      have hu37 : u = 37 := by rw [← hu, h37]; rfl
      subst hu37
      have HJ2 := Stow.mk hj
      obtain ⟨E, hE1, hE2, hno, hat, hor⟩ := Fm.sign_at s (n + 1) (by omega)
      have HNO := Stow.mk hno
      have hnn : (n : Int) + 1 ≤ s.length := by omega
      clear hj hc hu hod h37 hno
      rcases hor with ⟨rfl, h37n⟩ | ⟨i, hEi, hEl, h37n, hsp⟩
      · have HR : Stow (R = ([], n, 3)) := ⟨by rw [← HJ2.out, Fm.comp_open _ h37n]; rfl⟩
        have hE : ∃ E, s.length = E := ⟨_, rfl⟩
        clear hat h37n hE
        go_wp2_with fail
        go_loop [7] (fun v => ∃ k : Nat, v = .int .i64 k ∧ n + 1 ≤ k ∧ k ≤ s.length) (fun v => s.length - (intOf v).toNat)
        case atStart => exact ⟨n + 1, by simp, by omega, by omega⟩
        case round =>
          obtain ⟨k, rfl, hk1, hk⟩ := hrel
          by_cases hkE : k < s.length
          · have hkl : k < (bs s).size := hkE
            obtain ⟨u2, hu2⟩ : ∃ u2, (s[k]'hkl).toNat = u2 := ⟨_, rfl⟩
            have hu37 : ((u2 : Int) != 37) = true := by
              rw [bne_iff_ne]
              intro h
              apply HNO.out k (by omega) hk1 hkE
              apply UInt8.toNat_inj.1
              show (s[k]'hkl).toNat = 37
              omega
            have hki : (k : Int) < s.length := by omega
            go_wp2_with fail
            exact ⟨⟨k + 1, by simp, by omega, by omega⟩, by simp [intOf]; omega⟩
          · obtain rfl : k = s.length := by omega
            go_wp2_with fail
            refine bodyPost_ret (results_tmp3 rfl _ _ _) rfl ?_
            rw [HR.out]
            exact ⟨_, rfl, PRow.nil _ _, HBR.out⟩
      · have hcp := Fm.comp_piece ((s.drop (n + 1)).take i) h37n [] ((s.drop (n + 1)).drop (i + 1)) (n + 1) out text
        rw [← hsp, HJ2.out, List.nil_append, List.drop_drop] at hcp
        have hlen : ((s.drop (n + 1)).take i).length = i := by rw [List.length_take, List.length_drop]; omega
        rw [hlen] at hcp
        have hEb : E < (bs s).size := hEl
        have hE37 : (s[E]'hEb).toNat = 37 := by have := hat hEl; show (s[E]'hEl).toNat = 37; rw [this]; rfl
        have hEi2 : (E : Int) < s.length := by omega
        have hEs : ((E : Int) == (s.length : Int)) = false := by rw [beq_eq_false_iff_ne]; omega
        by_cases i0 : i = 0
        · subst i0
          obtain rfl : E = n + 1 := by omega
          simp only [List.take_zero, if_true] at hcp
          have HNX : Stow (Fm.comp (s.drop (n + 2)) (n + 2) out (text ++ [37]) none = R) := ⟨by rw [hcp]⟩
          have HMF : Stow (Fm.more (Fm.flush out text) [37] = Fm.flush out (text ++ [37])) := ⟨Fm.more_flush HNT.out.1 (by simp)⟩
          have KW := fun W a b => fmRefWith_any (Fm.flush out text) [37] (.slice A (Fm.flush out text).length cap) w.heap.size W a (by omega) b (by simp) (fun p hp => by have := HFS.out p hp; omega)
          have HKW := Stow.mk KW
          have HEQ : Stow ((⟨#[37]⟩ : ByteArray) = bs [37]) := ⟨rfl⟩
          clear hsp hcp h37n hlen hat KW
          generalize (Fm.flush out text).length = m at *
          go_wp2_with fail
          go_loop [7] (fun v => v = .int .i64 ((n : Int) + 1)) (fun v => 0)
          case atStart => rfl
          case round =>
            subst hrel
            go_wp2_with fail
            rw [HEQ.out]
            refine (HKW.out _ HRW.out HBR.out.size).mono ?_
            rintro e w1 ⟨v1, rfl, hp1, hb1⟩
            rw [HMF.out] at hp1
            obtain ⟨A1, c1, rfl⟩ := hp1.form
            have HP1 := Stow.mk hp1
            have HB1 := Stow.mk hb1
            clear hp1 hb1
            go_wp2_with fail
            exact ⟨⟨n + 2, out, text ++ [37], by simp; omega, by omega, by omega, by simp; omega, HNT, HNX, HP1.out, HBR.out.trans HB1.out⟩, by simp [intOf]; omega⟩
        · have hne : (s.drop (n + 1)).take i ≠ [] := by intro h; rw [h] at hlen; simp at hlen; omega
          rw [if_neg hne] at hcp
          obtain ⟨pre, hpre⟩ : ∃ pre, (s.drop (n + 1)).take (E - (n + 1)) = pre := ⟨_, rfl⟩
          have hpre2 : (s.drop (n + 1)).take i = pre := by rw [← hpre]; congr 1; omega
          rw [hpre2] at hcp hlen
          have HCP := Stow.mk hcp
          have K3 := fun W => fmRefPart_any pre W (by omega)
          obtain ⟨px, hpx⟩ : ∃ px, Fm.part pre = px := ⟨_, rfl⟩
          have HPX := Stow.mk hpx
          rw [hpx] at K3 HCP
          have HPRE := Stow.mk hpre
          have hnE : ((E : Int) == (n : Int) + 1) = false := by rw [beq_eq_false_iff_ne]; omega
          have hd1 : (n : Int) + 1 ≤ (E : Int) := by omega
          have hEi3 : (E : Int) ≤ s.length := by omega
          have HLEN := Stow.mk hlen
          have HEI := Stow.mk hEi
          clear hEi hcp hpx hsp hne h37n hat hpre2 hpre hlen
          cases px with
          | none =>
            simp only [Option.isSome_none, Option.getD_none] at K3
            have HK3 := Stow.mk K3
            have HR : Stow (R = ([], n, 3)) := ⟨by have := HCP.out; simp only at this; rw [this]; rfl⟩
            clear K3
            go_wp2_with fail
            go_loop [7] (fun v => ∃ k : Nat, v = .int .i64 k ∧ n + 1 ≤ k ∧ k ≤ E) (fun v => E - (intOf v).toNat)
            case atStart => exact ⟨n + 1, by simp, by omega, by omega⟩
            rotate_right
            obtain ⟨k, rfl, hk1, hk⟩ := hrel
            by_cases hkE : k < E
            · have hkl : k < (bs s).size := by show k < s.length; omega
              obtain ⟨u2, hu2⟩ : ∃ u2, (s[k]'hkl).toNat = u2 := ⟨_, rfl⟩
              have hu37 : ((u2 : Int) != 37) = true := by
                rw [bne_iff_ne]
                intro h
                apply HNO.out k (by omega) hk1 hkE
                apply UInt8.toNat_inj.1
                show (s[k]'hkl).toNat = 37
                omega
              have hki : (k : Int) < s.length := by omega
              go_wp2_with fail
              exact ⟨⟨k + 1, by simp, by omega, by omega⟩, by simp [intOf]; omega⟩
            obtain rfl : k = E := by omega
            go_wp2_with fail
            rw [HPRE.out]
            refine (HK3.out _).mono ?_
            rintro e w1 ⟨rfl, hb1⟩
            have HB1 := Stow.mk hb1
            clear hb1
            go_wp2_with fail
            refine bodyPost_ret (results_tmp3 rfl _ _ _) rfl ?_
            rw [HR.out]
            exact ⟨_, rfl, PRow.nil _ _, (HBR.out.trans (HB1.out.mono HBR.out.size)).alloc (Nat.le_trans HBR.out.size HB1.out.size) _⟩
          | some p =>
            simp only [Option.isSome_some, Option.getD_some] at K3
            have HK3 := Stow.mk K3
            have HNX : Stow (Fm.comp (s.drop (n + 1 + (i + 1))) (n + 1 + (i + 1)) (Fm.flush out text ++ [p]) [] none = R) := ⟨by have := HCP.out; simp only at this; rw [this]; rfl⟩
            have hps := Fm.part_short HPX.out
            have HPS : Stow (Fm.noText (Fm.flush out text ++ [p]) ∧ ∀ q ∈ Fm.flush out text ++ [p], q.2.length ≤ 120) := ⟨Fm.noText_push hps.2, fun q hq => by
              rcases List.mem_append.1 hq with hq | hq
              · exact HFS.out q hq
              · simp at hq; subst hq; have := HLEN.out; have := hps.1; have := HEI.out; omega⟩
            have HO0 : Stow (wr.ownsRow w.heap.size 35 2 (.slice A (Fm.flush out text).length cap) (Fm.flush out text).length ((Fm.flush out text).flatMap Pt.cells)) := ⟨HRW.out⟩
            obtain ⟨m, hm⟩ : ∃ m, (Fm.flush out text).length = m := ⟨_, rfl⟩
            have HM := Stow.mk hm
            rw [hm] at HO0 hff
            have K5 : Stow ((m + 1) * 24 ≤ 140737488355328 ∧ m + 1 ≤ maxLen) := ⟨by omega, by unfold maxLen; omega⟩
            rw [hm]
            clear K3 hps hm HRW
            obtain ⟨pk, pt⟩ := p
            go_wp2_with fail
            go_loop [7] (fun v => ∃ k : Nat, v = .int .i64 k ∧ n + 1 ≤ k ∧ k ≤ E) (fun v => E - (intOf v).toNat)
            case atStart => exact ⟨n + 1, by simp, by omega, by omega⟩
            rotate_right
            obtain ⟨k, rfl, hk1, hk⟩ := hrel
            by_cases hkE : k < E
            · have hkl : k < (bs s).size := by show k < s.length; omega
              obtain ⟨u2, hu2⟩ : ∃ u2, (s[k]'hkl).toNat = u2 := ⟨_, rfl⟩
              have hu37 : ((u2 : Int) != 37) = true := by
                rw [bne_iff_ne]
                intro h
                apply HNO.out k (by omega) hk1 hkE
                apply UInt8.toNat_inj.1
                show (s[k]'hkl).toNat = 37
                omega
              have hki : (k : Int) < s.length := by omega
              go_wp2_with fail
              exact ⟨⟨k + 1, by simp, by omega, by omega⟩, by simp [intOf]; omega⟩
            obtain rfl : k = E := by omega
            go_wp2_with fail
            rw [HPRE.out]
            refine (HK3.out _).mono ?_
            rintro e w1 ⟨rfl, hb1⟩
            simp only at *
            have HB1 : Stow (Below w.heap.size w (w1.alloc (.cells #[.int .i64 (pk : Nat), .string (bs pt)] 35))) := ⟨(HBR.out.trans (hb1.mono HBR.out.size)).alloc (Nat.le_trans HBR.out.size hb1.size) _⟩
            have HO1 : Stow ((w1.alloc (.cells #[.int .i64 (pk : Nat), .string (bs pt)] 35)).ownsRow w.heap.size 35 2 (.slice A m cap) m ((Fm.flush out text).flatMap Pt.cells)) := ⟨own_kept HO0.out (Below.alloc' hb1 _)⟩
            clear hb1
            go_wp2_with (at_builtin; refine wpList_append_elem_form _ [.int .i64 (pk : Nat), .string (bs pt)] _ rfl (.tmp 78) (.tmp 80) 23 rfl w.heap.size 35 _ 2 24 Tryd.underlying23 info_part _ _ _ HO1.out rfl _ rfl (by simp) rfl (by decide) rfl (by intro u hu; simp at hu; rcases hu with rfl | rfl <;> rfl) K5.out.1 K5.out.2 HB1.out.size ?_; intro A4 cap4 w4 hown4 hg4 hb4 hs4)
            have HO4 : Stow (PRow w4 w.heap.size (.slice A4 (m + 1) cap4) (Fm.flush (Fm.flush out text ++ [(pk, pt)]) [])) := ⟨by
              unfold PRow Fm.flush
              rw [if_pos rfl, List.length_append, List.flatMap_append, show (if text = [] then out else out ++ [(0, text)]) = Fm.flush out text from rfl, HM.out]
              exact hown4⟩
            clear hown4 hg4
            have hEi := HEI.out
            have hm := HM.out
            exact ⟨⟨n + 1 + (i + 1), Fm.flush out text ++ [(pk, pt)], [], by simp; omega, by omega, by simp; omega, by simp, HPS, HNX, HO4.out, HB1.out.trans hb4⟩, by simp [intOf]; omega⟩
    · obtain rfl : n = s.length := by omega
      have hj := HJ.out
      rw [Fm.comp_end] at hj
      have HR := Stow.mk hj
      have hni : ¬ (s.length : Int) < s.length := by omega
      clear hj
      go_wp2_with fail
      refine bodyPost_ret (results_tmp3 rfl _ _ _) rfl ?_
      rw [← HR.out]
      exact ⟨_, rfl, HRW.out, HBR.out⟩
end Go.Proofs.YtmknemnpjjcdbaaDoor
