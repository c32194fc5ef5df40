/- Walks of tstate.Read, and of the reference's Split and Read. Conditions: texts no longer than 2^31; a variable of the library's holds an int. -/
import Derived.Test.YtfbhdkkmcfnghaaGreatDoorTsWrite
namespace Go.Proofs.YtfbhdkkmcfnghaaGreatDoor
open Go.RowKit
set_option linter.unusedVariables false

theorem Ts.pieces_len (c : UInt8) : ∀ l : List UInt8, (Ts.pieces c l).length ≤ l.length + 1 ∧ ∀ p ∈ Ts.pieces c l, p.length ≤ l.length
  | [] => by simp [Ts.pieces]
  | b :: t => by
    have ih := Ts.pieces_len c t
    unfold Ts.pieces
    split
    · refine ⟨by simp; omega, fun p hp => ?_⟩
      rcases List.mem_cons.1 hp with rfl | hp
      · simp
      · have := ih.2 p hp; simp; omega
    · split
      · refine ⟨by simp, fun p hp => ?_⟩
        simp at hp; subst hp; simp
      · rename_i q qs hq
        rw [hq] at ih
        refine ⟨by simp at ih ⊢; omega, fun p hp => ?_⟩
        rcases List.mem_cons.1 hp with rfl | hp
        · have := ih.2 q (by simp); simp; omega
        · have := ih.2 p (by simp [hp]); simp; omega
theorem Ts.trim_len (l : List UInt8) : (Ts.trim l).length ≤ l.length := by
  unfold Ts.trim Ts.trimR
  have h1 : ∀ (p : UInt8 → Bool) (l : List UInt8), (l.dropWhile p).length ≤ l.length := fun p l => (List.dropWhile_sublist p).length_le
  have a := h1 Ts.blank (l.reverse.dropWhile Ts.blank).reverse
  have b := h1 Ts.blank l.reverse
  simp at a b
  omega
theorem Ts.cutEq_len {l : List UInt8} {m : Hd} (h : Ts.cutEq l = some m) : m.1.length ≤ l.length ∧ m.2.length ≤ l.length := by
  unfold Ts.cutEq at h
  split at h
  · simp at h; subst h
    have h1 := (List.takeWhile_sublist (l := l) (· != 61)).length_le
    have h2 := (List.dropWhile_sublist (l := l) (· != 61)).length_le
    simp; omega
  · simp at h

/-- A round of reading. -/
theorem Ts.read_skip {P : List (List UInt8)} {j : Nat} {out : List Hd} (h : j < P.length) (ht : Ts.trim P[j] = []) : Ts.readFrom (P.drop j) out = Ts.readFrom (P.drop (j + 1)) out := by
  rw [List.drop_eq_getElem_cons h]
  simp [Ts.readFrom, ht]
theorem Ts.read_form {P : List (List UInt8)} {j : Nat} {out : List Hd} (h : j < P.length) (ht : Ts.trim P[j] ≠ []) (hc : Ts.cutEq (Ts.trim P[j]) = none) : Ts.readFrom (P.drop j) out = ([], 3) := by
  rw [List.drop_eq_getElem_cons h]
  simp [Ts.readFrom, ht, hc]
theorem Ts.read_bad {P : List (List UInt8)} {j : Nat} {out : List Hd} {m : Hd} (h : j < P.length) (ht : Ts.trim P[j] ≠ []) (hc : Ts.cutEq (Ts.trim P[j]) = some m) (hn : Ts.next out m ≠ 0) : Ts.readFrom (P.drop j) out = ([], Ts.next out m) := by
  rw [List.drop_eq_getElem_cons h]
  simp [Ts.readFrom, ht, hc, hn]
theorem Ts.read_more {P : List (List UInt8)} {j : Nat} {out : List Hd} {m : Hd} (h : j < P.length) (ht : Ts.trim P[j] ≠ []) (hc : Ts.cutEq (Ts.trim P[j]) = some m) (hn : Ts.next out m = 0) : Ts.readFrom (P.drop j) out = Ts.readFrom (P.drop (j + 1)) (out ++ [m]) := by
  rw [List.drop_eq_getElem_cons h]
  simp [Ts.readFrom, ht, hc, hn]

theorem texts_made (w : World) (P : List (List UInt8)) (hm : P.length ≤ maxLen) : SlR (w.alloc (.cells (P.map fun p => Value.string (bs p)).toArray 9)) 1 (.slice (some ⟨w.heap.size, 0, none⟩) P.length P.length) (P.map fun x => [Value.string (bs x)]) := by
  refine trow_slr (B := w.heap.size) ⟨by simp, .inr ⟨w.heap.size, P.length, _, rfl, Nat.le_refl _, heap_alloc_new w _, Nat.le_refl _, hm, by simp, ?_⟩⟩
  simp only [Nat.mul_one]
  exact List.take_of_length_le (by simp)
theorem MRow.base {w : World} {B B' : Nat} {v : Value} {L : List Hd} (h : MRow w B' v L) (hle : B ≤ B') : MRow w B v L := by
  refine ⟨h.1, ?_⟩
  rcases h.2 with h | ⟨g, cap, cur, hv, hb, r⟩
  · exact .inl h
  · exact .inr ⟨g, cap, cur, hv, by omega, r⟩
/-- A text of a slice of texts. -/
theorem text_at {w : World} {b off n cap k : Nat} {L : List (List UInt8)} (h : SlR w 1 (.slice (some ⟨b, off, none⟩) n cap) (L.map fun x => [Value.string (bs x)])) (hk : k < L.length) : b < w.heap.size ∧ w.cell? ⟨b, off + k, none⟩ = some (.string (bs L[k])) := by
  have hi : (L.map fun x => [Value.string (bs x)])[k]? = some [Value.string (bs L[k])] := by rw [List.getElem?_map, List.getElem?_eq_getElem hk]; rfl
  obtain ⟨hb, hc⟩ := h.cells hi
  have := hc 0 _ rfl
  rw [Nat.mul_one, Nat.add_zero] at this
  exact ⟨hb, this⟩

set_option maxHeartbeats 2000000 in
set_option maxRecDepth 100000 in
theorem tsRead_any (l : List UInt8) (w : World) (hl : l.length ≤ 2147483647) (hm : MaxIs w) :
    Calls Tryz.prog 74 #[.string (bs l)] w (MembersOf w (Ts.read l)) := by
  have HM := Stow.mk hm
  have hl2 : l.length < 4294967281 := by omega
  have HPL := Stow.mk (Ts.pieces_len 44 l)
  have HRD : Stow (Ts.read l = Ts.readFrom (Ts.pieces 44 l) []) := ⟨rfl⟩
  clear hm
  go_enter Tryz.func74, Tryz.ntmps74
  go_wp2_with fail
  refine (tsSplit_lib l _ hl2 HM.out).mono ?_
  rintro e w1 ⟨rfl, hw1⟩
  generalize Ts.pieces 44 l = P at *
  have hPl : P.length ≤ 4294967296 := by have := HPL.out.1; omega
  have HS : Stow (SlR w1 1 (.slice (some ⟨w.heap.size, 0, none⟩) P.length P.length) (P.map fun x => [Value.string (bs x)])) := ⟨by
    rw [hw1]
    exact texts_made w P (by unfold maxLen; omega)⟩
  have HB1 : Stow (Below w.heap.size w w1) := ⟨by rw [hw1]; exact Below.alloc' (Below.self _) _⟩
  have HM1 := Stow.mk (HM.out.keep HB1.out)
  clear hw1
  go_wp2_with fail
  go_loopw [4, 15] (fun o c wr => ∃ j cp A acc, o = .slice A (List.length acc) cp ∧ c = .int .i64 (j : Nat) ∧ j ≤ P.length ∧ List.length acc ≤ j ∧ MRow wr w1.heap.size o acc ∧ Stow (Ts.readFrom (P.drop j) acc = Ts.read l) ∧ Below w1.heap.size w1 wr) (fun _ v _ => P.length - (intOf v).toNat)
  case atStart => exact ⟨0, 0, none, [], rfl, rfl, by omega, by simp, MRow.nil _ _, ⟨by rw [HRD.out]; rfl⟩, Below.self _⟩
  case round =>
    obtain ⟨j, cp, A, acc, rfl, rfl, hj, haj, hown, HJ, hbr⟩ := hrel
    have hsz1 := HB1.out.size
    by_cases hlt : j < P.length
    · obtain ⟨hltb, q0⟩ := text_at (HS.out.keep hbr) hlt
      rw [Nat.zero_add] at q0
      have RS := Stow.mk (fun h => Ts.read_skip (out := acc) hlt h)
      have RF := Stow.mk (fun h h2 => Ts.read_form (out := acc) hlt h h2)
      have RB := Stow.mk (fun m h h2 h3 => Ts.read_bad (out := acc) (m := m) hlt h h2 h3)
      have RM := Stow.mk (fun m h h2 h3 => Ts.read_more (out := acc) (m := m) hlt h h2 h3)
      have hpl := HPL.out.2 _ (List.getElem_mem hlt)
      generalize P[j] = p at *
      have htl := Ts.trim_len p
      obtain ⟨t, ht⟩ : ∃ t, Ts.trim p = t := ⟨_, rfl⟩
      rw [ht] at htl
      have HTR := Stow.mk ht
      have hpl2 : p.length ≤ 9223372036854775807 := by omega
      have htl2 : t.length < 4294967281 := by omega
      have HO := Stow.mk hown
      have HBR := Stow.mk hbr
      clear hown hbr ht
      go_wp2_with fail
      refine (tsTrim_lib p _ hpl2).mono ?_
      rw [HTR.out]
      rintro e w2 ⟨rfl, hb2⟩
      have HB2 := Stow.mk hb2
      have HO2 := Stow.mk (HO.out.kept hb2)
      have HBR2 : Stow (Below w1.heap.size w1 w2) := ⟨HBR.out.trans (hb2.mono HBR.out.size)⟩
      clear hb2 q0
      by_cases ht0 : t = []
      · subst ht0
        have HN := Stow.mk (RS.out HTR.out)
        go_wp2_with fail
        exact ⟨⟨j + 1, cp, A, acc, rfl, rfl, by omega, by omega, HO2.out, ⟨by rw [← HN.out]; exact HJ.out⟩, HBR2.out⟩, by simp [intOf]; omega⟩
      have ht1 : (t == []) = false := by simpa using ht0
      have HT0 : Stow (Ts.trim p ≠ []) := ⟨by rw [HTR.out]; exact ht0⟩
      obtain ⟨o, ho⟩ : ∃ o, Ts.cutEq t = o := ⟨_, rfl⟩
      have HC := Stow.mk ho
      have HCL := Stow.mk (fun m h => Ts.cutEq_len (l := t) (m := m) h)
      clear ho
      go_wp2_with fail
      refine (tsCut_lib t _ htl2 (HM1.out.keep HBR2.out)).mono ?_
      rw [HC.out]
      rintro e w3 ⟨rfl, hb3⟩
      have HB3 := Stow.mk hb3
      have HO3 := Stow.mk (HO2.out.kept hb3)
      have HBR3 : Stow (Below w1.heap.size w1 w3) := ⟨HBR2.out.trans (hb3.mono HBR2.out.size)⟩
      clear hb3
      cases o with
      | none =>
        have HN := Stow.mk (RF.out HT0.out (by rw [HTR.out]; exact HC.out))
        simp only [Option.getD_none, Option.isSome_none]
        go_wp2_with fail
        go_ret2
        rw [← HJ.out, HN.out]
        exact ⟨_, rfl, MRow.nil _ _, HB1.out.trans (HBR3.out.mono hsz1)⟩
      | some m =>
        have hml := HCL.out m HC.out
        have RB2 := Stow.mk (RB.out m HT0.out (by rw [HTR.out]; exact HC.out))
        have RM2 := Stow.mk (RM.out m HT0.out (by rw [HTR.out]; exact HC.out))
        obtain ⟨k, v⟩ := m
        simp only at hml
        simp only [Option.getD_some, Option.isSome_some]
        obtain ⟨r, hr⟩ : ∃ r, Ts.next acc (k, v) = r := ⟨_, rfl⟩
        have HR := Stow.mk hr
        clear hr
        have hk9 : k.length ≤ 9223372036854775807 := by omega
        have hv9 : v.length ≤ 9223372036854775807 := by omega
        have HMS : Stow (SlR (w3.alloc (.cells #[.string (bs k), .string (bs v)] 121)) 2 (.slice A acc.length cp) (acc.map Hd.cells)) := ⟨(HO3.out.kept (Below.alloc' (Below.self _) _)).slr⟩
        go_wp2_with fail
        refine (tsNext_any k v A _ cp acc rfl _ HMS.out hk9 hv9).mono ?_
        rw [HR.out]
        rintro e w4 ⟨rfl, hb4⟩
        have hH := (Held.made w3 [.string (bs k), .string (bs v)] 121).kept hb4
        have c0 := hH.cell (i := 0) rfl
        have c1 := hH.cell (i := 1) rfl
        have HB4 : Stow (Below w3.heap.size w3 w4) := ⟨Below.call (Below.alloc' (Below.self _) _) hb4⟩
        have HBR4 : Stow (Below w1.heap.size w1 w4) := ⟨HBR3.out.trans (HB4.out.mono HBR3.out.size)⟩
        have HO4 := Stow.mk (HO3.out.kept HB4.out)
        clear hb4 hH
        by_cases hr0 : r = 0
        · subst hr0
          have HN := Stow.mk (RM2.out HR.out)
          have K2 : Stow ((acc.length + 1) * 32 ≤ 140737488355328) := ⟨by omega⟩
          have K3 : Stow (acc.length + 1 ≤ maxLen) := ⟨by unfold maxLen; omega⟩
          have K4 := Stow.mk HBR4.out.size
          go_wp2_with (at_builtin; refine wpList_append_elem_form _ _ _ rfl (.tmp 40) (.tmp 42) 70 rfl w1.heap.size 121 _ 2 32 Tryz.underlying70 info_member _ _ _ HO4.out rfl _ rfl rfl rfl (by decide) rfl (by intro u hu; simp at hu; rcases hu with rfl | rfl <;> rfl) K2.out K3.out K4.out ?_; intro A5 cap5 w5 hown5 hg5 hb5 hs5)
          exact ⟨⟨j + 1, cap5, A5, acc ++ [(k, v)], by simp, rfl, by omega, by simp; omega, by simpa [MRow, Hd.cells] using hown5, ⟨by rw [← HN.out]; exact HJ.out⟩, HBR4.out.trans hb5⟩, by simp [intOf]; omega⟩
        · have HN := Stow.mk (RB2.out (by rw [HR.out]; exact hr0))
          have hrn : ((r : Int) != 0) = true := by simp; omega
          go_wp2_with fail
          go_ret2
          rw [← HJ.out, HN.out, HR.out]
          exact ⟨_, rfl, MRow.nil _ _, HB1.out.trans (HBR4.out.mono hsz1)⟩
    · obtain rfl : j = P.length := by omega
      have HO := Stow.mk hown
      have HN : Stow (Ts.read l = (acc, 0)) := ⟨by rw [← HJ.out]; simp [Ts.readFrom]⟩
      go_wp2_with fail
      go_ret2
      rw [HN.out]
      exact ⟨_, rfl, HO.out.base hsz1, HB1.out.trans (hbr.mono hsz1)⟩

theorem Ts.cutEq_at {t : List UInt8} {n : Nat} (h : n < t.length) (ha : ∀ i (hi : i < n), (t[i]'(by omega)) ≠ 61) (he : t[n] = 61) : Ts.cutEq t = some (t.take n, t.drop (n + 1)) := by
  have hs : t = t.take n ++ 61 :: t.drop (n + 1) := by
    conv => lhs; rw [← List.take_append_drop n t, List.drop_eq_getElem_cons h, he]
  have hp : ∀ b ∈ t.take n, (b != 61) = true := by
    intro b hb
    obtain ⟨i, hi, rfl⟩ := List.mem_take_iff_getElem.1 hb
    simpa using ha i (by omega)
  unfold Ts.cutEq
  rw [if_pos (by rw [hs]; simp)]
  generalize t.take n = a at *
  generalize t.drop (n + 1) = b at *
  subst hs
  rw [List.takeWhile_append_of_pos hp, List.dropWhile_append_of_pos hp]
  simp
theorem Ts.cutEq_no {t : List UInt8} (ha : ∀ i (hi : i < t.length), t[i] ≠ 61) : Ts.cutEq t = none := by
  unfold Ts.cutEq
  rw [if_neg]
  intro h
  obtain ⟨i, hi, he⟩ := List.getElem_of_mem h
  exact ha i hi he

theorem Ts.pieces_step {c : UInt8} {l : List UInt8} {f i : Nat} (hf : f ≤ i) (hi : i < l.length) (hn : ∀ k (hk : k < i), f ≤ k → (l[k]'(by omega)) ≠ c) (he : l[i] = c) : Ts.pieces c (l.drop f) = (l.drop f).take (i - f) :: Ts.pieces c (l.drop (i + 1)) := by
  have hs : l.drop f = (l.drop f).take (i - f) ++ c :: l.drop (i + 1) := by
    conv => lhs; rw [← List.take_append_drop (i - f) (l.drop f)]
    rw [List.drop_drop, show f + (i - f) = i by omega, List.drop_eq_getElem_cons hi, he]
  have hp : c ∉ (l.drop f).take (i - f) := by
    intro h
    obtain ⟨k, hk, e⟩ := List.mem_take_iff_getElem.1 h
    rw [List.getElem_drop] at e
    exact hn (f + k) (by omega) (by omega) e
  rw [hs, Ts.pieces_app hp]
  simp only [← hs]
theorem Ts.pieces_last {c : UInt8} {l : List UInt8} {f : Nat} (hn : ∀ k (hk : k < l.length), f ≤ k → l[k] ≠ c) : Ts.pieces c (l.drop f) = [l.drop f] := by
  refine Ts.pieces_no ?_
  intro h
  obtain ⟨k, hk, e⟩ := List.getElem_of_mem h
  rw [List.getElem_drop] at e
  exact hn (f + k) (by simp at hk; omega) (by omega) e

theorem TRow.form {w : World} {B : Nat} {v : Value} {L : List (List UInt8)} (h : TRow w B v L) : ∃ A cap, v = .slice A L.length cap := own_form h

set_option maxHeartbeats 1000000 in
set_option maxRecDepth 100000 in
theorem tsRefSplit_any (l : List UInt8) (w : World) (hl : l.length ≤ 2147483647) :
    Calls Tryz.prog 81 #[.string (bs l), .int .u8 44] w fun e w' => ∃ v, e = .returned v ∧ TRow w' w.heap.size v (Ts.pieces 44 l) ∧ Below w.heap.size w w' := by
  have HD : Stow (Ts.pieces 44 (l.drop 0) = Ts.pieces 44 l) := ⟨rfl⟩
  go_enter Tryz.func81, Tryz.ntmps81
  go_wp2_with fail
  go_loopw [5, 6, 7] (fun o f c wr => ∃ i fr cp A acc, o = .slice A (List.length acc) cp ∧ f = .int .i64 (fr : Nat) ∧ c = .int .i64 (i : Nat) ∧ i ≤ l.length ∧ fr ≤ i ∧ List.length acc ≤ i ∧ TRow wr w.heap.size o acc ∧ Stow (acc ++ Ts.pieces 44 (l.drop fr) = Ts.pieces 44 l) ∧ Stow (∀ k (hk : k < l.length), fr ≤ k → k < i → l[k] ≠ 44) ∧ Below w.heap.size w wr) (fun _ _ v _ => l.length - (intOf v).toNat)
  case atStart => exact ⟨0, 0, 0, none, [], rfl, rfl, rfl, by omega, by omega, by simp, World.ownsRow_nil _ _ _ _, ⟨HD.out⟩, ⟨fun k _ _ h => by omega⟩, Below.self _⟩
  case round =>
    obtain ⟨i, fr, cp, A, acc, rfl, rfl, rfl, hi, hfi, hai, hown, HJ, HQ, hbr⟩ := hrel
    have HO := Stow.mk hown
    have HBR := Stow.mk hbr
    clear hown hbr
    have K2 : Stow ((acc.length + 1) * 16 ≤ 140737488355328) := ⟨by omega⟩
    have K3 : Stow (acc.length + 1 ≤ maxLen) := ⟨by unfold maxLen; omega⟩
    have K4 := Stow.mk HBR.out.size
    by_cases hlt : i < l.length
    · have hlb : i < (bs l).size := hlt
      obtain ⟨u, hu⟩ : ∃ u, (l[i]'hlb).toNat = u := ⟨_, rfl⟩
      have HU : Stow ((l[i]'hlt).toNat = u) := ⟨hu⟩
      by_cases hu44 : u = 44
      · have HE : Stow (l[i]'hlt = 44) := ⟨UInt8.toNat_inj.1 (by rw [HU.out, hu44]; rfl)⟩
        have HP := Stow.mk (Ts.pieces_step (c := 44) hfi hlt (fun k hk h => HQ.out k (by omega) h hk) HE.out)
        have hul : (u : Int) = 44 := by omega
        go_wp2_with (at_builtin; refine wpList_append_elem_form _ _ _ rfl (.tmp 19) (.tmp 24) 38 rfl w.heap.size 9 _ 1 16 Tryz.underlying38 info_string _ _ _ HO.out rfl _ rfl rfl rfl (by decide) rfl (by intro u hu; simp at hu; subst hu; rfl) K2.out K3.out K4.out ?_; intro A5 cap5 w5 hown5 hg5 hb5 hs5)
        refine ⟨⟨i + 1, i + 1, cap5, A5, acc ++ [(l.drop fr).take (i - fr)], by simp, rfl, rfl, by omega, by omega, by simp; omega, ?_, ⟨?_⟩, ⟨fun k _ _ h => by omega⟩, HBR.out.trans hb5⟩, by simp [intOf]; omega⟩
        · simpa [TRow] using hown5
        · rw [List.append_assoc, ← HJ.out, HP.out]; rfl
      · have hul : ((u : Int) == 44) = false := by simp; omega
        have HE : Stow (l[i]'hlt ≠ 44) := ⟨fun e => hu44 (by rw [← HU.out, e]; rfl)⟩
        go_wp2_with fail
        refine ⟨⟨i + 1, fr, cp, A, acc, rfl, rfl, rfl, by omega, by omega, by omega, HO.out, HJ, ⟨fun k hk h1 h2 => ?_⟩, HBR.out⟩, by simp [intOf]; omega⟩
        rcases Nat.lt_or_ge k i with h | h
        · exact HQ.out k hk h1 h
        · obtain rfl : k = i := by omega
          exact HE.out
    · obtain rfl : i = l.length := by omega
      have HP := Stow.mk (Ts.pieces_last (c := 44) (f := fr) (fun k hk h => HQ.out k hk h hk))
      go_wp2_with (at_builtin; refine wpList_append_elem_form _ _ _ rfl (.tmp 28) (.tmp 32) 38 rfl w.heap.size 9 _ 1 16 Tryz.underlying38 info_string _ _ _ HO.out rfl _ rfl rfl rfl (by decide) rfl (by intro u hu; simp at hu; subst hu; rfl) K2.out K3.out K4.out ?_; intro A5 cap5 w5 hown5 hg5 hb5 hs5)
      go_ret
      refine ⟨_, rfl, ?_, HBR.out.trans hb5⟩
      rw [← HJ.out, HP.out]
      simpa [TRow] using hown5
end Go.Proofs.YtfbhdkkmcfnghaaGreatDoor
