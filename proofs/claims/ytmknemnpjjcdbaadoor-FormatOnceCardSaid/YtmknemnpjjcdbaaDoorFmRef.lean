/- Walks of the reference's words, part, and parts with a text more. Conditions: texts as an int can say; the row is the call's own. -/
import Derived.Test.YtmknemnpjjcdbaaDoorFmRefSpec
namespace Go.Proofs.YtmknemnpjjcdbaaDoor
open Go.RowKit
set_option linter.unusedVariables false

set_option maxHeartbeats 1000000 in
set_option maxRecDepth 100000 in
theorem fmRefWords_any (w : World) : Calls Tryd.prog 27 #[] w fun e w' => ∃ g, e = .returned (.slice (some ⟨g, 0, none⟩) 9 9) ∧ g < w'.heap.size ∧ w.heap.size ≤ g ∧ (∀ m : Nat, m < 9 → w'.cell? ⟨g, m, none⟩ = some (.string (bs (Fm.word m)))) ∧ Below w.heap.size w w' := by
  have HC : Stow (∀ m : Nat, m < 9 → (w.alloc (.cells Fm.vals.toArray 9)).cell? ⟨w.heap.size, m, none⟩ = some (.string (bs (Fm.word m)))) := ⟨by
    intro m hm
    have h := Held.made w Fm.vals 9
    have hc : m = 0 ∨ m = 1 ∨ m = 2 ∨ m = 3 ∨ m = 4 ∨ m = 5 ∨ m = 6 ∨ m = 7 ∨ m = 8 := by omega
    rcases hc with rfl | rfl | rfl | rfl | rfl | rfl | rfl | rfl | rfl <;> exact h.cell rfl⟩
  go_enter Tryd.func27, Tryd.ntmps27
  go_wp2_with fail
  go_ret
  exact ⟨_, rfl, by simp, Nat.le_refl _, HC.out, Below.alloc' (Below.self _) _⟩

theorem refpart_results (W : World) (g : Nat) (a b : Value) (c : Bool) (tmps : Array Value) (hH : Held W g [a, b]) (h2 : tmps[2]?.getD undef = .pointer (some ⟨g, 0, none⟩)) (h3 : tmps[3]?.getD undef = .bool c) :
    (results Tryd.f17 tmps).run Tryd.prog W = .ok (.tuple #[.agg #[a, b], .bool c]) W := by
  have c0 := hH.cell (i := 0) rfl
  have c1 := hH.cell (i := 1) rfl
  simp [results, Tryd.results17, go_sem, h2, h3, c0, c1]

set_option maxHeartbeats 2000000 in
set_option maxRecDepth 100000 in
theorem fmRefPart_any (s : List UInt8) (w : World) (hl : s.length ≤ 140737488355328) :
    Calls Tryd.prog 17 #[.string (bs s)] w fun e w' => e = .returned (.tuple #[.agg #[.int .i64 (((Fm.part s).getD (0, [])).1 : Nat), .string (bs ((Fm.part s).getD (0, [])).2)], .bool (Fm.part s).isSome]) ∧ Below w.heap.size w w' := by
  have hM := Held.made w [.int .i64 0, .string ⟨#[]⟩] 35
  have HM : Stow (∀ W, Below (w.alloc (.cells #[.int .i64 0, .string ⟨#[]⟩] 35)).heap.size (w.alloc (.cells #[.int .i64 0, .string ⟨#[]⟩] 35)) W → Held W w.heap.size [.int .i64 0, .string ⟨#[]⟩] ∧ Below w.heap.size w W) := ⟨fun W hb => ⟨hM.kept hb, Below.call (Below.alloc' (Below.self _) _) hb⟩⟩
  clear hM
  obtain ⟨px, hpx⟩ : ∃ px, Fm.part s = px := ⟨_, rfl⟩
  have HPX := Stow.mk hpx
  rw [hpx]
  clear hpx
  go_enter Tryd.func17, Tryd.ntmps17
  go_wp2_with fail
  refine (fmRefWords_any _).mono ?_
  rintro e w1 ⟨g, rfl, hg, hgw, hcw, hb1⟩
  obtain ⟨hH, hB⟩ := HM.out w1 hb1
  have HCW := Stow.mk hcw
  have HH1 := Stow.mk hH
  have HB1 := Stow.mk hB
  clear hb1 hH hB hcw hgw
  have r0 := HH1.out.cell (i := 0) rfl
  have r1 := HH1.out.cell (i := 1) rfl
  have f0 := HH1.out.free 0
  have f1 := HH1.out.free 1
  have hlt := HH1.out.lt
  go_wp2_with fail
  go_loop [5] (fun v => ∃ j : Nat, v = .int .i64 j ∧ 1 ≤ j ∧ j ≤ 9 ∧ Stow (∀ i, 1 ≤ i → i < j → Fm.word i ≠ s)) (fun v => 9 - (intOf v).toNat)
  case atStart => exact ⟨1, rfl, by omega, by omega, ⟨fun i h1 h2 => by omega⟩⟩
  case round =>
    obtain ⟨j, rfl, hj1, hj, HJ⟩ := hrel
    by_cases h9 : j < 9
    · have hcj := HCW.out j h9
      obtain ⟨W, hW⟩ : ∃ W, Fm.word j = W := ⟨_, rfl⟩
      rw [hW] at hcj
      have HW := Stow.mk hW
      have hji : (j : Int) < 9 := by omega
      clear hW
      by_cases hs : W = s
      · have hss : (W == s) = true := by simp [hs]
        have hk := Fm.kind_at hj1 h9 HJ.out (HW.out.trans hs)
        have HP : Stow (px = some (j, [])) := ⟨by rw [← HPX.out]; exact Fm.part_kind hk⟩
        clear hk hs
        go_wp2_with fail
        refine bodyPost_ret (refpart_results _ w.heap.size (.int .i64 j) (.string ⟨#[]⟩) true _ ((HH1.out.set 0 _).set 1 _) rfl rfl) rfl ?_
        exact ⟨by rw [HP.out]; rfl, (HB1.out.setCell (p := ⟨w.heap.size, 0, none⟩) (Nat.le_refl _) _).setCell (p := ⟨w.heap.size, 1, none⟩) (Nat.le_refl _) _⟩
      · have hss : (W == s) = false := by rw [beq_eq_false_iff_ne]; exact hs
        have HN : Stow (∀ i, 1 ≤ i → i < j + 1 → Fm.word i ≠ s) := ⟨fun i h1 h2 => by
          by_cases e : i = j
          · subst e; rw [HW.out]; exact hs
          · exact HJ.out i h1 (by omega)⟩
        clear hs
        go_wp2_with fail
        exact ⟨⟨j + 1, rfl, by omega, by omega, HN⟩, by simp [intOf]; omega⟩
    · obtain rfl : j = 9 := by omega
      have hk := Fm.kind_no HJ.out
      have hp := Fm.part_req hk
      rw [HPX.out] at hp
      by_cases h5 : 5 < s.length
      rotate_left
      · have HP : Stow (px = none) := ⟨by rw [hp, Fm.isReq_short h5]; rfl⟩
        have h5i : ¬ (5 : Int) < s.length := by omega
        clear hk hp
        go_wp2_with fail
        refine bodyPost_ret (refpart_results _ w.heap.size (.int .i64 0) (.string ⟨#[]⟩) false _ ((HH1.out.set 0 _).set 1 _) rfl rfl) rfl ?_
        exact ⟨by rw [HP.out]; rfl, (HB1.out.setCell (p := ⟨w.heap.size, 0, none⟩) (Nat.le_refl _) _).setCell (p := ⟨w.heap.size, 1, none⟩) (Nat.le_refl _) _⟩
      rw [Fm.isReq_ref h5, Fm.inner_ref] at hp
      have h5i : (5 : Int) < s.length := by omega
      have hls : s.length - 1 < (bs s).size := by simp; omega
      have hix : (s.length : Int) - 1 = ((s.length - 1 : Nat) : Int) := by omega
      have h04 : (4 : Int) ≤ s.length := by omega
      have h41 : (4 : Int) ≤ ((s.length - 1 : Nat) : Int) := by omega
      obtain ⟨d, hd⟩ : ∃ d, (s.drop 4).take (s.length - 1 - 4) = d := ⟨_, rfl⟩
      have hdl : d.length ≤ 140737488355328 := by rw [← hd]; simp; omega
      rw [hd] at hp
      obtain ⟨u, hu⟩ : ∃ u, (s[s.length - 1]'hls) = u := ⟨_, rfl⟩
      have hu' : s[s.length - 1]'(by omega) = u := hu
      rw [hu'] at hp
      clear hk hu'
      by_cases hq : s.take 4 = Fm.req
      rotate_left
      · have hqb : (s.take 4 == [82, 69, 81, 40]) = false := by rw [beq_eq_false_iff_ne]; exact hq
        have HP : Stow (px = none) := ⟨by rw [hp, show (s.take 4 == Fm.req) = false from hqb]; rfl⟩
        clear hp hq hd hu
        go_wp2_with fail
        refine bodyPost_ret (refpart_results _ w.heap.size (.int .i64 0) (.string ⟨#[]⟩) false _ ((HH1.out.set 0 _).set 1 _) rfl rfl) rfl ?_
        exact ⟨by rw [HP.out]; rfl, (HB1.out.setCell (p := ⟨w.heap.size, 0, none⟩) (Nat.le_refl _) _).setCell (p := ⟨w.heap.size, 1, none⟩) (Nat.le_refl _) _⟩
      have hqb : (s.take 4 == [82, 69, 81, 40]) = true := by rw [beq_iff_eq]; exact hq
      have hqr : (s.take 4 == Fm.req) = true := hqb
      rw [hqr, Bool.true_and] at hp
      by_cases h41u : u = 41
      rotate_left
      · have hub : ((u.toNat : Int) == 41) = false := by
          rw [beq_eq_false_iff_ne]
          intro h
          apply h41u
          apply UInt8.toNat_inj.1
          show u.toNat = 41
          omega
        have HP : Stow (px = none) := ⟨by rw [hp, show (u == 41) = false by rw [beq_eq_false_iff_ne]; exact h41u]; rfl⟩
        have HU : (s[s.length - 1]'hls).toNat = u.toNat := by rw [hu]
        clear hp hq hd hu hqr h41u
        generalize u.toNat = m at *
        go_wp2_with fail
        refine bodyPost_ret (refpart_results _ w.heap.size (.int .i64 0) (.string ⟨#[]⟩) false _ ((HH1.out.set 0 _).set 1 _) rfl rfl) rfl ?_
        exact ⟨by rw [HP.out]; rfl, (HB1.out.setCell (p := ⟨w.heap.size, 0, none⟩) (Nat.le_refl _) _).setCell (p := ⟨w.heap.size, 1, none⟩) (Nat.le_refl _) _⟩
      subst h41u
      rw [show ((41 : UInt8) == 41) = true from rfl, Bool.true_and] at hp
      have HU : (s[s.length - 1]'hls).toNat = 41 := by rw [hu]; rfl
      have K3 := fun W => refName_any d W (by omega)
      obtain ⟨c, hc⟩ : ∃ c, nameOk d = c := ⟨_, rfl⟩
      rw [hc] at hp K3
      have HK3 := Stow.mk K3
      clear K3 hc hq hu hqr
      cases c
      · have HP : Stow (px = none) := ⟨by rw [hp]; rfl⟩
        clear hp
        go_wp2_with (go_at_call 28; refine (HK3.out _).mono ?_; rintro e w2 ⟨rfl, rfl⟩)
        refine bodyPost_ret (refpart_results _ w.heap.size (.int .i64 0) (.string ⟨#[]⟩) false _ ((HH1.out.set 0 _).set 1 _) rfl rfl) rfl ?_
        exact ⟨by rw [HP.out]; rfl, (HB1.out.setCell (p := ⟨w.heap.size, 0, none⟩) (Nat.le_refl _) _).setCell (p := ⟨w.heap.size, 1, none⟩) (Nat.le_refl _) _⟩
      · have HP : Stow (px = some (9, d)) := ⟨by rw [hp]; rfl⟩
        clear hp
        go_wp2_with (go_at_call 28; refine (HK3.out _).mono ?_; rintro e w2 ⟨rfl, rfl⟩)
        refine bodyPost_ret (refpart_results _ w.heap.size (.int .i64 9) (.string (bs d)) true _ ((HH1.out.set 0 _).set 1 _) rfl rfl) rfl ?_
        exact ⟨by rw [HP.out]; rfl, (HB1.out.setCell (p := ⟨w.heap.size, 0, none⟩) (Nat.le_refl _) _).setCell (p := ⟨w.heap.size, 1, none⟩) (Nat.le_refl _) _⟩

theorem SlR.cap_le {w : World} {c : Nat} {A : Option Addr} {n cap : Nat} {α : Type} {f : α → List Value} {L : List α} (h : SlR w c (.slice A n cap) (L.map f)) (hl : L.length = n) : n ≤ cap := by
  obtain ⟨A', cap', hv, h1, _⟩ := h
  simp only [Value.slice.injEq] at hv
  obtain ⟨_, _, rfl⟩ := hv
  rw [List.length_map, hl] at h1
  exact h1
theorem fm_grown_none {w w' : World} {row : Option Nat} (h : w.grownBy w' row) (hr : row = none) : Below w.heap.size w w' := by
  subst hr
  exact (Below.self w).grown h (Nat.le_refl _) (by intro k hk; cases hk)

set_option maxHeartbeats 2000000 in
set_option maxRecDepth 100000 in
theorem fmRefWith_any (L : List Pt) (t : List UInt8) (v : Value) (B : Nat) (w : World) (h : PRow w B v L) (hn : L.length ≤ 100000) (hB : B ≤ w.heap.size) (htl : t.length ≤ 100000) (hxl : ∀ p ∈ L, p.2.length ≤ 100000) :
    Calls Tryd.prog 16 #[v, .string (bs t)] w fun e w' => ∃ v', e = .returned v' ∧ PRow w' B v' (Fm.more L t) ∧ Below B w w' := by
  obtain ⟨A, cap, rfl⟩ := h.form
  have HP := Stow.mk h
  have HOE := Stow.mk (World.ownsRow.alloc h (.cells #[.int .i64 0, .string (bs t)] 35))
  have K2 : Stow ((L.length + 1) * 24 ≤ 140737488355328) := ⟨by omega⟩
  have K3 : Stow (L.length + 1 ≤ maxLen) := ⟨by unfold maxLen; omega⟩
  by_cases h0 : L.length = 0
  · obtain rfl := List.eq_nil_of_length_eq_zero h0
    have HMO : Stow (Fm.more [] t = [(0, t)]) := ⟨rfl⟩
    clear h
    go_enter Tryd.func16, Tryd.ntmps16
    go_wp2_with (at_builtin; refine wpList_append_elem_form _ [.int .i64 0, .string (bs t)] _ rfl _ _ 23 rfl B 35 _ 2 24 Tryd.underlying23 info_part _ _ _ HP.out rfl _ rfl (by simp) rfl (by decide) rfl (by intro u hu; simp at hu; rcases hu with rfl | rfl <;> rfl) K2.out K3.out hB ?_; intro A4 cap4 w4 hown4 hg4 hb4 hs4)
    go_ret
    exact ⟨_, rfl, by rw [HMO.out]; exact hown4, hb4⟩
  obtain ⟨n, hn1⟩ : ∃ n, L.length = n + 1 := ⟨L.length - 1, by omega⟩
  have hlt : n < L.length := by omega
  have hS := h.slr
  obtain ⟨b, off, rfl, hblt, _⟩ := hS.open (by simp; omega)
  obtain ⟨hb, q0, q1⟩ := part_at hS hlt
  have hp : L[n]? = some L[n] := List.getElem?_eq_getElem hlt
  obtain ⟨p, hpe⟩ : ∃ p, L[n] = p := ⟨_, rfl⟩
  have hpx := hxl p (hpe ▸ List.getElem_mem hlt)
  rw [hpe] at hp q0 q1
  have hi0 : (0 : Int) < (n : Int) + 1 := by omega
  have HMT := Stow.mk (fun h => Fm.more_text hn1 hp h t)
  have HML := Stow.mk (fun h => Fm.more_last hn1 hp h t)
  have HTK : Stow (SlR w 2 (.slice (some ⟨b, off, none⟩) (L.take n).length cap) ((L.take n).map Pt.cells)) := ⟨by
    have := hS.take n (by simp; omega)
    rw [List.map_take]
    rwa [List.length_take, Nat.min_eq_left (by omega)]⟩
  have HTL : Stow ((L.take n).length = n) := ⟨by rw [List.length_take]; omega⟩
  rw [hn1]
  rw [hn1] at HP HOE K2 K3
  clear h hS hp
  obtain ⟨k, x⟩ := p
  simp only at q0 q1 HMT HML hpx
  have hxt : x.length + t.length ≤ 9223372036854775807 := by omega
  clear hxl
  by_cases hk : k = 0
  · subst hk
    obtain ⟨Q, hQ⟩ : ∃ Q, L.take n = Q := ⟨_, rfl⟩
    have HMT2 : Stow (Fm.more L t = Q ++ [(0, x ++ t)]) := ⟨by rw [HMT.out rfl, hQ]⟩
    rw [hQ] at HTK HTL
    rw [HTL.out] at HTK
    have HAT : Stow (∀ j u, (Q.flatMap Pt.cells)[j]? = some u → w.cell? ((⟨b, off, none⟩ : Addr).add j) = some u) := ⟨pt_flat_at (by rw [HTL.out]; exact HTK.out)⟩
    have HFL : Stow ((Q.flatMap Pt.cells).length = n * 2) := ⟨by rw [pt_flat_len, HTL.out]⟩
    obtain ⟨i0, hi, hz, hsz, hby⟩ := info_parts info_part
    have HII := Stow.mk (And.intro hi (And.intro hz (And.intro hsz hby)))
    have hcap : n ≤ cap := HTK.out.cap_le HTL.out
    have K4 : Stow (n ≤ maxLen ∧ n * 24 ≤ 140737488355328) := ⟨by have := K3.out; omega, by have := K2.out; omega⟩
    have K5 : Stow ((n + 1) * 24 ≤ 140737488355328 ∧ n + 1 ≤ maxLen) := ⟨by omega, by unfold maxLen; omega⟩
    clear hi hz hsz hby hQ hpe
    go_enter Tryd.func16, Tryd.ntmps16
    go_wp2_with (first
      | (at_builtin; refine wpList_append_own _ rfl (.tmp 19) (.tmp 24) 23 rfl B 35 i0 _ 2 24 Tryd.underlying23 HII.out.1 HII.out.2.1 HII.out.2.2.1 HII.out.2.2.2 rfl (by decide) _ 0 [] rfl (World.ownsRow_nil w B 35 2) ⟨b, off, none⟩ n cap (Q.flatMap Pt.cells) rfl HFL.out HAT.out pt_flat_one (by rw [Nat.zero_add]; exact K4.out.1) (by rw [Nat.zero_add]; exact K4.out.2) hB ?_; intro v2 w2 hown2 hgrow2 hnil2; rw [Nat.zero_add, List.nil_append] at hown2; obtain ⟨A2, c2, rfl⟩ := own_form hown2; have HB2 := Stow.mk (fm_grown_none hgrow2 rfl); have hl := (HB2.out.cell (p := ⟨b, off + n * 2 + 1, none⟩) hb).trans q1; have HO2 := Stow.mk hown2; clear hgrow2 hown2 hnil2)
      | (at_builtin; refine wpList_append_elem_form _ [.int .i64 0, .string (bs (x ++ t))] _ rfl (.tmp 26) (.tmp 37) 23 rfl B 35 _ 2 24 Tryd.underlying23 info_part _ _ _ HO2.out rfl _ rfl (by simp) rfl (by decide) rfl (by intro u hu; simp at hu; rcases hu with rfl | rfl <;> rfl) K5.out.1 K5.out.2 (Nat.le_trans hB HB2.out.size) ?_; intro A4 cap4 w4 hown4 hg4 hb4 hs4))
    go_ret
    refine ⟨_, rfl, ?_, (HB2.out.mono hB).trans hb4⟩
    rw [HMT2.out]
    unfold PRow
    rw [List.length_append, HTL.out, List.flatMap_append]
    exact hown4
  · have hki : ((k : Int) == 0) = false := by rw [beq_eq_false_iff_ne]; omega
    have HML2 := Stow.mk (HML.out hk)
    have HO : Stow (w.ownsRow B 35 2 (.slice (some ⟨b, off, none⟩) (n + 1) cap) (n + 1) (L.flatMap Pt.cells)) := ⟨by have := HP.out; unfold PRow at this; rwa [hn1] at this⟩
    have HN1 := Stow.mk hn1
    clear HML HMT HTK HTL HP HOE hpe hn1 h0
    go_enter Tryd.func16, Tryd.ntmps16
    go_wp2_with (at_builtin; refine wpList_append_elem_form _ [.int .i64 0, .string (bs t)] _ rfl (.tmp 40) (.tmp 43) 23 rfl B 35 _ 2 24 Tryd.underlying23 info_part _ _ _ HO.out rfl _ rfl (by simp) rfl (by decide) rfl (by intro u hu; simp at hu; rcases hu with rfl | rfl <;> rfl) K2.out K3.out hB ?_; intro A4 cap4 w4 hown4 hg4 hb4 hs4)
    go_ret
    refine ⟨_, rfl, ?_, hb4⟩
    rw [HML2.out]
    unfold PRow
    rw [List.length_append, List.flatMap_append, HN1.out]
    exact hown4
end Go.Proofs.YtmknemnpjjcdbaaDoor
