/- Walk of DedupOnce. Condition: a slice of pairs. -/
import Derived.Test.YtbcokngjcgldpaaDdOnceLaw
namespace Go.Proofs.Ytbcokngjcgldpaa
open Go.RowKit Go.Lib
set_option linter.unusedVariables false

def CRow (w : World) (B : Nat) (v : Value) (C : List Mv) : Prop := w.ownsRow B 46 2 v C.length (C.flatMap Mv.cells)
theorem info_pair : (Try.prog.info? 46).map (fun i => (i.zero, i.size, i.bytes)) = some (some (.agg #[.int .i64 0, .int .i64 0]), 2, 16) := by kernel_rfl
theorem CRow.slr {w : World} {B : Nat} {v : Value} {C : List Mv} (h : CRow w B v C) : SlR w 2 v (C.map Mv.cells) := by
  refine SlR.of_own h (by simp) fun i x hi j u hu => ?_
  have e : C.flatMap Mv.cells = (C.map Mv.cells).flatten := by rw [List.flatMap_def]
  rw [e]
  exact flat_at (c := 2) (fun x hx => by obtain ⟨m, _, rfl⟩ := List.mem_map.1 hx; rfl) i x hi j u hu
theorem SlR.only' {w w' : World} {g c : Nat} {v : Value} {L : List (List Value)} (h : SlR w c v L) (ho : Only g w w') (hne : ∀ a n cap, v = .slice (some a) n cap → a.block ≠ g) : SlR w' c v L := by
  obtain ⟨A, cap', hv, h1, h2, h3⟩ := h
  refine ⟨A, cap', hv, h1, h2, fun hL => ?_⟩
  obtain ⟨b', off', hA, hlt, hc⟩ := h3 hL
  have hb := hne ⟨b', off', none⟩ _ _ (by rw [hv, hA])
  refine ⟨b', off', hA, Nat.lt_of_lt_of_le hlt ho.size, fun i x hx j u hu => ?_⟩
  exact (World.cell?_of_block (a := ⟨b', off' + i * c + j, none⟩) (ho.block b' hlt (by simpa using hb))).trans (hc i x hx j u hu)
theorem WinR.grown {w w' : World} {B : Nat} {k : Option Nat} {v : Value} {R : List Wm} (h : WinR w v R) (hn : NewW B v R) (ho : w.grownBy w' k) (hk : ∀ g, k = some g → g < B) : WinR w' v R := by
  cases k with
  | none => exact h.keep ((Below.self w).grown ho (Nat.le_refl _) (fun k hk => by cases hk))
  | some g =>
    have hg := hk g rfl
    refine ⟨h.row.only' ho fun a n c e => ?_, fun p hp => (h.ints p hp).only' ho fun a n c e => ?_, h.nil⟩
    · have := hn.1 a n c e
      omega
    · unfold Wm.v at e
      simp only [Value.slice.injEq] at e
      have := hn.2 p hp a e.1
      omega
theorem CRow.keep {w w' : World} {B : Nat} {v : Value} {C : List Mv} (h : CRow w B v C) (hb : Below w.heap.size w w') : CRow w' B v C := own_kept h hb

theorem eq_pair (d : Nat) (a b c e : Int) (w : World) : (Op.equalIn (d + 2) 46 (.agg #[.int .i64 a, .int .i64 b]) (.agg #[.int .i64 c, .int .i64 e])).run Try.prog w = .ok (a == c && b == e) w := by
  have hu := Try.underlying46
  have hi := Try.underlying3
  have hs : (Try.prog.info? 3).map (·.size) = some 1 := by kernel_rfl
  have h0 : (Op.equalIn (d + 1) 3 (.int .i64 a) (.int .i64 c)).run Try.prog w = .ok (a == c) w := run_equalIn_int w d _ _ _ _ _ hi
  have h1 : (Op.equalIn (d + 1) 3 (.int .i64 b) (.int .i64 e)).run Try.prog w = .ok (b == e) w := run_equalIn_int w d _ _ _ _ _ hi
  rw [show d + 2 = (d + 1) + 1 from rfl, Op.equalIn]
  simp [go_sem, run_underlying hu, List.range', h1]
  by_cases e1 : a = c <;> by_cases e2 : b = e <;> simp [e1, e2]

set_option maxHeartbeats 2000000 in
set_option maxRecDepth 100000 in
theorem once29 (M : List Mv) (A : Option Addr) (cap : Nat) (w : World) (hS : SlR w 2 (.slice A M.length cap) (M.map Mv.cells)) :
    Calls Try.prog 5 #[.slice A M.length cap] w fun e w' => e = .returned (.bool true) ∧ Below w.heap.size w w' := by
  have HS := Stow.mk hS
  have hlen := hS.len
  simp only [List.length_map] at hlen
  clear hS
  have E1 : Stow (∀ m : Mv, ∀ u ∈ m.cells, u.oneCell' = true) := ⟨by intro m u hu; simp [Mv.cells] at hu; rcases hu with rfl | rfl <;> rfl⟩
  by_cases h3 : 300 < M.length
  · have h3' : (300 : Int) < M.length := by omega
    go_enter Try.func5, Try.ntmps5
    go_wp2_with fail
    refine (known29_any _).mono ?_
    rintro e wk ⟨rfl, hbk⟩
    go_wp2_with fail
    go_ret
    exact ⟨rfl, hbk⟩
  have h3' : (M.length : Int) ≤ 300 := by omega
  go_enter Try.func5, Try.ntmps5
  go_wp2_with fail
  go_loopw [3, 4, 5] (fun l c v wr => ∃ (j : Nat) (R : List Wm), v = .int .i64 (j : Int) ∧ j ≤ M.length ∧ WinR wr l R ∧ wis R = Dd.run (M.take j) ∧ CRow wr w.heap.size c (Dd.came (M.take j)) ∧ Below w.heap.size w wr) (fun _ _ v _ => M.length - (intOf v).toNat)
  case atStart => exact ⟨0, [], rfl, by omega, WinR.none _, rfl, World.ownsRow_nil _ _ _ _, Below.self _⟩
  case round =>
    obtain ⟨j, R, rfl, hj, hW, e, hown, hbr⟩ := hrel
    have HL := Stow.mk hW
    have HE := Stow.mk e
    have HBR := Stow.mk hbr
    have HCL := Stow.mk (Dd.came_len (M.take j))
    obtain ⟨CA, cc, rfl⟩ := own_form hown
    have HC := Stow.mk hown
    clear hW e hbr hown
    by_cases hlt : j < M.length
    · have HR := Stow.mk (Dd.run_succ hlt)
      have HOK := Stow.mk (Dd.run_ok (M.take j))
      have HCS := Stow.mk (Dd.came_snoc (M.take j) M[j])
      have HCA := Stow.mk (fun c => Dd.came_apart (M := M.take j) (m := M[j]) (c := c))
      rw [← List.take_succ_eq_append_getElem hlt] at HCS
      have hcl : (Dd.came (M.take j)).length ≤ 300 := Nat.le_trans HCL.out (by simp; omega)
      obtain ⟨b, off, rfl, hblt, _⟩ := HS.out.open (by simp; omega)
      have HP : Stow (∀ w', Below w.heap.size w w' → _) := ⟨fun w' hb => pair_at (HS.out.keep hb) hlt⟩
      obtain ⟨hb0, hc0, hc1⟩ := HP.out _ HBR.out
      obtain ⟨m, hm⟩ : ∃ m, M[j] = m := ⟨_, rfl⟩
      rw [hm] at HR hc0 hc1 HCS HCA
      simp only [hm] at HP
      clear hm
      obtain ⟨m1, m2⟩ := m
      simp only at HR hc0 hc1 HP HCS HCA
      generalize Dd.run (M.take j) = L at *
      obtain ⟨r, hr⟩ : ∃ r, Dd.fresh L m1 m2 = r := ⟨_, rfl⟩
      rw [hr] at HR HCS
      simp only [hr] at HCA
      obtain ⟨r1, r2⟩ := r
      simp only at HR HCS HCA
      have HFR := Stow.mk hr
      clear hr HCL
      have hji : (j : Int) < M.length := by omega
      go_wp2_with fail
      go_region_held3 (fun w' => w'.cell? ⟨b, off + j * 2, none⟩ = some (.int .i64 m1) ∧ w'.cell? ⟨b, off + j * 2 + 1, none⟩ = some (.int .i64 m2)) (first | go_keep | exact ⟨hk1, hk2⟩)
        (first | (go_at_call 22; refine (ddFresh_new HL.out.drew HE.out HOK.out HFR.out).mono ?_; rintro e w1 ⟨v1, R1, rfl, e1, hW1, ok1, hb1, hn1⟩; have hB1 : Below w.heap.size w w1 := HBR.out.trans ((Below.call (Below.drew (Below.self wr)) hb1).mono HBR.out.size); obtain ⟨_, hk1, hk2⟩ := HP.out _ hB1))
      have HN1 := Stow.mk hn1
      have HB1 := Stow.mk hB1
      have H1 := Stow.mk (And.intro e1 (And.intro hW1 ok1))
      have hbw1 := Below.call (Below.drew (Below.self wr)) hb1
      have HL1 := Stow.mk (HL.out.keep hbw1)
      have HC1 := Stow.mk (HC.out.keep hbw1)
      have hc0 := hk1
      have hc1 := hk2
      clear hk1 hk2 e1 hW1 ok1 hb1 hB1 hbw1 hn1
      cases r2
      · go_wp2_with fail
        refine (refSame_any v1 _ R1 R _ H1.out.2.1 HL1.out (by rw [H1.out.1, HE.out]; exact Dd.fresh_no HFR.out)).mono ?_
        rintro e w3 ⟨rfl, hb3⟩
        go_wp2_with fail
        exact ⟨⟨j + 1, R1, rfl, by omega, H1.out.2.1.keep hb3, by rw [HR.out]; exact H1.out.1, by rw [HCS.out]; exact HC1.out.keep hb3, HB1.out.trans (hb3.mono HB1.out.size)⟩, by simp [intOf]; omega⟩
      · generalize Dd.came (M.take j) = C at *
        go_wp2_with fail
        go_loopw [8] (fun v w' => ∃ k : Nat, v = .int .i64 (k : Int) ∧ k ≤ C.length ∧ Below w1.heap.size w1 w') (fun v _ => C.length - (intOf v).toNat)
        case atStart => exact ⟨0, rfl, by omega, Below.self _⟩
        case round =>
          obtain ⟨k, rfl, hk, hbk⟩ := hrel
          have HBK := Stow.mk hbk
          have HB2 := Stow.mk (HB1.out.trans (hbk.mono HB1.out.size))
          obtain ⟨_, hk1, hk2⟩ := HP.out _ HB2.out
          by_cases hkl : k < C.length
          · obtain ⟨cb, co, rfl, hcb, _⟩ := HC1.out.slr.open (by simp; omega)
            obtain ⟨hd0, hd1, hd2⟩ := pair_at (HC1.out.keep hbk).slr hkl
            have hne := HCA.out C[k] trivial (List.getElem_mem hkl)
            generalize C[k] = c at *
            obtain ⟨c1, c2⟩ := c
            simp only at hd1 hd2 hne
            have hki : (k : Int) < C.length := by omega
            have heq : ∀ w', (Op.equalIn 10000 46 (.agg #[.int .i64 c1, .int .i64 c2]) (.agg #[.int .i64 m1, .int .i64 m2])).run Try.prog w' = .ok false w' := fun w' => by
              rw [eq_pair 9998]
              congr 1
              rw [Bool.eq_false_iff]
              intro h
              simp at h
              exact hne (by rw [h.1, h.2])
            go_wp2_with fail
            go_quiet (fail)
            go_wp2_with fail
            exact ⟨⟨k + 1, rfl, by omega, Below.drewN' HBK.out _⟩, by simp [intOf]; omega⟩
          · obtain rfl : k = C.length := by omega
            have K2 : Stow ((C.length + 1) * 16 ≤ 140737488355328) := ⟨by omega⟩
            have K3 : Stow (C.length + 1 ≤ maxLen) := ⟨by unfold maxLen; omega⟩
            have K4 := Stow.mk HB2.out.size
            have HO := Stow.mk (HC1.out.keep hbk)
            go_wp2_with (at_builtin; refine wpList_append_elem_form _ _ _ rfl (.tmp 57) (.tmp 62) 42 rfl w.heap.size 46 _ 2 16 Try.underlying42 info_pair _ _ _ HO.out rfl _ rfl rfl rfl (by decide) rfl (E1.out (m1, m2)) K2.out K3.out K4.out ?_; intro A4 cap4 w4 hown4 hg4 hb4 hs4)
            exact ⟨⟨j + 1, R1, rfl, by omega, ((H1.out.2.1.keep hbk).keep (Below.alloc' (Below.self _) _)).grown HN1.out hg4 (fun g hg => (World.ownsRow.lt HC.out g hg).2), by rw [HR.out]; exact H1.out.1, by rw [HCS.out]; unfold CRow; simpa [Mv.cells] using hown4, HB2.out.trans hb4⟩, by simp [intOf]; omega⟩
    · obtain rfl : j = M.length := by omega
      rw [List.take_length] at *
      have HOK := Stow.mk (Dd.run_ok M)
      obtain ⟨W0, hW0⟩ : ∃ W0, W0 = wr := ⟨_, rfl⟩
      subst hW0
      have hR8 : R.length ≤ 8 := by
        have := HOK.out.len
        rw [← HE.out] at this
        simpa using this
      rcases Nat.eq_zero_or_pos R.length with hr0 | hr0
      · obtain rfl := List.eq_nil_of_length_eq_zero hr0
        obtain rfl := HL.out.nil rfl
        go_wp2_with fail
        go_loopw [9, 10] (fun al v w' => ∃ j : Nat, v = .int .i64 (j : Int) ∧ j ≤ M.length ∧ al = .slice none 0 0 ∧ Below W0.heap.size W0 w') (fun _ v _ => M.length - (intOf v).toNat)
        case atStart => exact ⟨0, rfl, by omega, rfl, Below.self _⟩
        case round =>
          obtain ⟨j, rfl, hj, rfl, hbk⟩ := hrel
          have HBK := Stow.mk hbk
          clear hbk
          by_cases hlt : j < M.length
          · have hji : (j : Int) < M.length := by omega
            go_wp2_with fail
            go_quiet (fail)
            go_wp2_with fail
            exact ⟨⟨j + 1, rfl, by omega, rfl, Below.drewN' HBK.out _⟩, by simp [intOf]; omega⟩
          · obtain rfl : j = M.length := by omega
            go_wp2_with fail
            go_loopw [13] (fun v w' => v = .int .i64 0 ∧ Below w.heap.size w w') (fun v _ => 0)
            case atStart => exact ⟨rfl, HBR.out.trans (HBK.out.mono HBR.out.size)⟩
            case round =>
              obtain ⟨rfl, hbz⟩ := hrel
              go_wp2_with fail
              refine (known29_any _).mono ?_
              rintro e w3 ⟨rfl, hb3⟩
              go_wp2_with fail
              go_ret
              exact ⟨rfl, hbz.trans (hb3.mono hbz.size)⟩
      · obtain ⟨LA, lc, hlv, hlc, _⟩ := HL.out.row.form
        rw [List.length_map] at hlv hlc
        subst hlv
        have hlc1 : (1 : Int) ≤ lc := by omega
        have hlc2 : ¬ lc = 0 := by omega
        obtain ⟨lb, lo, rfl, hlb, _⟩ := HL.out.row.open (by simp; omega)
        have HL0 : Stow (∀ w', Below W0.heap.size W0 w' → w'.cell? ⟨lb, lo, none⟩ = some (.int .i64 R[0].w.n)) := ⟨fun w' hb => by
          have := (win_at (HL.out.row.keep hb) hr0).c0
          simpa using this⟩
        have HAL : Stow (Dd.run (M.filter (·.1 == R[0].w.n)) = [R[0].w]) := ⟨by
          have h1 : Dd.run M = R[0].w :: wis (R.drop 1) := by
            rw [← HE.out]
            cases R with
            | nil => simp at hr0
            | cons a t => rfl
          exact Dd.run_alone h1⟩
        obtain ⟨n0, hn0⟩ : ∃ n0, R[0].w.n = n0 := ⟨_, rfl⟩
        rw [hn0] at HAL
        simp only [hn0] at HL0
        clear hn0
        have hr0i : (0 : Int) < R.length := by omega
        go_wp2_with fail
        go_loopw [9, 10] (fun al v w' => ∃ (j : Nat) (Q : List Wm), v = .int .i64 (j : Int) ∧ j ≤ M.length ∧ WinR w' al Q ∧ wis Q = Dd.run ((M.take j).filter (·.1 == n0)) ∧ Below W0.heap.size W0 w') (fun _ v _ => M.length - (intOf v).toNat)
        case atStart => exact ⟨0, [], rfl, by omega, WinR.none _, rfl, Below.self _⟩
        case round =>
          obtain ⟨j, Q, rfl, hj, hQ, hq, hbk⟩ := hrel
          have HQ := Stow.mk hQ
          have HQE := Stow.mk hq
          have HBK := Stow.mk hbk
          have HBW := Stow.mk (HBR.out.trans (hbk.mono HBR.out.size))
          clear hQ hq hbk
          by_cases hlt : j < M.length
          · obtain ⟨b, off, rfl, hblt, _⟩ := HS.out.open (by simp; omega)
            have HP : Stow (∀ w', Below w.heap.size w w' → _) := ⟨fun w' hb => pair_at (HS.out.keep hb) hlt⟩
            obtain ⟨hb0, hc0, hc1⟩ := HP.out _ HBW.out
            have hl0 := HL0.out _ HBK.out
            have HTK : Stow (M.take (j + 1) = M.take j ++ [M[j]]) := ⟨List.take_succ_eq_append_getElem hlt⟩
            obtain ⟨m, hm⟩ : ∃ m, M[j] = m := ⟨_, rfl⟩
            rw [hm] at hc0 hc1 HTK
            simp only [hm] at HP
            clear hm
            obtain ⟨m1, m2⟩ := m
            simp only at hc0 hc1 HP
            have hji : (j : Int) < M.length := by omega
            obtain ⟨c, hcc⟩ : ∃ c, (m1 == n0) = c := ⟨_, rfl⟩
            have HCC := Stow.mk hcc
            have HF : Stow ((M.take (j + 1)).filter (·.1 == n0) = (M.take j).filter (·.1 == n0) ++ if c then [(m1, m2)] else []) := ⟨by
              rw [HTK.out, List.filter_append]
              simp [List.filter_cons, hcc]⟩
            cases c
            · go_wp2_with fail
              go_quiet (fail)
              go_wp2_with fail
              exact ⟨⟨j + 1, Q, rfl, by omega, HQ.out.keep (Below.drewN' (Below.self _) _), by rw [HF.out]; simpa using HQE.out, Below.drewN' HBK.out _⟩, by simp [intOf]; omega⟩
            · obtain rfl : m1 = n0 := by have := HCC.out; simpa using this
              have HOKF := Stow.mk (Dd.run_ok ((M.take j).filter (·.1 == m1)))
              have HRS := Stow.mk (Dd.run_snoc ((M.take j).filter (·.1 == m1)) (m1, m2))
              simp only [if_true] at HF
              rw [← HF.out] at HRS
              generalize Dd.run ((M.take j).filter (·.1 == m1)) = L at *
              obtain ⟨r, hr⟩ : ∃ r, Dd.fresh L m1 m2 = r := ⟨_, rfl⟩
              simp only [hr] at HRS
              obtain ⟨r1, r2⟩ := r
              have HFR := Stow.mk hr
              clear hr
              go_wp2_with fail
              go_quiet (fail)
              have HBD := Stow.mk (Below.drewN' HBK.out nq)
              have HQD := Stow.mk (HQ.out.keep (Below.drewN' (Below.self _) nq))
              have HBDW := Stow.mk (HBR.out.trans (HBD.out.mono HBR.out.size))
              obtain ⟨_, hk1, hk2⟩ := HP.out _ HBDW.out
              clear hc0 hc1 hl0
              generalize wr.drewN nq = W at *
              go_wp2_with fail
              have hc0 := hk1
              have hc1 := hk2
              clear hk1 hk2
              go_region_held3 (fun w' => w'.cell? ⟨b, off + j * 2, none⟩ = some (.int .i64 m1) ∧ w'.cell? ⟨b, off + j * 2 + 1, none⟩ = some (.int .i64 m2)) (first | go_keep | exact ⟨hk1, hk2⟩)
                (first | (go_at_call 22; refine (ddFresh_to HQD.out.drew HQE.out HOKF.out HFR.out).mono ?_; rintro e w1 ⟨v1, R1, rfl, e1, hW1, ok1, hb1⟩; have hB1 : Below w.heap.size w w1 := HBDW.out.trans ((Below.call (Below.drew (Below.self W)) hb1).mono HBDW.out.size); obtain ⟨_, hk1, hk2⟩ := HP.out _ hB1))
              have H1 := Stow.mk (And.intro e1 (And.intro hW1 ok1))
              have HBF := Stow.mk (HBD.out.trans ((Below.call (Below.drew (Below.self W)) hb1).mono HBD.out.size))
              clear hk1 hk2 e1 hW1 ok1 hb1 hB1
              go_wp2_with fail
              exact ⟨⟨j + 1, R1, rfl, by omega, H1.out.2.1, by rw [HRS.out]; exact H1.out.1, HBF.out⟩, by simp [intOf]; omega⟩
          · obtain rfl : j = M.length := by omega
            rw [List.take_length] at *
            rw [HAL.out] at HQE
            go_wp2_with fail
            have HLK := Stow.mk (HL.out.keep HBK.out)
            have hT : WinR wr (.slice (some ⟨lb, lo, none⟩) 1 lc) (R.take 1) := by
              refine ⟨?_, fun p hp => HLK.out.ints p (List.mem_of_mem_take hp), fun e => ?_⟩
              · have := HLK.out.row.take 1 (by simp; omega)
                rw [← List.map_take] at this
                exact this
              · cases R with
                | nil => simp at hr0
                | cons a t => simp at e
            refine (refSame_any _ _ Q (R.take 1) _ HQ.out hT (by
              rw [HQE.out]
              cases R with
              | nil => simp at hr0
              | cons a t => rfl)).mono ?_
            rintro e wx ⟨rfl, hbx⟩
            have HBX := Stow.mk (HBK.out.trans (hbx.mono HBK.out.size))
            clear hT hbx
            go_wp2_with fail
            go_loopw [13] (fun v w' => ∃ i : Nat, v = .int .i64 (i : Int) ∧ i ≤ R.length ∧ Below W0.heap.size W0 w') (fun v _ => R.length - (intOf v).toNat)
            case atStart => exact ⟨0, rfl, by omega, HBX.out⟩
            case round =>
              obtain ⟨i, rfl, hi, hbi⟩ := hrel
              have HBI := Stow.mk hbi
              clear hbi
              by_cases hil : i < R.length
              · have hii : (i : Int) < R.length := by omega
                have hokp := HOK.out.each R[i].w (by rw [← HE.out]; exact List.mem_map.2 ⟨_, List.getElem_mem hil, rfl⟩)
                have HW1 := Stow.mk (fun w' (hb : Below W0.heap.size W0 w') => win_at (HL.out.row.keep hb) hil)
                have HI1 := Stow.mk (fun w' (hb : Below W0.heap.size W0 w') => (HL.out.ints _ (List.getElem_mem hil)).keep hb)
                obtain ⟨p, hp⟩ : ∃ p, R[i] = p := ⟨_, rfl⟩
                rw [hp] at hokp HW1 HI1
                clear hp
                obtain ⟨⟨n, h, s⟩, PA, pc⟩ := p
                simp only [Wm.v] at hokp HW1 HI1
                have hsl := hokp.len
                have HOKP := Stow.mk hokp
                have hh0 := hokp.h0
                have hh1 := hokp.h1
                clear hokp
                simp only at hsl hh0 hh1
                obtain ⟨sb, so, rfl, hsb, _⟩ := (HI1.out _ (Below.self _)).open (by simp; omega)
                have hlast : s[s.length - 1]'(by omega) = h := by
                  have h1 := HOKP.out.le _ (List.getElem_mem (show s.length - 1 < s.length by omega))
                  simp only at h1
                  obtain ⟨k, hk, hk'⟩ := List.getElem_of_mem HOKP.out.top
                  simp only at hk'
                  rcases Nat.lt_or_ge k (s.length - 1) with hlt | hge
                  · have := List.pairwise_iff_getElem.1 HOKP.out.asc k (s.length - 1) hk (by simp; omega) hlt
                    simp only at this
                    omega
                  · have : k = s.length - 1 := by simp at hk; omega
                    subst this
                    exact hk'
                obtain ⟨hx, q0, q1, q2⟩ := HW1.out _ HBI.out
                simp only at q0 q1 q2
                have hcl := (ints_at (HI1.out _ HBI.out) (show s.length - 1 < s.length by omega)).2
                rw [hlast] at hcl
                have hcon : s.contains h = true := List.contains_iff_mem.2 HOKP.out.top
                have HCON := Stow.mk hcon
                have hsum : IntKind.i64.wrap ((s.length : Int) - 1) = ((s.length - 1 : Nat) : Int) := by rw [IntWalk.i64_in _ (by omega)]; omega
                have d1 : decide ((s.length : Int) < 1) = false := by simp; omega
                have d2 : decide ((128 : Int) < s.length) = false := by simp; omega
                have hb1 : ((s.length - 1 : Nat) : Int) < s.length := by omega
                have HIN : Stow (∀ k, Calls Try.prog 27 #[.slice (some ⟨sb, so, none⟩) s.length pc, .int .i64 h] (wr.drewN k) fun e w' => e = .returned (.bool true) ∧ w' = wr.drewN k) := ⟨fun k => by
                  have := refIn_any s (some ⟨sb, so, none⟩) pc h (wr.drewN k) (HI1.out _ (Below.drewN' HBI.out k))
                  rw [HCON.out] at this
                  exact this⟩
                clear hcon hlast hx
                go_wp2_with fail
                go_quiet ((go_at_call 27; exact Calls.quiet_of_same (HIN.out _)))
                have HBJ := Stow.mk (Below.drewN' HBI.out nq)
                clear q0 q1 q2 hcl hsum d1 d2 hb1
                generalize wr.drewN nq = W at *
                go_wp2_with fail
                go_loopw [15] (fun v w' => ∃ k : Nat, v = .int .i64 (k : Int) ∧ 1 ≤ k ∧ k ≤ s.length ∧ Below W0.heap.size W0 w') (fun v _ => s.length - (intOf v).toNat)
                case atStart => exact ⟨1, rfl, by omega, hsl.1, HBJ.out⟩
                case round =>
                  obtain ⟨k, rfl, hk1, hk, hbk⟩ := hrel
                  have HBK2 := Stow.mk hbk
                  clear hbk
                  by_cases hkl : k < s.length
                  · obtain ⟨hx, q0, q1, q2⟩ := HW1.out _ HBK2.out
                    simp only at q0 q1 q2
                    have hkp : k - 1 < s.length := by omega
                    have hca := (ints_at (HI1.out _ HBK2.out) hkl).2
                    have hcb := (ints_at (HI1.out _ HBK2.out) hkp).2
                    have hxy := List.pairwise_iff_getElem.1 HOKP.out.asc (k - 1) k hkp hkl (by omega)
                    have hnear := HOKP.out.near _ (List.getElem_mem hkp)
                    have hle := HOKP.out.le _ (List.getElem_mem hkp)
                    have hpos := HOKP.out.pos _ (List.getElem_mem hkp)
                    simp only at hxy hnear hle hpos
                    generalize s[k] = y at *
                    generalize s[k - 1] = x at *
                    have hki : (k : Int) < s.length := by omega
                    have hkpi : ((k - 1 : Nat) : Int) < s.length := by omega
                    have hsum : IntKind.i64.wrap ((k : Int) - 1) = ((k - 1 : Nat) : Int) := by rw [IntWalk.i64_in _ (by omega)]; omega
                    have hsum2 : IntKind.i64.wrap (h - x) = h - x := IntWalk.i64_in _ (by omega)
                    have d1 : decide (y ≤ x) = false := by simp; omega
                    have d2 : decide (128 ≤ h - x) = false := by simp; omega
                    clear hx
                    go_wp2_with fail
                    go_quiet (fail)
                    go_wp2_with fail
                    exact ⟨⟨k + 1, rfl, by omega, by omega, Below.drewN' HBK2.out _⟩, by simp [intOf]; omega⟩
                  · obtain rfl : k = s.length := by omega
                    go_wp2_with fail
                    exact ⟨⟨i + 1, rfl, by omega, HBK2.out⟩, by simp [intOf]; omega⟩
              · obtain rfl : i = R.length := by omega
                go_wp2_with fail
                refine (known29_any _).mono ?_
                rintro e w3 ⟨rfl, hb3⟩
                go_wp2_with fail
                go_ret
                exact ⟨rfl, HBR.out.trans ((HBI.out.mono HBR.out.size).trans (hb3.mono (Nat.le_trans HBR.out.size HBI.out.size)))⟩

theorem once29_at (v : Value) (w : World) (hv : Cells.pSlice w 2 [Cells.pInt .i64, Cells.pInt .i64] v) :
    Calls Try.prog 5 #[v] w fun e w' => e = .returned (.bool true) ∧ Below w.heap.size w w' := by
  obtain ⟨M, A, cap, rfl, hS⟩ := pairs_of hv
  exact once29 M A cap w hS
end Go.Proofs.Ytbcokngjcgldpaa
