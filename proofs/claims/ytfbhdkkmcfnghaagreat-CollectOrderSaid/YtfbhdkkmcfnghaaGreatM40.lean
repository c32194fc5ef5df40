/- Walk of the reference's with. Conditions: the spans' memory; lists not longer than a thousand. -/
import Derived.Test.YtfbhdkkmcfnghaaGreatM39

section
namespace Go.Proofs.YtfbhdkkmcfnghaaGreat
open Go.RowKit
set_option linter.unusedVariables false
set_option linter.unusedSimpArgs false

theorem rWith_results (W : World) (g : Nat) (a b c d e : Value) (tmps : Array Value) (hH : Held W g [a, b, c, d, e]) (h2 : tmps[4]?.getD undef = .pointer (some ⟨g, 0, none⟩)) :
    (results Tryz.f63 tmps).run Tryz.prog W = .ok (.agg #[a, b, c, d, e]) W := by
  have c0 := hH.cell (i := 0) rfl
  have c1 := hH.cell (i := 1) rfl
  have c2 := hH.cell (i := 2) rfl
  have c3 := hH.cell (i := 3) rfl
  have c4 := hH.cell (i := 4) rfl
  simp [results, Tryz.results63, go_sem, h2, c0, c1, c2, c3, c4]
set_option maxHeartbeats 4000000 in
set_option maxRecDepth 100000 in
theorem rWith_any (m : Km) (s : Sp) (w : World) (hR : KmR w m) (hn : m.k.L.length ≤ 1000) (hp : 0 < m.k.L.length) :
    Calls Tryz.prog 63 #[.agg m.cells.toArray, s.val] w fun e w' => ∃ m' : Km, e = .returned (.agg m'.cells.toArray) ∧ m'.k = St.putK m.k s ∧ KmR w' m' ∧ Below w.heap.size w w' ∧ (m'.A = m.A ∨ ∀ a, m'.A = some a → w.heap.size ≤ a.block) := by
  obtain ⟨⟨mh, ml, L, mx, mc⟩, A, cap⟩ := m
  simp only at hn hp
  have b1 := Below.alloc' (Below.self w) (.cells (Km.mk ⟨mh, ml, L, mx, mc⟩ A cap).cells.toArray 40)
  have b2 := Below.alloc' (Below.self (w.alloc (.cells (Km.mk ⟨mh, ml, L, mx, mc⟩ A cap).cells.toArray 40))) (.cells s.cells.toArray 64)
  have b3 := Below.alloc' (Below.self ((w.alloc (.cells (Km.mk ⟨mh, ml, L, mx, mc⟩ A cap).cells.toArray 40)).alloc (.cells s.cells.toArray 64))) (.cells [Value.int .u64 0, .int .u64 0, .slice none 0 0, .bool false, .bool false].toArray 40)
  have h1 := ((Held.made w (Km.mk ⟨mh, ml, L, mx, mc⟩ A cap).cells 40).kept b2).kept b3
  have h2 := (Held.made (w.alloc (.cells (Km.mk ⟨mh, ml, L, mx, mc⟩ A cap).cells.toArray 40)) s.cells 64).kept b3
  have h3 := Held.made ((w.alloc (.cells (Km.mk ⟨mh, ml, L, mx, mc⟩ A cap).cells.toArray 40)).alloc (.cells s.cells.toArray 64)) [Value.int .u64 0, .int .u64 0, .slice none 0 0, .bool false, .bool false] 40
  have hb := Below.call (Below.call b1 b2) b3
  obtain ⟨W, hW⟩ : ∃ W, ((w.alloc (.cells (Km.mk ⟨mh, ml, L, mx, mc⟩ A cap).cells.toArray 40)).alloc (.cells s.cells.toArray 64)).alloc (.cells [Value.int .u64 0, .int .u64 0, .slice none 0 0, .bool false, .bool false].toArray 40) = W := ⟨_, rfl⟩
  rw [hW] at h1 h2 h3 hb
  simp only [World.size_alloc] at h2 h3
  have HK := Stow.mk h1
  have HX := Stow.mk h2
  have HZ := Stow.mk h3
  have HB := Stow.mk hb
  have HS := Stow.mk (SlR.keep hR hb)
  simp only at HS
  have HW := Stow.mk hW
  clear b1 b2 b3 h1 h2 h3 hb hW hR
  unfold Km.cells Sp.cells at HW
  unfold Km.cells Sp.val
  go_enter Tryz.func63, Tryz.ntmps63
  go_upto_region 1 with fail
  generalize hX : World.alloc (World.alloc (World.alloc w _) _) _ = X
  obtain rfl : W = X := HW.out.symm.trans hX
  clear hX HW
  go_wp2_with fail
  go_loopw [5] (fun u wr => ∃ i : Nat, u = .int .i64 (i : Int) ∧ i ≤ L.length ∧ Stow (∀ j (hj : j < L.length), j < i → St.idIs s L[j] = false) ∧ Stow (Below W.heap.size W wr)) (fun u _ => L.length - (intOf u).toNat)
  case atStart => exact ⟨0, rfl, by omega, ⟨fun j _ h => by omega⟩, ⟨Below.self _⟩⟩
  case round =>
    obtain ⟨i, rfl, hi', HN, HBR⟩ := hrel
    have HK := Stow.mk (HK.out.kept HBR.out)
    have HX := Stow.mk (HX.out.kept HBR.out)
    have HZ := Stow.mk (HZ.out.kept HBR.out)
    have HS := Stow.mk (HS.out.keep HBR.out)
    have HB := Stow.mk (HB.out.trans (HBR.out.mono HB.out.size))
    have c2 := HK.out.cell (i := 2) rfl
    have hkl := HK.out.lt
    have hzl := HZ.out.lt
    simp only at c2
    by_cases hlt : i < L.length
    · obtain ⟨b, off, rfl, hblt, _⟩ := HS.out.open (by simp; omega)
      have hsp := (sp_at HS.out hlt).2
      obtain ⟨y, hy⟩ : ∃ y, L[i] = y := ⟨_, rfl⟩
      rw [hy] at hsp
      have s2 := hsp 2 _ rfl
      have b2 := HX.out.cell (i := 2) rfl
      have hii : (i : Int) < L.length := by omega
      have hi0 : (0 : Int) ≤ i := by omega
      obtain ⟨r, hr⟩ : ∃ r, (y.id == s.id) = r := ⟨_, rfl⟩
      have hri : (((y.id : Int) == (s.id : Int)) : Bool) = r := by rw [← hr, Bool.eq_iff_iff]; simp [Int.natCast_inj]
      have HPS : Stow (St.idIs s (L[i]'hlt) = r) := ⟨by rw [hy]; exact hr⟩
      have HSP := Stow.mk hsp
      clear hsp hr
      cases r
      · clear hy HSP
        go_wp2_with fail
        go_quiet (fail)
        go_wp2_with fail
        exact ⟨⟨i + 1, rfl, by omega, ⟨fun j hj hji => by
          by_cases h : j < i
          · exact HN.out j hj h
          · obtain rfl : j = i := by omega
            exact HPS.out⟩, ⟨Below.drewN' HBR.out _⟩⟩, by simp [intOf]; omega⟩
      · have HPK := Stow.mk (St.putK_some (k := ⟨mh, ml, L, mx, mc⟩) (St.find_some hlt HPS.out (fun j hj => HN.out j (by omega) hj)) hlt)
        simp only [hy] at HPK
        clear hy
        go_wp2_with fail
        go_quiet (fail)
        have hbq : Below wr.heap.size wr (wr.drewN nq) := Below.drewN' (Below.self wr) _
        obtain ⟨wq, hwq⟩ : ∃ q, wr.drewN nq = q := ⟨_, rfl⟩
        rw [hwq] at hbq ⊢
        have hrg : wq.rangeAt b (off + i * 11) y.cells := by rw [← hwq]; exact HSP.out
        have HK := Stow.mk (HK.out.kept hbq)
        have HX := Stow.mk (HX.out.kept hbq)
        have HZ := Stow.mk (HZ.out.kept hbq)
        have HS := Stow.mk (HS.out.keep hbq)
        have HB := Stow.mk (HB.out.trans (hbq.mono HB.out.size))
        clear hwq hbq c2 s2 b2 HSP
        have c2 := HK.out.cell (i := 2) rfl
        have c4 := HK.out.cell (i := 4) rfl
        have f4 := HK.out.free 4
        simp only at c2 c4
        have s0 := hrg 0 _ rfl
        simp only [Nat.add_zero] at s0
        have s1 := hrg 1 _ rfl
        have s2 := hrg 2 _ rfl
        have s3 := hrg 3 _ rfl
        have s4 := hrg 4 _ rfl
        have s5 := hrg 5 _ rfl
        have s6 := hrg 6 _ rfl
        have s7 := hrg 7 _ rfl
        have s8 := hrg 8 _ rfl
        have s9 := hrg 9 _ rfl
        have s10 := hrg 10 _ rfl
        have b0 := HX.out.cell (i := 0) rfl
        have b1 := HX.out.cell (i := 1) rfl
        have b2 := HX.out.cell (i := 2) rfl
        have b3 := HX.out.cell (i := 3) rfl
        have b4 := HX.out.cell (i := 4) rfl
        have b5 := HX.out.cell (i := 5) rfl
        have b6 := HX.out.cell (i := 6) rfl
        have b7 := HX.out.cell (i := 7) rfl
        have b8 := HX.out.cell (i := 8) rfl
        have b9 := HX.out.cell (i := 9) rfl
        have b10 := HX.out.cell (i := 10) rfl
        have he := eql_sp y s
        unfold Sp.val at he
        obtain ⟨q, hq⟩ : ∃ q, Sp.eq y s = q := ⟨_, rfl⟩
        rw [hq] at he HPK
        have hV : Stow (∀ v, v = (mc || !q) → Held (wq.setCell ⟨w.heap.size, 4, none⟩ (.bool v)).drew w.heap.size (Km.mk ⟨mh, ml, L, mx, v⟩ (some ⟨b, off, none⟩) cap).cells ∧ Held (wq.setCell ⟨w.heap.size, 4, none⟩ (.bool v)).drew (w.heap.size + 1 + 1) [Value.int .u64 0, .int .u64 0, .slice none 0 0, .bool false, .bool false] ∧ Below w.heap.size w (wq.setCell ⟨w.heap.size, 4, none⟩ (.bool v)).drew ∧ KmR (wq.setCell ⟨w.heap.size, 4, none⟩ (.bool v)).drew (Km.mk ⟨mh, ml, L, mx, v⟩ (some ⟨b, off, none⟩) cap) ∧ (Km.mk ⟨mh, ml, L, mx, v⟩ (some ⟨b, off, none⟩) cap).k = St.putK ⟨mh, ml, L, mx, mc⟩ s) := ⟨by
          rintro v rfl
          have hO := Only.set w.heap.size wq 4 (.bool (mc || !q))
          exact ⟨(HK.out.set 4 _).drew, (HZ.out.offO hO (by omega)).drew, Below.drew (HB.out.trans (hO.below (Nat.le_refl _) HB.out.size)), SlR.drew (slr_turnU2 HK.out (by intro k hk; simp [Km.cells] at hk) HS.out (Turn.of_grown hO (.inl rfl))), HPK.out.symm⟩⟩
        clear hrg hq HN HPS HPK
        cases mc
        · cases q
          · obtain ⟨v1, v2, v3, v4, v5⟩ := hV.out true rfl
            have HVK := Stow.mk v1
            have HVZ := Stow.mk v2
            have HVB := Stow.mk v3
            have HVR := Stow.mk v4
            have HVE := Stow.mk v5
            clear v1 v2 v3 v4 v5 hV
            go_wp2_with fail
            go_region
            all_goals
              clear s0 s1 s2 s3 s4 s5 s6 s7 s8 s9 s10 b0 b1 b2 b3 b4 b5 b6 b7 b8 b9 b10 c2 c4 f4
              go_wp2_with (first
                | (refine wpList_load_mid rfl 40 (.tmp 2) rfl w.heap.size 0 rfl (Km.mk ⟨mh, ml, L, mx, true⟩ (some ⟨b, off, none⟩) cap).cells _ HVK.out.range Tryz.underlying40 rfl (by kernel_rfl) ?_)
                | (refine wpList_store_hx rfl 40 (.tmp 4) (.tmp 35) rfl rfl (w.heap.size + 1 + 1) 0 (Km.mk ⟨mh, ml, L, mx, true⟩ (some ⟨b, off, none⟩) cap).cells rfl rfl HVZ.out.there (by kernel_rfl) (Km.one (Km.mk ⟨mh, ml, L, mx, true⟩ (some ⟨b, off, none⟩) cap)) ?_))
              refine bodyPost_ret (rWith_results _ (w.heap.size + 1 + 1) _ _ _ _ _ _ (HVZ.out.over (Km.mk ⟨mh, ml, L, mx, true⟩ (some ⟨b, off, none⟩) cap).cells rfl) rfl) rfl ?_
              exact ⟨Km.mk ⟨mh, ml, L, mx, true⟩ (some ⟨b, off, none⟩) cap, rfl, HVE.out, slr_turnU2 HVZ.out (by intro k hk; simp at hk) HVR.out (Turn.of_grown (only_all _ _ _) (.inl rfl)), HVB.out.trans ((only_all (Km.mk ⟨mh, ml, L, mx, true⟩ (some ⟨b, off, none⟩) cap).cells _ 0).below (by omega) HVB.out.size), .inl rfl⟩
          · obtain ⟨v1, v2, v3, v4, v5⟩ := hV.out false rfl
            have HVK := Stow.mk v1
            have HVZ := Stow.mk v2
            have HVB := Stow.mk v3
            have HVR := Stow.mk v4
            have HVE := Stow.mk v5
            clear v1 v2 v3 v4 v5 hV
            go_wp2_with fail
            go_region
            all_goals
              clear s0 s1 s2 s3 s4 s5 s6 s7 s8 s9 s10 b0 b1 b2 b3 b4 b5 b6 b7 b8 b9 b10 c2 c4 f4
              go_wp2_with (first
                | (refine wpList_load_mid rfl 40 (.tmp 2) rfl w.heap.size 0 rfl (Km.mk ⟨mh, ml, L, mx, false⟩ (some ⟨b, off, none⟩) cap).cells _ HVK.out.range Tryz.underlying40 rfl (by kernel_rfl) ?_)
                | (refine wpList_store_hx rfl 40 (.tmp 4) (.tmp 35) rfl rfl (w.heap.size + 1 + 1) 0 (Km.mk ⟨mh, ml, L, mx, false⟩ (some ⟨b, off, none⟩) cap).cells rfl rfl HVZ.out.there (by kernel_rfl) (Km.one (Km.mk ⟨mh, ml, L, mx, false⟩ (some ⟨b, off, none⟩) cap)) ?_))
              refine bodyPost_ret (rWith_results _ (w.heap.size + 1 + 1) _ _ _ _ _ _ (HVZ.out.over (Km.mk ⟨mh, ml, L, mx, false⟩ (some ⟨b, off, none⟩) cap).cells rfl) rfl) rfl ?_
              exact ⟨Km.mk ⟨mh, ml, L, mx, false⟩ (some ⟨b, off, none⟩) cap, rfl, HVE.out, slr_turnU2 HVZ.out (by intro k hk; simp at hk) HVR.out (Turn.of_grown (only_all _ _ _) (.inl rfl)), HVB.out.trans ((only_all (Km.mk ⟨mh, ml, L, mx, false⟩ (some ⟨b, off, none⟩) cap).cells _ 0).below (by omega) HVB.out.size), .inl rfl⟩
        · obtain ⟨v1, v2, v3, v4, v5⟩ := hV.out true rfl
          have HVK := Stow.mk v1
          have HVZ := Stow.mk v2
          have HVB := Stow.mk v3
          have HVR := Stow.mk v4
          have HVE := Stow.mk v5
          clear v1 v2 v3 v4 v5 hV
          go_wp2_with fail
          go_region
          all_goals
            clear s0 s1 s2 s3 s4 s5 s6 s7 s8 s9 s10 b0 b1 b2 b3 b4 b5 b6 b7 b8 b9 b10 c2 c4 f4
            go_wp2_with (first
              | (refine wpList_load_mid rfl 40 (.tmp 2) rfl w.heap.size 0 rfl (Km.mk ⟨mh, ml, L, mx, true⟩ (some ⟨b, off, none⟩) cap).cells _ HVK.out.range Tryz.underlying40 rfl (by kernel_rfl) ?_)
              | (refine wpList_store_hx rfl 40 (.tmp 4) (.tmp 35) rfl rfl (w.heap.size + 1 + 1) 0 (Km.mk ⟨mh, ml, L, mx, true⟩ (some ⟨b, off, none⟩) cap).cells rfl rfl HVZ.out.there (by kernel_rfl) (Km.one (Km.mk ⟨mh, ml, L, mx, true⟩ (some ⟨b, off, none⟩) cap)) ?_))
            refine bodyPost_ret (rWith_results _ (w.heap.size + 1 + 1) _ _ _ _ _ _ (HVZ.out.over (Km.mk ⟨mh, ml, L, mx, true⟩ (some ⟨b, off, none⟩) cap).cells rfl) rfl) rfl ?_
            exact ⟨Km.mk ⟨mh, ml, L, mx, true⟩ (some ⟨b, off, none⟩) cap, rfl, HVE.out, slr_turnU2 HVZ.out (by intro k hk; simp at hk) HVR.out (Turn.of_grown (only_all _ _ _) (.inl rfl)), HVB.out.trans ((only_all (Km.mk ⟨mh, ml, L, mx, true⟩ (some ⟨b, off, none⟩) cap).cells _ 0).below (by omega) HVB.out.size), .inl rfl⟩
    · obtain rfl : i = L.length := by omega
      have hno : L.findIdx? (St.idIs s) = none := St.find_none (fun j hj => HN.out j hj hj)
      by_cases h64 : 64 ≤ L.length
      · have HPK := Stow.mk (St.putK_full (k := ⟨mh, ml, L, mx, mc⟩) hno h64)
        have h64i : (64 : Int) ≤ L.length := by omega
        have f3 := HK.out.free 3
        have c3 := HK.out.cell (i := 3) rfl
        have HVK : Stow (Held (wr.setCell ⟨w.heap.size, 3, none⟩ (.bool true)) w.heap.size (Km.mk ⟨mh, ml, L, true, mc⟩ A cap).cells) := ⟨HK.out.set 3 (.bool true)⟩
        have hO := Only.set w.heap.size wr 3 (.bool true)
        have HVZ := Stow.mk (HZ.out.offO hO (by omega))
        have HVB := Stow.mk (HB.out.trans (hO.below (Nat.le_refl _) HB.out.size))
        have HVR : Stow (KmR (wr.setCell ⟨w.heap.size, 3, none⟩ (.bool true)) (Km.mk ⟨mh, ml, L, true, mc⟩ A cap)) := ⟨slr_turnU2 HK.out (by intro k hk; simp [Km.cells] at hk) HS.out (Turn.of_grown hO (.inl rfl))⟩
        have HVE : Stow ((Km.mk ⟨mh, ml, L, true, mc⟩ A cap).k = St.putK ⟨mh, ml, L, mx, mc⟩ s) := ⟨HPK.out.symm⟩
        clear hO hno h64 HPK
        go_wp2_with (first
          | (refine wpList_load_mid rfl 40 (.tmp 2) rfl w.heap.size 0 rfl (Km.mk ⟨mh, ml, L, true, mc⟩ A cap).cells _ HVK.out.range Tryz.underlying40 rfl (by kernel_rfl) ?_)
          | (refine wpList_store_hx rfl 40 (.tmp 4) (.tmp 41) rfl rfl (w.heap.size + 1 + 1) 0 (Km.mk ⟨mh, ml, L, true, mc⟩ A cap).cells rfl rfl HVZ.out.there (by kernel_rfl) (Km.one (Km.mk ⟨mh, ml, L, true, mc⟩ A cap)) ?_))
        refine bodyPost_ret (rWith_results _ (w.heap.size + 1 + 1) _ _ _ _ _ _ (HVZ.out.over (Km.mk ⟨mh, ml, L, true, mc⟩ A cap).cells rfl) rfl) rfl ?_
        exact ⟨Km.mk ⟨mh, ml, L, true, mc⟩ A cap, rfl, HVE.out, slr_turnU2 HVZ.out (by intro k hk; simp at hk) HVR.out (Turn.of_grown (only_all _ _ _) (.inl rfl)), HVB.out.trans ((only_all (Km.mk ⟨mh, ml, L, true, mc⟩ A cap).cells _ 0).below (by omega) HVB.out.size), .inl rfl⟩
      · have HPK := Stow.mk (St.putK_new (k := ⟨mh, ml, L, mx, mc⟩) hno h64)
        have h64i : ¬ (64 : Int) ≤ L.length := by omega
        obtain ⟨b, off, rfl, hblt, _⟩ := HS.out.open (by simp; omega)
        have K : Stow ((∀ x ∈ L.map Sp.cells, x.length = 11) ∧ (∀ x ∈ L.map Sp.cells, ∀ u ∈ x, u.oneCell' = true) ∧ 0 + L.length ≤ maxLen ∧ (0 + L.length) * 96 ≤ 140737488355328 ∧ (L.length + 1) * 96 ≤ 140737488355328 ∧ L.length + 1 ≤ maxLen) := ⟨fun x hx => by
          obtain ⟨y, _, rfl⟩ := List.mem_map.1 hx
          rfl, fun x hx u hu => by
          obtain ⟨y, _, rfl⟩ := List.mem_map.1 hx
          exact Sp.one y u hu, by unfold maxLen; omega, by omega, by omega, by unfold maxLen; omega⟩
        have HSO : Stow (∀ u ∈ s.cells, u.oneCell' = true) := ⟨Sp.one s⟩
        clear hno h64 HN
        go_upto_region 12 with (at_builtin; refine wpList_append_slr (World.ownsRow_nil wr wr.heap.size 64 11) (L.map Sp.cells) (some ⟨b, off, none⟩) L.length cap HS.out (fun h => by cases h) K.out.1 K.out.2.1 rfl (.tmp 42) (.tmp 44) 38 rfl Tryz.underlying38 info_spn rfl (by decide) rfl rfl K.out.2.2.1 K.out.2.2.2.1 (Nat.le_refl _) ?_; intro A4 c4 w4 h4 hg4 hb4; rw [Nat.zero_add] at h4 ⊢; rw [List.nil_append, ← List.flatMap_def] at h4; have H4 := Stow.mk h4; have HB4 := Stow.mk hb4; clear hg4 hb4 h4)
        have HK := Stow.mk (HK.out.kept HB4.out)
        have HX := Stow.mk (HX.out.kept HB4.out)
        have HZ := Stow.mk (HZ.out.kept HB4.out)
        have HB := Stow.mk (HB.out.trans (HB4.out.mono HB.out.size))
        clear c2
        have b0 := HX.out.cell (i := 0) rfl
        have b1 := HX.out.cell (i := 1) rfl
        have b2 := HX.out.cell (i := 2) rfl
        have b3 := HX.out.cell (i := 3) rfl
        have b4 := HX.out.cell (i := 4) rfl
        have b5 := HX.out.cell (i := 5) rfl
        have b6 := HX.out.cell (i := 6) rfl
        have b7 := HX.out.cell (i := 7) rfl
        have b8 := HX.out.cell (i := 8) rfl
        have b9 := HX.out.cell (i := 9) rfl
        have b10 := HX.out.cell (i := 10) rfl
        go_upto_region 13 with (at_builtin; refine wpList_append_elem_form w4 _ _ rfl (.tmp 46) (.tmp 48) 38 rfl wr.heap.size 64 _ 11 96 Tryz.underlying38 info_spn _ _ _ H4.out rfl _ rfl rfl rfl (by decide) rfl HSO.out K.out.2.2.2.2.1 K.out.2.2.2.2.2 HB4.out.size ?_; intro A5 c5 w5 h5 hg5 hb5 hs5; have H5 := Stow.mk h5; have HB5 := Stow.mk hb5; clear h5 hg5 hb5 hs5)
        clear b0 b1 b2 b3 b4 b5 b6 b7 b8 b9 b10
        have HK := Stow.mk (HK.out.undr2 HB5.out hkl)
        have HZ := Stow.mk (HZ.out.undr2 HB5.out hzl)
        have HB := Stow.mk (HB.out.trans (HB5.out.mono (Nat.le_of_lt hkl)))
        have c2 := HK.out.cell (i := 2) rfl
        have f2 := HK.out.free 2
        have hO := Only.set w.heap.size w5 2 (.slice A5 (L.length + 1) c5)
        have hll : (L ++ [s]).length = L.length + 1 := by simp
        have HVK : Stow (Held (w5.setCell ⟨w.heap.size, 2, none⟩ (.slice A5 (L.length + 1) c5)) w.heap.size (Km.mk ⟨mh, ml, L ++ [s], mx, mc⟩ A5 c5).cells) := ⟨by
          have := HK.out.set 2 (.slice A5 (L.length + 1) c5)
          unfold Km.cells at this ⊢
          simp only [hll]
          exact this⟩
        have HVZ := Stow.mk (HZ.out.offO hO (by omega))
        have HVB := Stow.mk (HB.out.trans (hO.below (Nat.le_refl _) HB.out.size))
        have HVR : Stow (KmR (w5.setCell ⟨w.heap.size, 2, none⟩ (.slice A5 (L.length + 1) c5)) (Km.mk ⟨mh, ml, L ++ [s], mx, mc⟩ A5 c5)) := ⟨by
          have h6 := own_undr H5.out hO hkl
          refine own_of_cells (B := wr.heap.size) (e := 64) (enc := Sp.cells) (L := L ++ [s]) (fun _ => rfl) ?_ rfl
          simp only [hll, List.flatMap_append, List.flatMap_cons, List.flatMap_nil, List.append_nil]
          exact h6⟩
        have HVE : Stow ((Km.mk ⟨mh, ml, L ++ [s], mx, mc⟩ A5 c5).k = St.putK ⟨mh, ml, L, mx, mc⟩ s) := ⟨HPK.out.symm⟩
        have HVA : Stow (∀ a, A5 = some a → w.heap.size ≤ a.block) := ⟨fun a ha => Nat.le_trans (Nat.le_of_lt hkl) (row_new H5.out a _ _ (by rw [ha]))⟩
        clear hO hll HPK H5 H4 HK HZ
        go_wp2_with (first
          | (refine wpList_load_mid rfl 40 (.tmp 2) rfl w.heap.size 0 rfl (Km.mk ⟨mh, ml, L ++ [s], mx, mc⟩ A5 c5).cells _ HVK.out.range Tryz.underlying40 rfl (by kernel_rfl) ?_)
          | (refine wpList_store_hx rfl 40 (.tmp 4) (.tmp 52) rfl rfl (w.heap.size + 1 + 1) 0 (Km.mk ⟨mh, ml, L ++ [s], mx, mc⟩ A5 c5).cells rfl rfl HVZ.out.there (by kernel_rfl) (Km.one (Km.mk ⟨mh, ml, L ++ [s], mx, mc⟩ A5 c5)) ?_))
        refine bodyPost_ret (rWith_results _ (w.heap.size + 1 + 1) _ _ _ _ _ _ (HVZ.out.over (Km.mk ⟨mh, ml, L ++ [s], mx, mc⟩ A5 c5).cells rfl) rfl) rfl ?_
        exact ⟨Km.mk ⟨mh, ml, L ++ [s], mx, mc⟩ A5 c5, rfl, HVE.out, slr_turnU2 HVZ.out (by intro k hk; simp at hk) HVR.out (Turn.of_grown (only_all _ _ _) (.inl rfl)), HVB.out.trans ((only_all (Km.mk ⟨mh, ml, L ++ [s], mx, mc⟩ A5 c5).cells _ 0).below (by omega) HVB.out.size), .inr HVA.out⟩
end Go.Proofs.YtfbhdkkmcfnghaaGreat
end
