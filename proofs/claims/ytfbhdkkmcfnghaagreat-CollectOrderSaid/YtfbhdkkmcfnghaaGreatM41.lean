/- Walk of the reference's Add. Conditions: memory of traces; lists not longer than a hundred. -/
import Derived.Test.YtfbhdkkmcfnghaaGreatM40

section
namespace Go.Proofs.YtfbhdkkmcfnghaaGreat
open Go.RowKit
set_option linter.unusedVariables false
set_option linter.unusedSimpArgs false

theorem kr_each {w w' : World} {R : List Km} (h : ∀ m ∈ R, KmR w m) (hb : Below w.heap.size w w') : ∀ m ∈ R, KmR w' m := fun m hm => (h m hm).keep hb
theorem km_block {w : World} {m : Km} (h : KmR w m) (hp : 0 < m.k.L.length) : ∀ a, m.A = some a → a.block < w.heap.size := by
  intro a ha
  obtain ⟨b, off, hA, hb, _⟩ := SlR.open h (by simpa using hp)
  rw [ha] at hA
  cases hA
  exact hb
set_option maxHeartbeats 4000000 in
set_option maxRecDepth 100000 in
theorem rAdd_any (A : Option Addr) (cap : Nat) (R : List Km) (r : Int) (s : Sp) (w : World) (h : KsR w A cap R) (hf : St.Fine (R.map Km.k)) (hr : -9223372036854775808 ≤ r ∧ r ≤ 9223372036854775807) (hA : A = none → cap = 0) :
    Calls Tryz.prog 33 #[.slice A R.length cap, .int .i64 r, s.val] w fun e w' => ∃ A' cap' R', e = .returned (.tuple #[.slice A' R'.length cap', .int .i64 ((St.add (R.map Km.k) r s).2 : Nat)]) ∧ R'.map Km.k = (St.add (R.map Km.k) r s).1 ∧ KsR w' A' cap' R' ∧ Below w.heap.size w w' ∧ (A' = none → cap' = 0) := by
  have hlen : R.length ≤ 32 := by have := hf.len; simpa using this
  have ba := Below.alloc' (Below.self w) (.cells s.cells.toArray 64)
  have hbx := Held.made w s.cells 64
  have h1 := h.keep ba
  obtain ⟨W, hW⟩ : ∃ W, w.alloc (.cells s.cells.toArray 64) = W := ⟨_, rfl⟩
  rw [hW] at ba hbx h1
  have HX := Stow.mk hbx
  have HLT := Stow.mk (show w.heap.size < W.heap.size from hbx.lt)
  have HB := Stow.mk ba
  have HS := Stow.mk h1
  have HS0 := Stow.mk h
  have HA := Stow.mk hA
  have HW := Stow.mk hW
  have HF := Stow.mk hf
  have HR := Stow.mk hr
  have K : Stow ((∀ x ∈ R.map Km.cells, x.length = 5) ∧ (∀ x ∈ R.map Km.cells, ∀ u ∈ x, u.oneCell' = true) ∧ 0 + R.length ≤ maxLen ∧ (0 + R.length) * 48 ≤ 140737488355328 ∧ (R.length + 1) * 48 ≤ 140737488355328 ∧ R.length + 1 ≤ maxLen) := ⟨fun x hx => by
    obtain ⟨y, _, rfl⟩ := List.mem_map.1 hx
    rfl, fun x hx u hu => by
    obtain ⟨y, _, rfl⟩ := List.mem_map.1 hx
    exact Km.one y u hu, by unfold maxLen; omega, by omega, by omega, by unfold maxLen; omega⟩
  have hrp := St.room_pos r
  have HROOM : Stow ((max 1 (min r 32) : Int) = (St.room r : Int)) := ⟨by
    unfold St.room
    omega⟩
  clear h ba hbx h1 hW hf hA
  obtain ⟨o, ho⟩ : ∃ o, St.at_ (R.map Km.k) s.hi s.lo = o := ⟨_, rfl⟩
  have HO := Stow.mk ho
  unfold Sp.val
  unfold Sp.cells at HW
  go_enter Tryz.func33, Tryz.ntmps33
  go_upto_region 1 with fail
  generalize hX : World.alloc w _ = X
  obtain rfl : W = X := HW.out.symm.trans hX
  clear hX HW ho
  go_upto_region 2 with fail
  rw [HROOM.out]
  generalize min r 32 = mn
  go_upto_region 4 with (at_builtin; refine wpList_append_slr (World.ownsRow_nil W W.heap.size 40 5) (R.map Km.cells) A R.length cap HS.out.row HA.out K.out.1 K.out.2.1 rfl (.tmp 14) (.tmp 15) 30 rfl Tryz.underlying30 info_kept rfl (by decide) rfl rfl K.out.2.2.1 K.out.2.2.2.1 (Nat.le_refl _) ?_; intro A1 c1 w1 h4 hg4 hb4; rw [Nat.zero_add] at h4 ⊢; rw [List.nil_append, ← List.flatMap_def] at h4; have H4 := Stow.mk h4; have HB4 := Stow.mk hb4; clear hg4 hb4 h4)
  have HS := Stow.mk (HS.out.keep HB4.out)
  have HX := Stow.mk (HX.out.kept HB4.out)
  have HB := Stow.mk (HB.out.trans (HB4.out.mono HB.out.size))
  have b0 := HX.out.cell (i := 0) rfl
  have b1 := HX.out.cell (i := 1) rfl
  have hfd := rAt_any s.hi s.lo A cap R w1 HS.out.row (by omega)
  rw [HO.out] at hfd
  have HFD := Stow.mk hfd
  clear hfd
  go_wp2_with fail
  refine HFD.out.mono ?_
  rintro e w2 ⟨rfl, hb2⟩
  have HS := Stow.mk (HS.out.keep hb2)
  have HX := Stow.mk (HX.out.kept hb2)
  have HB := Stow.mk (HB.out.trans (hb2.mono HB.out.size))
  have H4 := Stow.mk (own_kept H4.out hb2)
  have hWs : W.heap.size ≤ w2.heap.size := Nat.le_trans HB4.out.size hb2.size
  clear hb2 b0 b1 HFD HB4
  cases o with
  | some i =>
    simp only [St.ixInt]
    obtain ⟨hi, hadd⟩ := St.add_some (r := r) HO.out
    have HAD := Stow.mk hadd
    rw [List.length_map] at hi
    have hsp := map_mid hi
    have hA1 : ∃ g, A1 = some ⟨g, 0, none⟩ := by
      obtain ⟨g, c', hv, _⟩ := World.ownsRow.form H4.out (by omega)
      simp only [Value.slice.injEq] at hv
      exact ⟨g, hv.1⟩
    obtain ⟨g, rfl⟩ := hA1
    obtain ⟨b, off, rfl, hblt, _⟩ := HS.out.row.open (by simp; omega)
    have HRA := Stow.mk (km_at HS.out.row hi).2
    have hfi := HF.out.each R[i].k (List.mem_map_of_mem (List.getElem_mem hi))
    have HMR := Stow.mk (HS.out.each _ (List.getElem_mem hi))
    obtain ⟨m, hm⟩ : ∃ m, R[i] = m := ⟨_, rfl⟩
    rw [hm] at HRA HMR hfi
    have hki : (0 : Int) ≤ i := by omega
    have hkl : (i : Int) < R.length := by omega
    have hxl := HX.out.lt
    have hgW : W.heap.size ≤ g ∧ g < w2.heap.size := World.ownsRow.lt H4.out g rfl
    have HWI := Stow.mk (rWith_any m s w2.drew (HMR.out.drew) (by omega) hfi.1)
    have HMI := Stow.mk hm
    clear hadd hsp hm
    go_upto_region 6 with fail
    refine wp_region_held_drew (S := fun X => X.rangeAt b (off + i * 5) m.cells ∧ X.rangeAt w.heap.size 0 s.cells) (by kernel_rfl) ⟨HRA.out, HX.out.range⟩ (fun hHeld => ?_)
    refine wpAnyH_take (i := 0) (v := ?v0) rfl (by kernel_rfl) (by kernel_rfl) (by kernel_rfl) (fun _ _ _ h => h) (Or.inl ⟨by rfl, ?hy0⟩) (by assumption) ?rest0
    case hy0 =>
      intro W hSW
      clear hSW
      go_simp
      try with_reducible rfl
    try simp only [List.getElem_toArray, List.getElem_cons_zero, List.getElem_cons_succ, Act.put, List.setIfInBounds_toArray, List.set_cons_zero, List.set_cons_succ]
    refine wpAnyH_take (i := 1) (v := ?v1) rfl (by kernel_rfl) (by kernel_rfl) (by kernel_rfl) (fun _ _ _ h => h) (Or.inl ⟨by rfl, ?hy1⟩) (by assumption) ?rest1
    case hy1 =>
      intro W hSW
      clear hSW
      go_simp
      try with_reducible rfl
    try simp only [List.getElem_toArray, List.getElem_cons_zero, List.getElem_cons_succ, Act.put, List.setIfInBounds_toArray, List.set_cons_zero, List.set_cons_succ]
    refine wpAnyH_take (i := 2) (v := ?v2) rfl (by kernel_rfl) (by kernel_rfl) (by kernel_rfl) (fun _ _ _ h => h) (Or.inl ⟨by rfl, ?hy2⟩) (by assumption) ?rest2
    case hy2 =>
      intro W hSW
      clear hSW
      go_simp
      try with_reducible rfl
    try simp only [List.getElem_toArray, List.getElem_cons_zero, List.getElem_cons_succ, Act.put, List.setIfInBounds_toArray, List.set_cons_zero, List.set_cons_succ]
    refine wpAnyH_take (i := 3) (v := ?v3) rfl (by kernel_rfl) (by kernel_rfl) (by kernel_rfl) (fun _ _ _ h => h) (Or.inl ⟨by rfl, ?hy3⟩) (by assumption) ?rest3
    case hy3 =>
      intro W hSW
      clear hSW
      go_simp
      try with_reducible rfl
    try simp only [List.getElem_toArray, List.getElem_cons_zero, List.getElem_cons_succ, Act.put, List.setIfInBounds_toArray, List.set_cons_zero, List.set_cons_succ]
    refine wpAnyH_take (i := 4) (v := ?v4) rfl (by kernel_rfl) (by kernel_rfl) (by kernel_rfl) (fun _ _ _ h => h) (Or.inl ⟨by rfl, ?hy4⟩) (by assumption) ?rest4
    case hy4 =>
      intro W hSW
      clear hSW
      go_simp
      try with_reducible rfl
    try simp only [List.getElem_toArray, List.getElem_cons_zero, List.getElem_cons_succ, Act.put, List.setIfInBounds_toArray, List.set_cons_zero, List.set_cons_succ]
    refine wpAnyH_take (i := 5) (v := .agg (m.cells).toArray) rfl (by kernel_rfl) (by kernel_rfl) (by kernel_rfl) (fun _ _ _ h => h) (yieldsIf_load_mid ?yw5 40 (.tmp 27) ?yo5 b (off + i * 5) ?yx5 (m.cells) _ ?ys5 Tryz.underlying40 rfl ?yi5) (by assumption) ?rest5
    case yw5 => rfl
    case yo5 => rfl
    case yx5 => simp [Act.eval]
    case ys5 => exact fun W hW => hW.1
    case yi5 => first | kernel_rfl | (simp only [Fm.cells_len]; kernel_rfl)
    try simp only [List.getElem_toArray, List.getElem_cons_zero, List.getElem_cons_succ, Act.put, List.setIfInBounds_toArray, List.set_cons_zero, List.set_cons_succ]
    refine wpAnyH_take (i := 6) (v := .agg (s.cells).toArray) rfl (by kernel_rfl) (by kernel_rfl) (by kernel_rfl) (fun _ _ _ h => h) (yieldsIf_load_mid ?yw6 64 (.tmp 5) ?yo6 w.heap.size 0 ?yx6 (s.cells) _ ?ys6 Tryz.underlying64 rfl ?yi6) (by assumption) ?rest6
    case yw6 => rfl
    case yo6 => rfl
    case yx6 => simp [Act.eval]
    case ys6 => exact fun W hW => hW.2
    case yi6 => first | kernel_rfl | (simp only [Fm.cells_len]; kernel_rfl)
    try simp only [List.getElem_toArray, List.getElem_cons_zero, List.getElem_cons_succ, Act.put, List.setIfInBounds_toArray, List.set_cons_zero, List.set_cons_succ]
    refine wpAnyH_ready (rs := [7]) (by kernel_rfl) (by simp) ?_
    refine AllReadyH.cons rfl (fun K hK => ?_) AllReadyH.nil
    rw [if_pos (by rfl)]
    go_simp
    refine HWI.out.mono ?_
    rintro e w4 ⟨m', rfl, hk4, hR4, hb4, hA4⟩
    have hb4' : Below w2.heap.size w2 w4 := (Below.drew (Below.self w2)).trans hb4
    have HK4 := Stow.mk hk4
    have HR4 := Stow.mk hR4
    have HRA4 := Stow.mk (show w4.rangeAt b (off + i * 5) m.cells from fun j v hj => by rw [hb4'.cell (p := ⟨b, _, none⟩) hblt]; exact HRA.out j v hj)
    have HX := Stow.mk (HX.out.kept hb4')
    have HB := Stow.mk (HB.out.trans (hb4'.mono HB.out.size))
    have hw24 := hb4'.size
    have H4 := Stow.mk (own_kept H4.out hb4')
    dsimp only
    refine hK.out _ _ ⟨HRA4.out, HX.out.range⟩ (fun hHeld => ?_)
    clear hK K hk4 hR4 hb4 hb4'
    try simp only [List.getElem_toArray, List.getElem_cons_zero, List.getElem_cons_succ, Act.put, List.setIfInBounds_toArray, List.set_cons_zero, List.set_cons_succ]
    refine wpAnyH_take (i := 8) (v := ?v8b) rfl (by kernel_rfl) (by kernel_rfl) (by kernel_rfl) (fun _ _ _ h => h) (Or.inl ⟨by rfl, ?hy8b⟩) (by assumption) ?rest8b
    case hy8b =>
      intro W hSW
      clear hSW
      go_simp
      try with_reducible rfl
    try simp only [List.getElem_toArray, List.getElem_cons_zero, List.getElem_cons_succ, Act.put, List.setIfInBounds_toArray, List.set_cons_zero, List.set_cons_succ]
    refine wpAnyH_ready (rs := [9]) (by kernel_rfl) (by simp) ?_
    refine AllReadyH.cons rfl (fun K hK => ?_) AllReadyH.nil
    rw [if_pos (by rfl)]
    refine wp_store_mid 40 (.tmp 31) (.tmp 30) ?yo6 g (i * 5) m'.cells.toArray ?yx6 ?yy6 ?yt6 ?yi6 (all_oneCell_toArray (Km.one m')) ?yh6
    case yo6 => rfl
    case yx6 => simp [Act.eval]
    case yy6 => rfl
    case yt6 => exact own_there H4.out hi
    case yi6 => rw [List.size_toArray, Km.cells_len]; kernel_rfl
    rw [List.toList_toArray]
    have hO : Only g w4 (w4.setCells g (i * 5) m'.cells) := only_all _ _ _
    have HBE := Stow.mk (HB.out.trans (hO.below (show w.heap.size ≤ g by have := HLT.out; omega) HB.out.size))
    have HX := Stow.mk (HX.out.offO hO (by have := HLT.out; omega))
    have hbg : b < w2.heap.size ∧ b ≠ g := ⟨hblt, by
      obtain ⟨b', off', hAb, hbl, _⟩ := HS0.out.row.open (by simp; omega)
      cases hAb
      have := HLT.out
      omega⟩
    have HRA5 := Stow.mk (show (w4.setCells g (i * 5) m'.cells).rangeAt b (off + i * 5) m.cells from fun j v hj => by
      have hb5 := hO.block b (Nat.lt_of_lt_of_le hbg.1 hw24) (by simpa using hbg.2)
      exact (World.cell?_of_block (a := ⟨b, off + i * 5 + j, none⟩) hb5).trans (HRA4.out j v hj))
    have HE : Stow (KsR (w4.setCells g (i * 5) m'.cells) (some ⟨g, 0, none⟩) c1 (R.take i ++ m' :: R.drop (i + 1))) := ⟨by
      have hm := HMI.out
      have hsp : R = R.take i ++ m :: R.drop (i + 1) := by
        have := map_mid hi
        rwa [hm] at this
      have hrow := own_putAll m'.cells w4 (i * 5) _ H4.out
      have hput : putL (R.flatMap Km.cells) (i * 5) m'.cells = (R.take i ++ m' :: R.drop (i + 1)).flatMap Km.cells := by
        have hl : ((R.take i).flatMap Km.cells).length = i * 5 := by
          rw [List.flatMap_def, List.length_flatten, List.map_map]
          have : (List.length ∘ Km.cells) = fun _ => 5 := rfl
          rw [this, List.map_const', List.sum_replicate_nat, List.length_take, Nat.min_eq_left (by omega)]
        have e1 : R.flatMap Km.cells = (R.take i).flatMap Km.cells ++ (m.cells ++ (R.drop (i + 1)).flatMap Km.cells) := by
          conv => lhs; rw [hsp]
          simp
        rw [e1, ← hl, putL_mid m'.cells _ m.cells _ rfl]
        simp
      rw [hput] at hrow
      have hl : (R.take i ++ m' :: R.drop (i + 1)).length = R.length := by simp; omega
      refine ⟨?_, fun x hx => ?_⟩
      · rw [hl]
        exact own_of_cells (fun _ => rfl) hrow hl.symm
      · rcases List.mem_append.1 hx with hx | hx
        · exact (HS0.out.each x (List.mem_of_mem_take hx)).keep HBE.out
        · rcases List.mem_cons.1 hx with rfl | hx
          · refine slr_only HR4.out hO fun a ha => ?_
            rcases hA4 with h5 | h5
            · have hmR : m ∈ R := hm ▸ List.getElem_mem hi
              have := km_block (HS0.out.each m hmR) hfi.1 a (by rw [← h5]; exact ha)
              have := HLT.out
              omega
            · have := h5 a ha
              simp at this
              omega
          · exact (HS0.out.each x (List.mem_of_mem_drop hx)).keep HBE.out⟩
    have HL : Stow (R.length = (R.take i ++ m' :: R.drop (i + 1)).length) := ⟨by simp; omega⟩
    have HKK : Stow ((R.take i ++ m' :: R.drop (i + 1)).map Km.k = (St.add (R.map Km.k) r s).1) := ⟨by
      rw [HAD.out]
      simp only [List.map_append, List.map_cons, List.map_take, List.map_drop, HK4.out, List.append_assoc, List.cons_append, List.nil_append]
      have hm := HMI.out
      simp [hm]⟩
    have HA2 : Stow ((St.add (R.map Km.k) r s).2 = 0) := ⟨by rw [HAD.out]⟩
    refine hK.out _ _ ⟨HRA5.out, HX.out.range⟩ (fun hHeld => ?_)
    clear hK K hO hbg
    refine wpAnyH_done (by kernel_rfl) ?_ _
    try simp only [List.getElem_toArray, List.getElem_cons_zero, List.getElem_cons_succ, Act.put]
    clear hHeld
    go_wp2_with fail
    go_ret2
    refine ⟨_, _, R.take i ++ m' :: R.drop (i + 1), ?_, HKK.out, HE.out, HBE.out, fun h => by cases h⟩
    rw [← HL.out, HA2.out]
    rfl
  | none =>
    simp only [St.ixInt]
    have HAD := Stow.mk (St.add_none (r := r) HO.out)
    have hneg : ¬ (0 : Int) ≤ -1 := by omega
    obtain ⟨d, hd⟩ : ∃ d, R.length + 1 - St.room r = d := ⟨_, rfl⟩
    have HGONE : Stow ((max 0 ((R.length : Int) + 1 - (St.room r : Int)) : Int) = (d : Int)) := ⟨by omega⟩
    have hdl : d < R.length + 1 := by omega
    have bd := Below.alloc' (Below.self w2) (.cells s.cells.toArray 64)
    have hn := Held.made w2 s.cells 64
    obtain ⟨w3, hw3⟩ : ∃ W, w2.alloc (.cells s.cells.toArray 64) = W := ⟨_, rfl⟩
    rw [hw3] at bd hn
    have HN := Stow.mk hn
    have HW3 := Stow.mk hw3
    have H3 := Stow.mk (own_kept H4.out bd)
    have HB3 := Stow.mk (HB.out.trans (bd.mono HB.out.size))
    have hs3 := Nat.le_trans hWs bd.size
    have b0 := HX.out.cell (i := 0) rfl
    have b1 := HX.out.cell (i := 1) rfl
    have b2 := HX.out.cell (i := 2) rfl
    have b3 := HX.out.cell (i := 3) rfl
    have b4 := HX.out.cell (i := 4) rfl
    have b5 := HX.out.cell (i := 5) rfl
    have b6 := HX.out.cell (i := 6) rfl
    have b7 := HX.out.cell (i := 7) rfl
    have b8 := HX.out.cell (i := 8) rfl
    have b9 := HX.out.cell (i := 9) rfl
    have b10 := HX.out.cell (i := 10) rfl
    have HX1 : Stow (∀ u ∈ (Km.mk (St.one s) (some ⟨w2.heap.size, 0, none⟩) 1).cells, u.oneCell' = true) := ⟨Km.one _⟩
    have hs3' : w3.heap.size = w2.heap.size + 1 := by rw [← hw3]; simp
    unfold Sp.cells at HW3
    unfold St.one Km.cells at HX1
    simp only at HX1
    clear bd hn hw3
    go_upto_region 9 with (at_builtin; rw [HW3.out]; refine wpList_append_elem_form w3 _ _ rfl (.tmp 33) (.tmp 39) 30 rfl W.heap.size 40 _ 5 48 Tryz.underlying30 info_kept _ _ _ H3.out rfl _ rfl hs3'.symm rfl (by decide) rfl HX1.out K.out.2.2.2.2.1 K.out.2.2.2.2.2 hs3 ?_; intro A5 c5 w5 h5 hg5 hb5 hs5; have H5 := Stow.mk h5; have HB5 := Stow.mk hb5; have HG5 := Stow.mk hg5; clear h5 hg5 hb5 hs5)
    clear b0 b1 b2 b3 b4 b5 b6 b7 b8 b9 b10
    have HBE := Stow.mk (HB3.out.trans (HB5.out.mono (Nat.le_of_lt HLT.out)))
    have hn5 : Held w5 w2.heap.size s.cells := by
      have h1 := HN.out.kept (Below.alloc' (Below.self w3) (.cells [Value.int .u64 (s.hi : Int), .int .u64 (s.lo : Int), .slice (some ⟨w2.heap.size, 0, none⟩) 1 1, .bool false, .bool false].toArray 40))
      have hl := h1.lt
      obtain ⟨t5, h1⟩ := h1
      refine ⟨t5, (HG5.out.block w2.heap.size hl ?_).trans h1⟩
      intro e
      have := (World.ownsRow.lt H4.out w2.heap.size (by first | exact e | exact e.symm)).2
      omega
    have HE : Stow (KsR w5 A5 c5 (R ++ [Km.mk (St.one s) (some ⟨w2.heap.size, 0, none⟩) 1])) := ⟨by
      refine ⟨?_, fun x hx => ?_⟩
      · have hrow := H5.out
        have hl : (R ++ [Km.mk (St.one s) (some ⟨w2.heap.size, 0, none⟩) 1]).length = R.length + 1 := by simp
        rw [hl]
        refine own_of_cells (B := W.heap.size) (e := 40) (enc := Km.cells) (L := R ++ [Km.mk (St.one s) (some ⟨w2.heap.size, 0, none⟩) 1]) (fun _ => rfl) ?_ hl.symm
        simp only [List.flatMap_append, List.flatMap_cons, List.flatMap_nil, List.append_nil]
        exact hrow
      · rcases List.mem_append.1 hx with hx | hx
        · exact (HS0.out.each x hx).keep HBE.out
        · obtain rfl : x = Km.mk (St.one s) (some ⟨w2.heap.size, 0, none⟩) 1 := by simpa using hx
          exact ⟨_, 1, rfl, Nat.le_refl _, by unfold maxLen; omega, fun _ => ⟨_, 0, rfl, hn5.lt, fun i x hi j u hu => by
            rcases i with _ | i
            · obtain rfl : s.cells = x := by simpa [St.one] using hi
              rw [Nat.zero_mul, Nat.zero_add]
              exact hn5.cell hu
            · simp [St.one] at hi⟩⟩⟩
    have hA5 : ∃ g, A5 = some ⟨g, 0, none⟩ := by
      obtain ⟨g, c', hv, _⟩ := World.ownsRow.form H5.out (by omega)
      simp only [Value.slice.injEq] at hv
      exact ⟨g, hv.1⟩
    obtain ⟨g5, rfl⟩ := hA5
    have hc5 := HE.out.row.form
    have hcap : R.length + 1 ≤ c5 := by
      obtain ⟨A', cap', hv, h1, h2⟩ := hc5
      simp only [Value.slice.injEq] at hv
      obtain ⟨_, _, rfl⟩ := hv
      simpa using h1
    have HED : Stow (KsR w5 (some ⟨g5, d * 5, none⟩) (c5 - d) ((R ++ [Km.mk (St.one s) (some ⟨w2.heap.size, 0, none⟩) 1]).drop d)) := ⟨by
      obtain ⟨h1, _⟩ := SlR.drop HE.out.row d (by simp; omega)
      rw [Nat.zero_add] at h1
      refine ⟨?_, fun x hx => HE.out.each x (List.mem_of_mem_drop hx)⟩
      rw [List.map_drop, List.length_drop]
      exact h1⟩
    have HL : Stow (((R ++ [Km.mk (St.one s) (some ⟨w2.heap.size, 0, none⟩) 1]).drop d).length = R.length + 1 - d) := ⟨by simp⟩
    have HKK : Stow (((R ++ [Km.mk (St.one s) (some ⟨w2.heap.size, 0, none⟩) 1]).drop d).map Km.k = (St.add (R.map Km.k) r s).1 ∧ (St.add (R.map Km.k) r s).2 = d) := ⟨by
      rw [HAD.out, List.length_map, hd]
      refine ⟨?_, rfl⟩
      rw [List.map_drop, List.map_append]
      rfl⟩
    clear hn5 hc5 HE H5 H4 H3 HN HX hd
    have hd1 : (d : Int) ≤ (R.length : Int) + 1 := by omega
    have hd0 : (0 : Int) ≤ d := by omega
    have hd2 : (R.length : Int) + 1 ≤ c5 := by omega
    go_upto_region 10 with fail
    rw [HGONE.out]
    go_wp2_with fail
    go_ret2
    refine ⟨_, _, (R ++ [Km.mk (St.one s) (some ⟨w2.heap.size, 0, none⟩) 1]).drop d, ?_, HKK.out.1, HED.out, HBE.out, fun h => by cases h⟩
    rw [HKK.out.2, HL.out]
    rfl
end Go.Proofs.YtfbhdkkmcfnghaaGreat
end
