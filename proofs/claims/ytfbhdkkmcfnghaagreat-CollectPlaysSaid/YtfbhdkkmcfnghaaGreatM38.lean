/- Walk of Collector.Kept. Conditions: the collector's memory.; Walks of the reference's at, Get, Traces, with. Conditions: memory of traces; lists not longer than a thousand. -/
import Derived.Test.YtfbhdkkmcfnghaaGreatM37
import Derived.BigQuiet

section
namespace Go.Proofs.YtfbhdkkmcfnghaaGreat
open Go.RowKit
set_option linter.unusedVariables false
set_option linter.unusedSimpArgs false

theorem coKept_results (W : World) (g : Nat) (a b c d e f : Value) (tmps : Array Value) (hH : Held W g [a, b, c, d, e]) (h2 : tmps[4]?.getD undef = .pointer (some ⟨g, 0, none⟩)) (h3 : tmps[5]?.getD undef = f) :
    (results Tryz.f10 tmps).run Tryz.prog W = .ok (.tuple #[.agg #[a, b, c, d, e], f]) W := by
  have c0 := hH.cell (i := 0) rfl
  have c1 := hH.cell (i := 1) rfl
  have c2 := hH.cell (i := 2) rfl
  have c3 := hH.cell (i := 3) rfl
  have c4 := hH.cell (i := 4) rfl
  simp [results, Tryz.results10, go_sem, h2, h3, c0, c1, c2, c3, c4]
/-- A row of spans does not lie in a block with few unsigned numbers. -/
theorem slr_turnU2 {w w' : World} {g n cap : Nat} {cs : List Value} {A : Option Addr} {L : List Sp} (hH : Held w g cs) (hn : NoU (cs.drop 2)) (h : SlR w 11 (.slice A n cap) (L.map Sp.cells)) (ht : Turn (· = g) w w') : SlR w' 11 (.slice A n cap) (L.map Sp.cells) := by
  by_cases hL : L = []
  · subst hL
    obtain ⟨A', cap', hv, h1, h2, h3⟩ := h
    exact ⟨A', cap', hv, h1, h2, fun hne => absurd rfl hne⟩
  · refine slrTurn h ht (fun ad had heq => ?_)
    obtain ⟨A', cap', hv, _, _, h3⟩ := h
    simp only [Value.slice.injEq] at hv
    obtain ⟨rfl, rfl, rfl⟩ := hv
    obtain ⟨b, off, hA, hlt, hc⟩ := h3 (by simpa using hL)
    rw [had] at hA
    obtain rfl := Option.some.inj hA
    simp only at heq
    subst heq
    obtain ⟨x, t, rfl⟩ := List.exists_cons_of_ne_nil hL
    have h1 := hc 0 x.cells rfl 2 _ rfl
    obtain ⟨t', hg⟩ := hH
    rw [cell_of_row w b _ _ t' (0, 0) hg] at h1
    have h2 : (cs.drop 2)[off]? = some (.int .u64 (x.id : Int)) := by
      rw [List.getElem?_drop]
      have : 2 + off = off + 0 * 11 + 2 := by omega
      rw [this]
      simpa using h1
    exact hn _ (List.mem_of_getElem? h2)
/-- A trace that is given, in new memory. -/
def KeptOutN (k : Kp × Bool) (w : World) (e : Ending) (w' : World) : Prop := ∃ m' : Km, e = .returned (.tuple #[.agg m'.cells.toArray, .bool k.2]) ∧ m'.k = k.1 ∧ KmR w' m' ∧ Below w.heap.size w w' ∧ ∀ a, m'.A = some a → w.heap.size ≤ a.block
/-- A trace that is given. -/
def KeptOut (k : Kp × Bool) (w : World) (e : Ending) (w' : World) : Prop := ∃ m' : Km, e = .returned (.tuple #[.agg m'.cells.toArray, .bool k.2]) ∧ m'.k = k.1 ∧ KmR w' m' ∧ Below w.heap.size w w'
set_option maxHeartbeats 4000000 in
set_option maxRecDepth 100000 in
theorem coKept_nil (hi lo : Nat) (w : World) : Calls Tryz.prog 10 #[.pointer none, .agg #[.int .u64 (hi : Int), .int .u64 (lo : Int)]] w (KeptOut (St.none_, false) w) := by
  have ba := Below.alloc' (Below.self w) (.cells #[.int .u64 (hi : Int), .int .u64 (lo : Int)] 25)
  have bz := Below.alloc' (Below.self (w.alloc (.cells #[.int .u64 (hi : Int), .int .u64 (lo : Int)] 25))) (.cells #[.int .u64 0, .int .u64 0, .slice none 0 0, .bool false, .bool false] 40)
  have h2 := Held.made (w.alloc (.cells #[.int .u64 (hi : Int), .int .u64 (lo : Int)] 25)) [.int .u64 0, .int .u64 0, .slice none 0 0, .bool false, .bool false] 40
  have hb := Below.call ba bz
  obtain ⟨W, hW⟩ : ∃ W, (w.alloc (.cells #[.int .u64 (hi : Int), .int .u64 (lo : Int)] 25)).alloc (.cells #[.int .u64 0, .int .u64 0, .slice none 0 0, .bool false, .bool false] 40) = W := ⟨_, rfl⟩
  rw [show (w.alloc (.cells #[.int .u64 (hi : Int), .int .u64 (lo : Int)] 25)).alloc (.cells [.int .u64 0, .int .u64 0, .slice none 0 0, .bool false, .bool false].toArray 40) = W from hW] at h2
  rw [hW] at hb
  simp only [World.size_alloc] at h2
  have H2 := Stow.mk h2
  have H3 := Stow.mk (h2.over [.int .u64 0, .int .u64 0, .slice none 0 0, .bool false, .bool false] rfl)
  have hO : Only (w.heap.size + 1) W (W.setCells (w.heap.size + 1) 0 [.int .u64 0, .int .u64 0, .slice none 0 0, .bool false, .bool false]) := only_all _ _ _
  have HB3 := Stow.mk (hb.trans (hO.below (Nat.le_succ _) hb.size))
  have HW := Stow.mk hW
  clear ba bz h2 hb hW hO
  go_enter Tryz.func10, Tryz.ntmps10
  go_upto_region 1 with fail
  generalize hX : World.alloc (World.alloc w _) _ = X
  obtain rfl : W = X := HW.out.symm.trans hX
  clear hX HW
  have f0 := H2.out.free 0
  have f1 := H2.out.free 1
  have f2 := H2.out.free 2
  have f3 := H2.out.free 3
  have f4 := H2.out.free 4
  have c0 := H2.out.cell (i := 0) rfl
  have c1 := H2.out.cell (i := 1) rfl
  have c2 := H2.out.cell (i := 2) rfl
  have c3 := H2.out.cell (i := 3) rfl
  have c4 := H2.out.cell (i := 4) rfl
  go_wp2_with fail
  refine bodyPost_ret (coKept_results _ (w.heap.size + 1) _ _ _ _ _ _ _ H3.out rfl rfl) rfl ?_
  exact ⟨⟨St.none_, none, 0⟩, rfl, rfl, SlR.nil _ _, HB3.out⟩
set_option maxHeartbeats 4000000 in
set_option maxRecDepth 100000 in
theorem coKeptN_any {w : World} {P : Nat → Prop} {g m : Nat} {c : Co} (h : CoM w P g c) (hc : c.Ok m) (hi lo : Nat) : Calls Tryz.prog 10 #[.pointer (some ⟨g, 0, none⟩), .agg #[.int .u64 (hi : Int), .int .u64 (lo : Int)]] w (KeptOutN (St.get c.K hi lo) w) := by
  obtain ⟨v, W0, A, cap, R, h⟩ := h
  have hfw := h.row.few hc
  have hkk := h.row.kk
  have ba := Below.alloc' (Below.self w) (.cells #[.int .u64 (hi : Int), .int .u64 (lo : Int)] 25)
  have bz := Below.alloc' (Below.self (w.alloc (.cells #[.int .u64 (hi : Int), .int .u64 (lo : Int)] 25))) (.cells #[.int .u64 0, .int .u64 0, .slice none 0 0, .bool false, .bool false] 40)
  have h1 := (Held.made w [.int .u64 (hi : Int), .int .u64 (lo : Int)] 25).kept bz
  have h2 := Held.made (w.alloc (.cells #[.int .u64 (hi : Int), .int .u64 (lo : Int)] 25)) [.int .u64 0, .int .u64 0, .slice none 0 0, .bool false, .bool false] 40
  have hb := Below.call ba bz
  obtain ⟨W, hW⟩ : ∃ W, (w.alloc (.cells #[.int .u64 (hi : Int), .int .u64 (lo : Int)] 25)).alloc (.cells #[.int .u64 0, .int .u64 0, .slice none 0 0, .bool false, .bool false] 40) = W := ⟨_, rfl⟩
  rw [show (w.alloc (.cells #[.int .u64 (hi : Int), .int .u64 (lo : Int)] 25)).alloc (.cells [.int .u64 0, .int .u64 0, .slice none 0 0, .bool false, .bool false].toArray 40) = W from hW] at h2
  rw [show (w.alloc (.cells [.int .u64 (hi : Int), .int .u64 (lo : Int)].toArray 25)).alloc (.cells #[.int .u64 0, .int .u64 0, .slice none 0 0, .bool false, .bool false] 40) = W from hW] at h1
  rw [hW] at hb
  simp only [World.size_alloc] at h2
  have H1 := Stow.mk h1
  have H2 := Stow.mk h2
  have HB := Stow.mk hb
  have HW := Stow.mk hW
  have HG := Stow.mk (h.keep hb).head
  have hG := stGet_any A cap R hi lo W.drew (h.keep (hb.trans ((Below.drew (Below.self W)).mono hb.size))).row.ks (by omega) (fun m hm => by have := (hfw.2 m hm).1; omega)
  rw [hkk] at hG
  have HGT := Stow.mk hG
  have hgl := h.head.lt
  obtain ⟨k, hk⟩ : ∃ k, St.get c.K hi lo = k := ⟨_, rfl⟩
  rw [hk] at HGT ⊢
  clear ba bz h1 h2 hb hW h hG hk hkk hfw
  go_enter Tryz.func10, Tryz.ntmps10
  go_upto_region 1 with fail
  generalize hX : World.alloc (World.alloc w _) _ = X
  obtain rfl : W = X := HW.out.symm.trans hX
  clear hX HW
  have hWs := HB.out.size
  go_upto_region 3 with fail
  refine wp_region_held_drew (S := fun X => X.cell? ⟨g, 2, none⟩ = some (.slice A R.length cap) ∧ X.rangeAt w.heap.size 0 [.int .u64 (hi : Int), .int .u64 (lo : Int)]) (by kernel_rfl) ⟨HG.out.cell (i := 2) rfl, H1.out.range⟩ (fun hHeld => ?_)
  refine wpAnyH_take (i := 0) (v := ?v0) rfl (by kernel_rfl) (by kernel_rfl) (by kernel_rfl) (fun _ _ _ h => h) (Or.inl ⟨by rfl, ?hy0⟩) (by assumption) ?rest0
  case hy0 =>
    intro W hSW
    try dsimp only at hSW
    obtain ⟨hs0, hs1⟩ := hSW
    go_simp
    try with_reducible rfl
  try simp only [List.getElem_toArray, List.getElem_cons_zero, List.getElem_cons_succ, Act.put, List.setIfInBounds_toArray, List.set_cons_zero, List.set_cons_succ]
  refine wpAnyH_take (i := 1) (v := ?v1) rfl (by kernel_rfl) (by kernel_rfl) (by kernel_rfl) (fun _ _ _ h => h) (Or.inl ⟨by rfl, ?hy1⟩) (by assumption) ?rest1
  case hy1 =>
    intro W hSW
    try dsimp only at hSW
    obtain ⟨hs0, hs1⟩ := hSW
    go_simp
    try with_reducible rfl
  try simp only [List.getElem_toArray, List.getElem_cons_zero, List.getElem_cons_succ, Act.put, List.setIfInBounds_toArray, List.set_cons_zero, List.set_cons_succ]
  refine wpAnyH_take (i := 2) (v := ?v2) rfl (by kernel_rfl) (by kernel_rfl) (by kernel_rfl) (fun _ _ _ h => h) (Or.inl ⟨by rfl, ?hy2⟩) (by assumption) ?rest2
  case hy2 =>
    intro W hSW
    try dsimp only at hSW
    obtain ⟨hs0, hs1⟩ := hSW
    go_simp
    try with_reducible rfl
  try simp only [List.getElem_toArray, List.getElem_cons_zero, List.getElem_cons_succ, Act.put, List.setIfInBounds_toArray, List.set_cons_zero, List.set_cons_succ]
  refine wpAnyH_take (i := 3) (v := ?v3) rfl (by kernel_rfl) (by kernel_rfl) (by kernel_rfl) (fun _ _ _ h => h) (Or.inl ⟨by rfl, ?hy3⟩) (by assumption) ?rest3
  case hy3 =>
    intro W hSW
    try dsimp only at hSW
    obtain ⟨hs0, hs1⟩ := hSW
    go_simp
    try with_reducible rfl
  try simp only [List.getElem_toArray, List.getElem_cons_zero, List.getElem_cons_succ, Act.put, List.setIfInBounds_toArray, List.set_cons_zero, List.set_cons_succ]
  refine wpAnyH_take (i := 4) (v := .agg ([Value.int .u64 (hi : Int), .int .u64 (lo : Int)]).toArray) rfl (by kernel_rfl) (by kernel_rfl) (by kernel_rfl) (fun _ _ _ h => h) (yieldsIf_load_mid ?yw4 25 (.tmp 3) ?yo4 w.heap.size 0 ?yx4 ([Value.int .u64 (hi : Int), .int .u64 (lo : Int)]) _ ?ys4 Tryz.underlying25 rfl ?yi4) (by assumption) ?rest4
  case yw4 => rfl
  case yo4 => rfl
  case yx4 => simp [Act.eval]
  case ys4 => exact fun W hW => hW.2
  case yi4 => first | kernel_rfl | (simp only [Fm.cells_len]; kernel_rfl)
  try simp only [List.getElem_toArray, List.getElem_cons_zero, List.getElem_cons_succ, Act.put, List.setIfInBounds_toArray, List.set_cons_zero, List.set_cons_succ]
  refine wpAnyH_ready (rs := [5]) (by kernel_rfl) (by simp) ?_
  refine AllReadyH.cons rfl (fun K hK => ?_) AllReadyH.nil
  rw [if_pos (by rfl)]
  go_simp
  refine HGT.out.mono ?_
  rintro e w4 ⟨m', rfl, hk', hR', hb4, hn4⟩
  have HNW := Stow.mk (show ∀ a, m'.A = some a → w.heap.size ≤ a.block from fun a ha => Nat.le_trans hWs (hn4 a ha))
  have hb4' : Below W.heap.size W w4 := (Below.drew (Below.self W)).trans hb4
  have HG := Stow.mk (HG.out.kept hb4')
  have H1 := Stow.mk (H1.out.kept hb4')
  have H2 := Stow.mk (H2.out.kept hb4')
  have HB := Stow.mk (HB.out.trans (hb4'.mono HB.out.size))
  have HXR := Stow.mk hR'
  have HXC := Stow.mk hk'
  dsimp only
  refine hK.out _ _ ⟨HG.out.cell (i := 2) rfl, H1.out.range⟩ (fun hHeld => ?_)
  clear hK K hR' hk' hb4 hb4' hn4
  try simp only [List.getElem_toArray, List.getElem_cons_zero, List.getElem_cons_succ, Act.put, List.setIfInBounds_toArray, List.set_cons_zero, List.set_cons_succ]
  refine wpAnyH_take (i := 6) (v := ?v6b) rfl (by kernel_rfl) (by kernel_rfl) (by kernel_rfl) (fun _ _ _ h => h) (Or.inl ⟨by rfl, ?hy6b⟩) (by assumption) ?rest6b
  case hy6b =>
    intro W hSW
    clear hSW
    go_simp
    try with_reducible rfl
  try simp only [List.getElem_toArray, List.getElem_cons_zero, List.getElem_cons_succ, Act.put, List.setIfInBounds_toArray, List.set_cons_zero, List.set_cons_succ]
  refine wpAnyH_take (i := 7) (v := ?v7b) rfl (by kernel_rfl) (by kernel_rfl) (by kernel_rfl) (fun _ _ _ h => h) (Or.inl ⟨by rfl, ?hy7b⟩) (by assumption) ?rest7b
  case hy7b =>
    intro W hSW
    clear hSW
    go_simp
    try with_reducible rfl
  try simp only [List.getElem_toArray, List.getElem_cons_zero, List.getElem_cons_succ, Act.put, List.setIfInBounds_toArray, List.set_cons_zero, List.set_cons_succ]
  refine wpAnyH_ready (rs := [8]) (by kernel_rfl) (by simp) ?_
  refine AllReadyH.cons rfl (fun K hK => ?_) AllReadyH.nil
  rw [if_pos (by rfl)]
  refine wp_store_mid 40 (.tmp 4) (.tmp 15) ?yo6 (w.heap.size + 1) 0 m'.cells.toArray ?yx6 ?yy6 ?yt6 ?yi6 (all_oneCell_toArray (Km.one m')) ?yh6
  case yo6 => rfl
  case yx6 => simp [Act.eval]
  case yy6 => rfl
  case yt6 => exact H2.out.there
  case yi6 => rw [List.size_toArray, Km.cells_len]; kernel_rfl
  rw [List.toList_toArray]
  have H3 := Stow.mk (H2.out.over m'.cells rfl)
  have hO : Only (w.heap.size + 1) w4 (w4.setCells (w.heap.size + 1) 0 m'.cells) := only_all _ _ _
  have HB3 := Stow.mk (HB.out.trans (hO.below (Nat.le_succ _) HB.out.size))
  have HR := Stow.mk (show KmR _ m' from slr_turnU2 H2.out (by intro k hk; simp at hk) HXR.out (Turn.of_grown hO (.inl rfl)))
  have HG := Stow.mk (HG.out.offO hO (by omega))
  have H1 := Stow.mk (H1.out.offO hO (by omega))
  refine hK.out _ _ ⟨HG.out.cell (i := 2) rfl, H1.out.range⟩ (fun hHeld => ?_)
  clear hK K hO
  try simp only [List.getElem_toArray, List.getElem_cons_zero, List.getElem_cons_succ, Act.put, List.setIfInBounds_toArray, List.set_cons_zero, List.set_cons_succ]
  refine wpAnyH_take (i := 9) (v := ?v9c) rfl (by kernel_rfl) (by kernel_rfl) (by kernel_rfl) (fun _ _ _ h => h) (Or.inl ⟨by rfl, ?hy9c⟩) (by assumption) ?rest9c
  case hy9c =>
    intro W hSW
    clear hSW
    go_simp
    try with_reducible rfl
  try simp only [List.getElem_toArray, List.getElem_cons_zero, List.getElem_cons_succ, Act.put, List.setIfInBounds_toArray, List.set_cons_zero, List.set_cons_succ]
  refine wpAnyH_done (by kernel_rfl) ?_ _
  try simp only [List.getElem_toArray, List.getElem_cons_zero, List.getElem_cons_succ, Act.put]
  clear hHeld
  go_wp2_with fail
  obtain ⟨⟨mh, ml, mL, mx, mc⟩, mA, mcap⟩ := m'
  have H4 := Stow.mk (show Held _ (w.heap.size + 1) [.int .u64 (mh : Int), .int .u64 (ml : Int), .slice mA mL.length mcap, .bool mx, .bool mc] from H3.out)
  refine bodyPost_ret (coKept_results _ (w.heap.size + 1) _ _ _ _ _ _ _ H4.out rfl rfl) rfl ?_
  exact ⟨⟨⟨mh, ml, mL, mx, mc⟩, mA, mcap⟩, rfl, HXC.out, HR.out, HB3.out, HNW.out⟩
theorem coKept_any {w : World} {P : Nat → Prop} {g m : Nat} {c : Co} (h : CoM w P g c) (hc : c.Ok m) (hi lo : Nat) : Calls Tryz.prog 10 #[.pointer (some ⟨g, 0, none⟩), .agg #[.int .u64 (hi : Int), .int .u64 (lo : Int)]] w (KeptOut (St.get c.K hi lo) w) :=
  (coKeptN_any h hc hi lo).mono fun _ _ ⟨m', a, b, c, d, _⟩ => ⟨m', a, b, c, d⟩
end Go.Proofs.YtfbhdkkmcfnghaaGreat
end

section
namespace Go.Proofs.YtfbhdkkmcfnghaaGreat
open Go.RowKit
set_option linter.unusedVariables false
set_option linter.unusedSimpArgs false

theorem km_first {b off i : Nat} {m : Km} {w : World} (h : w.rangeAt b (off + i * 5) m.cells) : w.cell? ⟨b, off + i * 5, none⟩ = some (.int .u64 (m.k.hi : Int)) ∧ w.cell? ⟨b, off + i * 5 + 1, none⟩ = some (.int .u64 (m.k.lo : Int)) := ⟨by have := h 0 _ rfl; simpa using this, h 1 _ rfl⟩
set_option maxHeartbeats 2000000 in
set_option maxRecDepth 100000 in
theorem rAt_any (hi lo : Nat) (A : Option Addr) (cap : Nat) (R : List Km) (w : World) (hS : SlR w 5 (.slice A R.length cap) (R.map Km.cells)) (hn : R.length ≤ 1000) :
    Calls Tryz.prog 35 #[.slice A R.length cap, .agg #[.int .u64 (hi : Int), .int .u64 (lo : Int)]] w fun e w' => e = .returned (.int .i64 (St.ixInt (St.at_ (R.map Km.k) hi lo))) ∧ Below w.heap.size w w' := by
  have ba := Below.alloc' (Below.self w) (.cells #[.int .u64 (hi : Int), .int .u64 (lo : Int)] 25)
  have hk := Held.made w [.int .u64 (hi : Int), .int .u64 (lo : Int)] 25
  have HS := Stow.mk (SlR.keep hS ba)
  obtain ⟨W, hW⟩ : ∃ W, w.alloc (.cells #[.int .u64 (hi : Int), .int .u64 (lo : Int)] 25) = W := ⟨_, rfl⟩
  rw [show w.alloc (.cells [.int .u64 (hi : Int), .int .u64 (lo : Int)].toArray 25) = W from hW] at hk
  rw [hW] at ba HS
  have HB := Stow.mk ba
  have HW := Stow.mk hW
  have HX := Stow.mk hk
  clear ba hk hW hS
  go_enter Tryz.func35, Tryz.ntmps35
  go_upto_region 1 with fail
  generalize hX : World.alloc w _ = X
  obtain rfl : W = X := HW.out.symm.trans hX
  clear hX HW
  go_wp2_with fail
  go_loopw [5] (fun u wr => ∃ i : Nat, u = .int .i64 (i : Int) ∧ i ≤ R.length ∧ Stow (∀ j (hj : j < R.length), j < i → St.is_ hi lo R[j].k = false) ∧ Stow (Below W.heap.size W wr)) (fun u _ => R.length - (intOf u).toNat)
  case atStart => exact ⟨0, rfl, by omega, ⟨fun j _ h => by omega⟩, ⟨Below.self _⟩⟩
  case round =>
    obtain ⟨i, rfl, hi', HN, HBR⟩ := hrel
    by_cases hlt : i < R.length
    · obtain ⟨b, off, rfl, hblt, _⟩ := HS.out.open (by simp; omega)
      have hra := (km_at (HS.out.keep HBR.out) hlt).2
      obtain ⟨m, hm⟩ : ∃ m, R[i] = m := ⟨_, rfl⟩
      rw [hm] at hra
      obtain ⟨q0, q1⟩ := km_first hra
      have hbx := HX.out.kept HBR.out
      have d0 := hbx.cell (i := 0) rfl
      have d1 := hbx.cell (i := 1) rfl
      have hii : (i : Int) < R.length := by omega
      have hi0 : (0 : Int) ≤ i := by omega
      have he := eql_tr m.k.hi m.k.lo hi lo
      obtain ⟨r, hr⟩ : ∃ r, (m.k.hi == hi && m.k.lo == lo) = r := ⟨_, rfl⟩
      rw [hr] at he
      have HPS : Stow (St.is_ hi lo (R[i]'hlt).k = r) := ⟨by rw [hm]; exact hr⟩
      clear hra hbx hr hm
      cases r
      · go_wp2_with fail
        go_quiet (fail)
        go_wp2_with fail
        exact ⟨⟨i + 1, rfl, by omega, ⟨fun j hj hji => by
          by_cases h : j < i
          · exact HN.out j hj h
          · obtain rfl : j = i := by omega
            exact HPS.out⟩, ⟨Below.drewN' HBR.out _⟩⟩, by simp [intOf]; omega⟩
      · go_wp2_with fail
        go_quiet (fail)
        go_wp2_with fail
        go_ret
        refine ⟨?_, Below.drewN' (HB.out.trans (HBR.out.mono HB.out.size)) _⟩
        rw [show St.at_ (R.map Km.k) hi lo = some i from St.find_some (by simpa using hlt) (by simpa using HPS.out) (fun j hj => by simpa using HN.out j (by omega) hj)]
        rfl
    · obtain rfl : i = R.length := by omega
      go_wp2_with fail
      go_ret
      refine ⟨?_, HB.out.trans (HBR.out.mono HB.out.size)⟩
      have hno : St.at_ (R.map Km.k) hi lo = none := by
        refine St.find_none (fun j hj => ?_)
        have hj' : j < R.length := by simpa using hj
        simpa using HN.out j hj' hj'
      rw [hno]
      rfl
theorem rGet_results (W : World) (g : Nat) (a b c d e f : Value) (tmps : Array Value) (hH : Held W g [a, b, c, d, e]) (h2 : tmps[4]?.getD undef = .pointer (some ⟨g, 0, none⟩)) (h3 : tmps[5]?.getD undef = f) :
    (results Tryz.f11 tmps).run Tryz.prog W = .ok (.tuple #[.agg #[a, b, c, d, e], f]) W := by
  have c0 := hH.cell (i := 0) rfl
  have c1 := hH.cell (i := 1) rfl
  have c2 := hH.cell (i := 2) rfl
  have c3 := hH.cell (i := 3) rfl
  have c4 := hH.cell (i := 4) rfl
  simp [results, Tryz.results11, go_sem, h2, h3, c0, c1, c2, c3, c4]
set_option maxHeartbeats 4000000 in
set_option maxRecDepth 100000 in
theorem rGet_any (A : Option Addr) (cap : Nat) (R : List Km) (hi lo : Nat) (w : World) (h : KsR w A cap R) (hn : R.length ≤ 1000) :
    Calls Tryz.prog 11 #[.slice A R.length cap, .agg #[.int .u64 (hi : Int), .int .u64 (lo : Int)]] w (KeptOut (St.get (R.map Km.k) hi lo) w) := by
  have ba := Below.alloc' (Below.self w) (.cells #[.int .u64 (hi : Int), .int .u64 (lo : Int)] 25)
  have bz := Below.alloc' (Below.self (w.alloc (.cells #[.int .u64 (hi : Int), .int .u64 (lo : Int)] 25))) (.cells #[.int .u64 0, .int .u64 0, .slice none 0 0, .bool false, .bool false] 40)
  have h1 := (Held.made w [.int .u64 (hi : Int), .int .u64 (lo : Int)] 25).kept bz
  have h2 := Held.made (w.alloc (.cells #[.int .u64 (hi : Int), .int .u64 (lo : Int)] 25)) [.int .u64 0, .int .u64 0, .slice none 0 0, .bool false, .bool false] 40
  have hb := Below.call ba bz
  obtain ⟨W, hW⟩ : ∃ W, (w.alloc (.cells #[.int .u64 (hi : Int), .int .u64 (lo : Int)] 25)).alloc (.cells #[.int .u64 0, .int .u64 0, .slice none 0 0, .bool false, .bool false] 40) = W := ⟨_, rfl⟩
  rw [show (w.alloc (.cells #[.int .u64 (hi : Int), .int .u64 (lo : Int)] 25)).alloc (.cells [.int .u64 0, .int .u64 0, .slice none 0 0, .bool false, .bool false].toArray 40) = W from hW] at h2
  rw [show (w.alloc (.cells [.int .u64 (hi : Int), .int .u64 (lo : Int)].toArray 25)).alloc (.cells #[.int .u64 0, .int .u64 0, .slice none 0 0, .bool false, .bool false] 40) = W from hW] at h1
  rw [hW] at hb
  simp only [World.size_alloc] at h2
  have H1 := Stow.mk h1
  have H2 := Stow.mk h2
  have HB := Stow.mk hb
  have HW := Stow.mk hW
  have HS := Stow.mk (h.keep hb)
  have c0 := H1.out.cell (i := 0) rfl
  have c1 := H1.out.cell (i := 1) rfl
  obtain ⟨o, ho⟩ : ∃ o, St.at_ (R.map Km.k) hi lo = o := ⟨_, rfl⟩
  have hfd := rAt_any hi lo A cap R W HS.out.row hn
  rw [ho] at hfd
  have HFD := Stow.mk hfd
  have HO := Stow.mk ho
  unfold St.get
  rw [ho]
  clear ba bz h1 h2 hb hW h hfd ho
  go_enter Tryz.func11, Tryz.ntmps11
  go_upto_region 1 with fail
  generalize hX : World.alloc (World.alloc w _) _ = X
  obtain rfl : W = X := HW.out.symm.trans hX
  clear hX HW
  go_wp2_with fail
  refine HFD.out.mono ?_
  rintro e w1 ⟨rfl, hb1⟩
  have HB := Stow.mk (HB.out.trans (hb1.mono HB.out.size))
  have HS := Stow.mk (HS.out.keep hb1)
  have H2 := Stow.mk (H2.out.kept hb1)
  have HL1 := Stow.mk H2.out.lt
  clear c0 c1 hb1
  have H2T := Stow.mk H2.out.there
  cases o with
  | none =>
    simp only [St.ixInt]
    have hneg : (-1 : Int) < 0 := by omega
    have H3 := Stow.mk (H2.out.over [.int .u64 0, .int .u64 0, .slice none 0 0, .bool false, .bool false] rfl)
    have hO : Only (w.heap.size + 1) w1 (w1.setCells (w.heap.size + 1) 0 [.int .u64 0, .int .u64 0, .slice none 0 0, .bool false, .bool false]) := only_all _ _ _
    have HB3 := Stow.mk (HB.out.trans (hO.below (Nat.le_succ _) HB.out.size))
    have f0 := H2.out.free 0
    have f1 := H2.out.free 1
    have f2 := H2.out.free 2
    have f3 := H2.out.free 3
    have f4 := H2.out.free 4
    have c0 := H2.out.cell (i := 0) rfl
    have c1 := H2.out.cell (i := 1) rfl
    have c2 := H2.out.cell (i := 2) rfl
    have c3 := H2.out.cell (i := 3) rfl
    have c4 := H2.out.cell (i := 4) rfl
    clear hO
    go_wp2_with fail
    refine bodyPost_ret (rGet_results _ (w.heap.size + 1) _ _ _ _ _ _ _ H3.out rfl rfl) rfl ?_
    exact ⟨⟨St.none_, none, 0⟩, rfl, rfl, SlR.nil _ _, HB3.out⟩
  | some i =>
    simp only [St.ixInt]
    obtain ⟨hi0, -⟩ := St.find_at HO.out
    rw [List.length_map] at hi0
    obtain ⟨b, off, rfl, hblt, _⟩ := HS.out.row.open (by simp; omega)
    have HRA := Stow.mk (km_at HS.out.row hi0).2
    have hmr := HS.out.each _ (List.getElem_mem hi0)
    have HGD : Stow ((R.map Km.k).getD i St.none_ = R[i].k) := ⟨by simp [hi0]⟩
    obtain ⟨m, hm⟩ : ∃ m, R[i] = m := ⟨_, rfl⟩
    rw [hm] at HRA HGD hmr
    have HMK : Stow (m.k = R[i].k) := ⟨by rw [hm]⟩
    have hneg : ¬ (i : Int) < 0 := by omega
    have hii : (0 : Int) ≤ i := by omega
    have hil : (i : Int) < R.length := by omega
    have H3 := Stow.mk (H2.out.over m.cells rfl)
    have hO : Only (w.heap.size + 1) w1 (w1.setCells (w.heap.size + 1) 0 m.cells) := only_all _ _ _
    have HB3 := Stow.mk (HB.out.trans (hO.below (Nat.le_succ _) HB.out.size))
    have HR := Stow.mk (show KmR _ m from slr_turnU2 H2.out (by intro k hk; simp at hk) hmr (Turn.of_grown hO (.inl rfl)))
    have H2T := Stow.mk (show w1.there (w.heap.size + 1) 0 m.cells.length from H2.out.there)
    clear hm hmr hO
    go_wp2_with (first
      | (refine wpList_load_mid rfl 40 (.tmp 15) rfl b (off + i * 5) rfl m.cells _ HRA.out Tryz.underlying40 rfl (by rw [Km.cells_len]; kernel_rfl) ?_)
      | (refine wpList_store_hx rfl 40 (.tmp 4) (.tmp 16) rfl rfl (w.heap.size + 1) 0 m.cells rfl rfl H2T.out (by rw [Km.cells_len]; kernel_rfl) (Km.one m) ?_))
    obtain ⟨⟨mh, ml, mL, mx, mc⟩, mA, mcap⟩ := m
    have H4 := Stow.mk (show Held _ (w.heap.size + 1) [.int .u64 (mh : Int), .int .u64 (ml : Int), .slice mA mL.length mcap, .bool mx, .bool mc] from H3.out)
    refine bodyPost_ret (rGet_results _ (w.heap.size + 1) _ _ _ _ _ _ _ H4.out rfl rfl) rfl ?_
    exact ⟨⟨⟨mh, ml, mL, mx, mc⟩, mA, mcap⟩, rfl, by first | exact HMK.out | exact HGD.out.symm, HR.out, HB3.out⟩
set_option maxHeartbeats 4000000 in
set_option maxRecDepth 100000 in
theorem rTraces_any (A : Option Addr) (cap : Nat) (R : List Km) (w : World) (h : KsR w A cap R) (hn : R.length ≤ 1000) :
    Calls Tryz.prog 36 #[.slice A R.length cap] w fun e w' => ∃ A' cap', e = .returned (.slice A' R.length cap') ∧ TrR w' A' cap' R ∧ Below w.heap.size w w' := by
  have HS := Stow.mk h
  clear h
  have HX1 : Stow (∀ m : Km, ∀ u ∈ m.tr, u.oneCell' = true) := ⟨by intro m u hu; simp [Km.tr] at hu; rcases hu with rfl | rfl <;> rfl⟩
  go_enter Tryz.func36, Tryz.ntmps36
  go_wp2_with fail
  go_loopw [3, 4] (fun o u wr => ∃ i : Nat, u = .int .i64 (i : Int) ∧ i ≤ R.length ∧ Stow (wr.ownsRow w.heap.size 25 2 o i ((R.take i).flatMap Km.tr)) ∧ Stow (Below w.heap.size w wr)) (fun _ u _ => R.length - (intOf u).toNat)
  case atStart => exact ⟨0, rfl, by omega, ⟨World.ownsRow_nil _ _ _ _⟩, ⟨Below.self _⟩⟩
  case round =>
    obtain ⟨i, rfl, hi, HO, HB⟩ := hrel
    obtain ⟨Ao, co, rfl⟩ := own_form HO.out
    by_cases hlt : i < R.length
    · obtain ⟨b, off, rfl, hblt, _⟩ := HS.out.row.open (by simp; omega)
      have hra := (km_at (SlR.keep HS.out.row HB.out) hlt).2
      obtain ⟨y, hy⟩ : ∃ y, R[i] = y := ⟨_, rfl⟩
      have HNX : Stow ((R.take (i + 1)).flatMap Km.tr = (R.take i).flatMap Km.tr ++ y.tr) := ⟨by rw [List.take_succ_eq_append_getElem hlt, hy]; simp⟩
      rw [hy] at hra
      obtain ⟨q0, q1⟩ := km_first hra
      have hii : (i : Int) < R.length := by omega
      have hi0 : (0 : Int) ≤ i := by omega
      have K8 : Stow ((i + 1) * 16 ≤ 140737488355328 ∧ i + 1 ≤ maxLen) := ⟨by omega, by unfold maxLen; omega⟩
      have HXY := Stow.mk (HX1.out y)
      unfold Km.tr at HXY HNX
      clear hy hra
      go_wp2_with (at_builtin; refine wpList_append_elem_form wr [.int .u64 (y.k.hi : Int), .int .u64 (y.k.lo : Int)] _ rfl (.tmp 11) (.tmp 17) 49 rfl w.heap.size 25 _ 2 16 Tryz.underlying49 info_trace _ _ _ HO.out rfl _ rfl rfl rfl (by decide) rfl HXY.out K8.out.1 K8.out.2 HB.out.size ?_; intro A4 c4 w4 h4 hg4 hb4 hs4; have H4 := Stow.mk h4; have HB4 := Stow.mk (HB.out.trans hb4); clear h4 hg4 hb4 hs4)
      exact ⟨⟨i + 1, rfl, by omega, ⟨by unfold Km.tr; rw [HNX.out]; exact H4.out⟩, HB4⟩, by simp [intOf]; omega⟩
    · obtain rfl : i = R.length := by omega
      have hni : ¬ ((R.length : Int) < R.length) := by omega
      have hO := HO.out
      rw [List.take_length] at hO
      have HT := Stow.mk (show TrR wr Ao co R from own_of_cells (enc := Km.tr) (fun _ => rfl) hO rfl)
      clear hO
      go_wp2_with fail
      go_ret
      exact ⟨Ao, co, rfl, HT.out, HB.out⟩
end Go.Proofs.YtfbhdkkmcfnghaaGreat
end
