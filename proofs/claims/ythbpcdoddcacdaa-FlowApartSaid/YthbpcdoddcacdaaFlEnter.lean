/- Walks of flow's Enter. Conditions: the frames' memory; lists not longer than a thousand. -/
import Derived.Test.YthbpcdoddcacdaaFlAns
import Derived.Deep.RegionLawGrows
namespace Go.Proofs.Ythbpcdoddcacdaa
open Go.RowKit
set_option linter.unusedVariables false

theorem flen_results (W : World) (g : Nat) (v : Value) (k c : Int) (tmps : Array Value) (hH : Held W g [v, .int .i64 k]) (h2 : tmps[4]?.getD undef = .pointer (some ⟨g, 0, none⟩)) (h5 : tmps[5]?.getD undef = .int .i64 c) :
    (results Try.f17 tmps).run Try.prog W = .ok (.tuple #[.agg #[v, .int .i64 k], .int .i64 c]) W := by
  have c0 := hH.cell (i := 0) rfl
  have c1 := hH.cell (i := 1) rfl
  simp [results, Try.results17, go_sem, h2, h5, c0, c1]
theorem own_holds {w : World} {B : Nat} {e : TypeId} {size n cap : Nat} {A : Option Addr} {xs : List Value} (h : w.ownsRow B e size (.slice A n cap) n xs) : (A = none → n = 0) ∧ ∀ b, A = some b → ∀ j u, xs[j]? = some u → w.cell? (b.add j) = some u := by
  have h0 := h
  rcases h.2 with ⟨hv, hn⟩ | ⟨g, cap', cur, hv, _⟩
  · simp only [Value.slice.injEq] at hv
    exact ⟨fun _ => hn, fun b hb => by rw [hv.1] at hb; cases hb⟩
  · simp only [Value.slice.injEq] at hv
    obtain ⟨rfl, _, rfl⟩ := hv
    exact ⟨(fun hA => by cases hA), fun b hb j u hu => by cases hb; exact World.ownsRow.cells h0 rfl j u hu⟩
/-- Frames in a row of one's own whose lists lie from some block on. -/
structure FlB (w : World) (B D : Nat) (A : Option Addr) (cap : Nat) (L : List Fm) : Prop where
  own : FlO w B A cap L
  each : ∀ x ∈ L, FmR w x ∧ FmN (fun b => D ≤ b) x
theorem FlB.only {w w' : World} {B D g : Nat} {A : Option Addr} {cap : Nat} {L : List Fm} (h : FlB w B D A cap L) (ho : Only g w w') (hg : g < B) (hd : g < D) : FlB w' B D A cap L :=
  ⟨own_undr h.own ho hg, fun x hx => ⟨(h.each x hx).1.only ho ((h.each x hx).2.mono fun b hb => by omega), (h.each x hx).2⟩⟩
theorem FlB.dd {w : World} {B D D' : Nat} {A : Option Addr} {cap : Nat} {L : List Fm} (h : FlB w B D A cap L) (h1 : D' ≤ B) (h2 : D' ≤ D) : FlD D' w A cap L :=
  ⟨⟨h.own.read, fun x hx => (h.each x hx).1⟩, fun ad e => Nat.le_trans h1 (own_addr h.own ad e), fun x hx => (h.each x hx).2.mono fun b hb => Nat.le_trans h2 hb⟩
theorem FlB.read {w : World} {B D : Nat} {A : Option Addr} {cap : Nat} {L : List Fm} (h : FlB w B D A cap L) : FlR w A cap L := ⟨h.own.read, fun x hx => (h.each x hx).1⟩
set_option maxHeartbeats 2000000 in
set_option maxRecDepth 100000 in
theorem flEnter_deep (A : Option Addr) (cap n : Nat) (hops : Int) (x : Fm) (w : World) (hn : 6 ≤ n) :
    Calls Try.prog 17 #[flv A n cap hops, x.val] w fun e w' => e = .returned (.tuple #[flv none 0 0 0, .int .i64 14]) ∧ Below w.heap.size w w' := by
  have e1 : (w.alloc (.cells #[.slice A n cap, .int .i64 hops] 24)).heap.size = w.heap.size + 1 := by simp
  have hb1 := Below.alloc' (Below.self w) (.cells #[.slice A n cap, .int .i64 hops] 24)
  have hb2 := Below.alloc' (Below.self (w.alloc (.cells #[.slice A n cap, .int .i64 hops] 24))) (.cells x.cells.toArray 30)
  have hb3 := Below.alloc' (Below.self ((w.alloc (.cells #[.slice A n cap, .int .i64 hops] 24)).alloc (.cells x.cells.toArray 30))) (.cells #[.slice none 0 0, .int .i64 0] 24)
  have h1 := ((Held.made w [.slice A n cap, .int .i64 hops] 24).kept hb2).kept hb3
  have h2 := (Held.made (w.alloc (.cells #[.slice A n cap, .int .i64 hops] 24)) x.cells 30).kept hb3
  have h3 := Held.made ((w.alloc (.cells #[.slice A n cap, .int .i64 hops] 24)).alloc (.cells x.cells.toArray 30)) [.slice none 0 0, .int .i64 0] 24
  have hb := Below.call (Below.call hb1 hb2) hb3
  obtain ⟨W0, hW0⟩ : ∃ W, ((w.alloc (.cells #[.slice A n cap, .int .i64 hops] 24)).alloc (.cells x.cells.toArray 30)).alloc (.cells #[.slice none 0 0, .int .i64 0] 24) = W := ⟨_, rfl⟩
  have hsz : W0.heap.size = w.heap.size + 1 + 1 + 1 := by rw [← hW0]; simp
  have HX := Stow.mk (show Held W0 w.heap.size [.slice A n cap, .int .i64 hops] by rw [← hW0]; exact h1)
  have HP := Stow.mk (show Held W0 (w.heap.size + 1) x.cells by rw [← hW0, ← e1]; exact h2)
  have HR := Stow.mk (show Held W0 (w.heap.size + 1 + 1) [.slice none 0 0, .int .i64 0] by rw [← hW0]; simpa using h3)
  have HB := Stow.mk (show Below w.heap.size w W0 by rw [← hW0]; exact hb)
  clear h1 h2 h3 hb hb1 hb2 hb3 e1
  have d1 : decide ((6 : Int) ≤ n) = true := by simp; omega
  have d1' : decide (6 ≤ n) = true := by simpa using hn
  have HW0 := Stow.mk hW0
  unfold Fm.val
  unfold Fm.cells at HW0 ⊢
  clear hW0
  go_enter Try.func17, Try.ntmps17
  go_upto_region 1 with fail
  generalize hW : World.alloc (World.alloc (World.alloc w _) _) _ = W
  obtain rfl : W = W0 := hW.symm.trans HW0.out
  clear hW HW0
  have q0 := HX.out.cell (i := 0) rfl
  have s0 := HR.out.free 0
  have s1 := HR.out.free 1
  have r0 := HR.out.cell (i := 0) rfl
  have r1 := HR.out.cell (i := 1) rfl
  have HN := Stow.mk ((HR.out.set 0 (.slice none 0 0)).set 1 (.int .i64 0))
  have HB2 := Stow.mk ((HB.out.setCell (p := ⟨w.heap.size + 1 + 1, 0, none⟩) (show w.heap.size ≤ w.heap.size + 1 + 1 by omega) (.slice none 0 0)).setCell (p := ⟨w.heap.size + 1 + 1, 1, none⟩) (show w.heap.size ≤ w.heap.size + 1 + 1 by omega) (.int .i64 0))
  go_wp2_with fail
  refine bodyPost_ret (flen_results _ (w.heap.size + 1 + 1) (.slice none 0 0) 0 14 _ HN.out rfl rfl) rfl ?_
  exact ⟨rfl, HB2.out⟩
set_option maxHeartbeats 2000000 in
set_option maxRecDepth 100000 in
theorem flEnter_ok (A : Option Addr) (cap n : Nat) (L : List Fm) (hops : Int) (x : Fm) (w : World) (hn : n < 6) (h : FlR w A cap L) (hx : FmR w x) (hs : ∀ x ∈ L, x.c.small) (hsx : x.c.small) (hnL : L.length = n) :
    Calls Try.prog 17 #[flv A n cap hops, x.val] w fun e w' => ∃ A' cap' L', e = .returned (.tuple #[flv A' (n + 1) cap' hops, .int .i64 0]) ∧ L'.map Fm.c = L.map Fm.c ++ [x.c] ∧ FlD w.heap.size w' A' cap' L' ∧ Below w.heap.size w w' := by
  have e1 : (w.alloc (.cells #[.slice A n cap, .int .i64 hops] 24)).heap.size = w.heap.size + 1 := by simp
  have hb1 := Below.alloc' (Below.self w) (.cells #[.slice A n cap, .int .i64 hops] 24)
  have hb2 := Below.alloc' (Below.self (w.alloc (.cells #[.slice A n cap, .int .i64 hops] 24))) (.cells x.cells.toArray 30)
  have hb3 := Below.alloc' (Below.self ((w.alloc (.cells #[.slice A n cap, .int .i64 hops] 24)).alloc (.cells x.cells.toArray 30))) (.cells #[.slice none 0 0, .int .i64 0] 24)
  have h1 := ((Held.made w [.slice A n cap, .int .i64 hops] 24).kept hb2).kept hb3
  have h2 := (Held.made (w.alloc (.cells #[.slice A n cap, .int .i64 hops] 24)) x.cells 30).kept hb3
  have h3 := Held.made ((w.alloc (.cells #[.slice A n cap, .int .i64 hops] 24)).alloc (.cells x.cells.toArray 30)) [.slice none 0 0, .int .i64 0] 24
  have hb := Below.call (Below.call hb1 hb2) hb3
  obtain ⟨W0, hW0⟩ : ∃ W, ((w.alloc (.cells #[.slice A n cap, .int .i64 hops] 24)).alloc (.cells x.cells.toArray 30)).alloc (.cells #[.slice none 0 0, .int .i64 0] 24) = W := ⟨_, rfl⟩
  have hsz : W0.heap.size = w.heap.size + 1 + 1 + 1 := by rw [← hW0]; simp
  have HX := Stow.mk (show Held W0 w.heap.size [.slice A n cap, .int .i64 hops] by rw [← hW0]; exact h1)
  have HP := Stow.mk (show Held W0 (w.heap.size + 1) x.cells by rw [← hW0, ← e1]; exact h2)
  have HR := Stow.mk (show Held W0 (w.heap.size + 1 + 1) [.slice none 0 0, .int .i64 0] by rw [← hW0]; simpa using h3)
  have HB := Stow.mk (show Below w.heap.size w W0 by rw [← hW0]; exact hb)
  clear h1 h2 h3 hb hb1 hb2 hb3 e1
  have d1 : decide ((6 : Int) ≤ n) = false := by simp; omega
  have d1' : decide (6 ≤ n) = false := by simp; omega
  have HC := flCopied_any A cap L hops W0 (h.keep HB.out) (by omega) hs
  rw [hnL] at HC
  have HC := Stow.mk HC
  have HFX := Stow.mk hx
  have HSX := Stow.mk hsx
  have HNL := Stow.mk hnL
  have hsz1 : w.heap.size + 1 + 1 < W0.heap.size := by omega
  have HW0 := Stow.mk hW0
  unfold Fm.val
  unfold Fm.cells at HW0 ⊢
  clear hW0 h hx hs hsx hnL
  go_enter Try.func17, Try.ntmps17
  go_upto_region 1 with fail
  generalize hW : World.alloc (World.alloc (World.alloc w _) _) _ = W
  obtain rfl : W = W0 := hW.symm.trans HW0.out
  clear hW HW0
  have q0 := HX.out.cell (i := 0) rfl
  have q1 := HX.out.cell (i := 1) rfl
  go_wp2_with fail
  refine HC.out.mono ?_
  rintro e w1 ⟨A1, c1, L1, rfl, hc1, hW1, hb1⟩
  have hL1 : L1.length = n := by have := congrArg List.length hc1; simp at this; rw [this, HNL.out]
  have ba := Below.alloc' (Below.self w1) (.cells #[.slice A1 n c1, .int .i64 hops] 24)
  have hba := hb1.trans (ba.mono hb1.size)
  have HT := Stow.mk (Held.made w1 [.slice A1 n c1, .int .i64 hops] 24)
  have HP := Stow.mk (HP.out.kept hba)
  have HR := Stow.mk (HR.out.kept hba)
  have HW := Stow.mk (hW1.keep ba)
  have hs1 := hb1.size
  have hs2 := ba.size
  have HFX := Stow.mk (HFX.out.keep (HB.out.trans (hba.mono HB.out.size)))
  have HB := Stow.mk (HB.out.trans (hba.mono HB.out.size))
  have HC1 := Stow.mk hc1
  have HWE := Stow.mk hW1.each
  have HZ := Stow.mk ba
  obtain ⟨W1, hW1'⟩ : ∃ W, w1.alloc (.cells #[.slice A1 n c1, .int .i64 hops] 24) = W := ⟨_, rfl⟩
  clear hW1 hb1 hc1 q0 q1 HC ba hba HX
  rw [show w1.alloc (.cells [.slice A1 n c1, .int .i64 hops].toArray 24) = W1 from hW1'] at HT
  rw [hW1'] at HP HR HB HW HFX HZ hs2
  have hsW := HT.out.lt
  have q0 := HT.out.cell (i := 0) rfl
  go_upto_region 5 with fail
  clear hW1'
  obtain ⟨hform1, hcap1⟩ : n ≤ c1 ∧ c1 ≤ maxLen := by
    obtain ⟨A', cap', hv, h1, h2, _⟩ := HW.out.read.row
    simp only [Value.slice.injEq] at hv
    obtain ⟨_, _, rfl⟩ := hv
    simp only [List.length_map, hL1] at h1
    exact ⟨h1, h2⟩
  unfold maxLen at hcap1
  have hni0 : (0 : Int) ≤ n := by omega
  have hnc : (n : Int) ≤ c1 := by omega
  have hnn : (n : Int) ≤ n := by omega
  have HC2 := Stow.mk (fun (W : World) (hb : Below W1.heap.size W1 W) => flOwn_any x W (HFX.out.keep hb) HSX.out)
  refine wp_region_held_drew (S := fun W => W.rangeAt (w.heap.size + 1) 0 x.cells) (by kernel_rfl) HP.out.range (fun hHeld => ?_)
  refine wpAnyH_take (i := 0) (v := ?v0) rfl (by kernel_rfl) (by kernel_rfl) (by kernel_rfl) (fun _ _ _ h => h) (Or.inl ⟨by rfl, ?hy0⟩) (by assumption) ?rest0
  case hy0 =>
    intro W hSW
    clear hSW
    go_simp
    try with_reducible rfl
  try simp only [List.getElem_toArray, List.getElem_cons_zero, Act.put, List.setIfInBounds_toArray, List.set_cons_zero, List.set_cons_succ]
  refine wpAnyH_take (i := 2) (v := ?v2) rfl (by kernel_rfl) (by kernel_rfl) (by kernel_rfl) (fun _ _ _ h => h) (Or.inl ⟨by rfl, ?hy2⟩) (by assumption) ?rest2
  case hy2 =>
    intro W hSW
    clear hSW
    go_simp
    try with_reducible rfl
  try simp only [List.getElem_toArray, List.getElem_cons_zero, List.getElem_cons_succ, Act.put, List.setIfInBounds_toArray, List.set_cons_zero, List.set_cons_succ]
  refine wpAnyH_take (i := 3) (v := ?v3) rfl (by kernel_rfl) (by kernel_rfl) (by kernel_rfl) (fun _ _ _ h => h) (Or.inl ⟨by rfl, ?hy3⟩) (by assumption) ?rest3
  case hy3 =>
    intro W hSW
    clear hSW
    go_simp
    try with_reducible rfl
  try simp only [List.getElem_toArray, List.getElem_cons_zero, List.getElem_cons_succ, Act.put, List.setIfInBounds_toArray, List.set_cons_zero, List.set_cons_succ]
  refine wpAnyH_take (i := 5) (v := .agg (x.cells).toArray) rfl (by kernel_rfl) (by kernel_rfl) (by kernel_rfl) (fun _ _ _ h => h) (yieldsIf_load_mid ?yw5 30 (.tmp 3) ?yo5 (w.heap.size + 1) 0 ?yx5 (x.cells) _ ?ys5 Try.underlying30 rfl ?yi5) (by assumption) ?rest5
  case yw5 => rfl
  case yo5 => rfl
  case yx5 => simp [Act.eval]
  case ys5 => exact fun W hW => hW
  case yi5 => first | kernel_rfl | (simp only [Fm.cells_len]; kernel_rfl)
  try simp only [List.getElem_toArray, List.getElem_cons_zero, List.getElem_cons_succ, Act.put, List.setIfInBounds_toArray, List.set_cons_zero, List.set_cons_succ]
  refine wpAnyH_ready (rs := [1, 6]) (by kernel_rfl) (by simp) ?_
  refine AllReadyH.cons rfl (fun K hK => ?_) (AllReadyH.cons rfl (fun K hK => ?_) AllReadyH.nil)
  · skip
    rw [if_pos (by rfl)]
    have y0 := HT.out.cell (i := 0) rfl
    go_simp
    refine hK.out _ _ HP.out.range (fun hHeld => ?_)
    clear hK K y0
    try simp only [List.getElem_toArray, List.getElem_cons_zero, List.getElem_cons_succ, Act.put, List.setIfInBounds_toArray, List.set_cons_zero, List.set_cons_succ]
    refine wpAnyH_take (i := 4) (v := ?v4p) rfl (by kernel_rfl) (by kernel_rfl) (by kernel_rfl) (fun _ _ _ h => h) (Or.inl ⟨by rfl, ?hy4p⟩) (by assumption) ?rest4p
    case hy4p =>
      intro W hSW
      clear hSW
      go_simp
      try with_reducible rfl
    try simp only [List.getElem_toArray, List.getElem_cons_zero, List.getElem_cons_succ, Act.put, List.setIfInBounds_toArray, List.set_cons_zero, List.set_cons_succ]
    refine wpAnyH_ready (rs := [6]) (by kernel_rfl) (by simp) ?_
    refine AllReadyH.cons rfl (fun K hK => ?_) AllReadyH.nil
    rw [if_pos (by rfl)]
    go_simp
    refine (HC2.out _ (Below.drew (Below.self W1))).mono ?_
    rintro e w4 ⟨x', rfl, hx', hR', hN', hb4⟩
    have hb4' : Below W1.heap.size W1 w4 := (Below.drew (Below.self W1)).trans hb4
    have HT := Stow.mk (HT.out.kept hb4')
    have HP := Stow.mk (HP.out.kept hb4')
    have HR := Stow.mk (HR.out.kept hb4')
    have HW := Stow.mk (HW.out.keep hb4')
    have HB := Stow.mk (HB.out.trans (hb4'.mono HB.out.size))
    have HZ := Stow.mk (HZ.out.trans (hb4'.mono HZ.out.size))
    have hs4 := hb4'.size
    have HXR := Stow.mk hR'
    have HXN := Stow.mk hN'
    have HXC := Stow.mk hx'
    dsimp only
    refine hK.out _ _ HP.out.range (fun hHeld => ?_)
    clear hK K hR' hN' hx' hb4 hb4'
    unfold Fm.val Fm.cells
    try simp only [List.getElem_toArray, List.getElem_cons_zero, List.getElem_cons_succ, Act.put, List.setIfInBounds_toArray, List.set_cons_zero, List.set_cons_succ]
    refine wpAnyH_ready (rs := [7]) (by kernel_rfl) (by simp) ?_
    refine AllReadyH.cons rfl (fun K hK => ?_) AllReadyH.nil
    rw [if_pos (by rfl)]
    go_simp
    have ba := Below.alloc' (Below.self w4) (.cells x'.cells.toArray 30)
    have HT := Stow.mk (HT.out.kept ba)
    have HP := Stow.mk (HP.out.kept ba)
    have HR := Stow.mk (HR.out.kept ba)
    have HW := Stow.mk (HW.out.keep ba)
    have HXR := Stow.mk (HXR.out.keep ba)
    have HB := Stow.mk (HB.out.trans (ba.mono HB.out.size))
    have HZ := Stow.mk (HZ.out.trans (ba.mono HZ.out.size))
    have HXH := Stow.mk (Held.made w4 x'.cells 30)
    have hs5 := ba.size
    obtain ⟨W5, hW5⟩ : ∃ W, w4.alloc (.cells x'.cells.toArray 30) = W := ⟨_, rfl⟩
    rw [hW5] at HT HP HR HW HXR HB HXH HZ hs5
    generalize hW6 : World.alloc w4 _ = W6
    obtain rfl : W6 = W5 := hW6.symm.trans hW5
    clear hW5 hW6 ba
    refine hK.out _ _ HP.out.range (fun hHeld => ?_)
    clear hK K
    try simp only [List.getElem_toArray, List.getElem_cons_zero, List.getElem_cons_succ, Act.put, List.setIfInBounds_toArray, List.set_cons_zero, List.set_cons_succ]
    refine wpAnyH_ready (rs := [8]) (by kernel_rfl) (by simp) ?_
    refine AllReadyH.cons rfl (fun K hK => ?_) AllReadyH.nil
    obtain ⟨i0, hi, hz, hsz', hby⟩ := info_parts info_fr
    obtain ⟨hown1, hown2⟩ := own_holds HW.out.own
    refine step_append_grows rfl (.tmp 22) (.tmp 25) 22 ?xap 30 i0 _ 13 176 Try.underlying22 hi hz hsz' hby rfl (by decide) A1 n n (L1.flatMap Fm.cells) ?xbp ?xcp ?xdp ?xep ⟨w4.heap.size, 0, none⟩ 1 1 x'.cells ?xfp ?xgp ?xhp (Fm.one x') (by omega) (by unfold maxLen; omega) (by omega) ?xkp
    case xap => rfl
    case xbp => rfl
    case xcp => intro hA; have := hown1 hA; omega
    case xdp => rw [fm_flat_len, hL1]
    case xep => exact hown2
    case xfp => rfl
    case xgp => rfl
    case xhp => intro j u hu; rw [Addr.add_lit, Nat.zero_add]; exact HXH.out.cell hu
    intro v' w7 hown7 hg7
    obtain ⟨A6, c6, rfl⟩ := own_form hown7
    have hb7 : Below W6.heap.size W6 w7 := ⟨hg7.os, hg7.tape, hg7.output, hg7.size, fun k hk => hg7.block k hk (by simp)⟩
    have HOW := Stow.mk (show FlO w7 W6.heap.size A6 c6 (L1 ++ [x']) by
      unfold FlO
      rw [List.length_append, List.length_singleton, hL1, List.flatMap_append, List.flatMap_singleton]
      exact hown7)
    have HXR := Stow.mk (HXR.out.keep hb7)
    have HSA := Stow.mk (show (L1 ++ [x']).map Fm.c = L.map Fm.c ++ [x.c] by rw [List.map_append, HC1.out, List.map_singleton, HXC.out])
    have HT := Stow.mk (HT.out.kept hb7)
    have HP := Stow.mk (HP.out.kept hb7)
    have HR := Stow.mk (HR.out.kept hb7)
    have HB := Stow.mk (HB.out.trans (hb7.mono HB.out.size))
    have HZ := Stow.mk (HZ.out.trans (hb7.mono HZ.out.size))
    have hs7 := hb7.size
    have ht7 := HT.out.lt
    refine hK.out _ _ HP.out.range (fun hHeld => ?_)
    clear hK K hown7 hg7 hb7 hown1 hown2 hi hz hsz' hby
    try simp only [List.getElem_toArray, List.getElem_cons_zero, List.getElem_cons_succ, Act.put, List.setIfInBounds_toArray, List.set_cons_zero, List.set_cons_succ]
    refine wpAnyH_take (i := 9) (v := ?v9p) rfl (by kernel_rfl) (by kernel_rfl) (by kernel_rfl) (fun _ _ _ h => h) (Or.inl ⟨by rfl, ?hy9p⟩) (by assumption) ?rest9p
    case hy9p =>
      intro W hSW
      clear hSW
      go_simp
      try with_reducible rfl
    try simp only [List.getElem_toArray, List.getElem_cons_zero, List.getElem_cons_succ, Act.put, List.setIfInBounds_toArray, List.set_cons_zero, List.set_cons_succ]
    refine wpAnyH_ready (rs := [10]) (by kernel_rfl) (by simp) ?_
    refine AllReadyH.cons rfl (fun K hK => ?_) AllReadyH.nil
    rw [if_pos (by rfl)]
    have y0 := HT.out.cell (i := 0) rfl
    have z0 := HT.out.free 0
    go_simp
    have hO7 : Only w1.heap.size w7 (w7.setCell ⟨w1.heap.size, 0, none⟩ (.slice A6 (n + 1) c6)) := Only.set _ _ 0 _
    have HT := Stow.mk (HT.out.set 0 (.slice A6 (n + 1) c6))
    have HP := Stow.mk (HP.out.offO hO7 (by omega))
    have HR := Stow.mk (HR.out.offO hO7 (by omega))
    have HB := Stow.mk (HB.out.trans (hO7.below (show w.heap.size ≤ w1.heap.size by omega) HB.out.size))
    have HZ := Stow.mk (HZ.out.trans (hO7.below (Nat.le_refl _) HZ.out.size))
    have HFB := Stow.mk (show FlB (w7.setCell ⟨w1.heap.size, 0, none⟩ (.slice A6 (n + 1) c6)) W6.heap.size W.heap.size A6 c6 (L1 ++ [x']) from ⟨own_undr HOW.out hO7 (by omega), fun y hy => by
      rcases List.mem_append.1 hy with hy | hy
      · exact ⟨(HWE.out y hy).keep HZ.out, (HW.out.apart y hy).mono fun b hb => hb.1⟩
      · obtain rfl : y = x' := by simpa using hy
        exact ⟨HXR.out.only hO7 (HXN.out.mono fun b hb => by have := hb.1; simp at this; omega), HXN.out.mono fun b hb => by have := hb.1; simp at this; omega⟩⟩)
    have hs8 := hO7.size
    obtain ⟨W8, hW8⟩ : ∃ W, w7.setCell ⟨w1.heap.size, 0, none⟩ (.slice A6 (n + 1) c6) = W := ⟨_, rfl⟩
    rw [hW8] at HT HP HR HB HFB HZ hs8
    rw [hW8]
    refine hK.out _ _ HP.out.range (fun hHeld => ?_)
    clear hK K hO7 hW8 y0 z0
    refine wpAnyH_done (by kernel_rfl) ?_ _
    try simp only [List.getElem_toArray, List.getElem_cons_zero, List.getElem_cons_succ, Act.put]
    clear hHeld
    have q0 := HT.out.cell (i := 0) rfl
    have q1 := HT.out.cell (i := 1) rfl
    have s0 := HR.out.free 0
    have s1 := HR.out.free 1
    have r0 := HR.out.cell (i := 0) rfl
    have r1 := HR.out.cell (i := 1) rfl
    have hO1 : Only (w.heap.size + 1 + 1) W8 (W8.setCell ⟨w.heap.size + 1 + 1, 0, none⟩ (.slice A6 (n + 1) c6)) := Only.set _ _ 0 _
    have hO2 : Only (w.heap.size + 1 + 1) (W8.setCell ⟨w.heap.size + 1 + 1, 0, none⟩ (.slice A6 (n + 1) c6)) ((W8.setCell ⟨w.heap.size + 1 + 1, 0, none⟩ (.slice A6 (n + 1) c6)).setCell ⟨w.heap.size + 1 + 1, 1, none⟩ (.int .i64 hops)) := Only.set _ _ 1 _
    have hO := hO1.trans hO2
    have HN := Stow.mk ((HR.out.set 0 (.slice A6 (n + 1) c6)).set 1 (.int .i64 hops))
    have HF2 := Stow.mk (HFB.out.only hO (by omega) (by omega))
    have HB2 := Stow.mk (HB.out.trans (hO.below (show w.heap.size ≤ w.heap.size + 1 + 1 by omega) HB.out.size))
    clear hO1 hO2 hO
    go_wp2_with fail
    refine bodyPost_ret (flen_results _ (w.heap.size + 1 + 1) (.slice A6 (n + 1) c6) hops 0 _ HN.out rfl rfl) rfl ?_
    exact ⟨A6, c6, _, rfl, HSA.out, HF2.out.dd (by omega) (by omega), HB2.out⟩
  · skip
    rw [if_pos (by rfl)]
    go_simp
    refine (HC2.out _ (Below.drew (Below.self W1))).mono ?_
    rintro e w4 ⟨x', rfl, hx', hR', hN', hb4⟩
    have hb4' : Below W1.heap.size W1 w4 := (Below.drew (Below.self W1)).trans hb4
    have HT := Stow.mk (HT.out.kept hb4')
    have HP := Stow.mk (HP.out.kept hb4')
    have HR := Stow.mk (HR.out.kept hb4')
    have HW := Stow.mk (HW.out.keep hb4')
    have HB := Stow.mk (HB.out.trans (hb4'.mono HB.out.size))
    have HZ := Stow.mk (HZ.out.trans (hb4'.mono HZ.out.size))
    have hs4 := hb4'.size
    have HXR := Stow.mk hR'
    have HXN := Stow.mk hN'
    have HXC := Stow.mk hx'
    dsimp only
    refine hK.out _ _ HP.out.range (fun hHeld => ?_)
    clear hK K hR' hN' hx' hb4 hb4'
    unfold Fm.val Fm.cells
    try simp only [List.getElem_toArray, List.getElem_cons_zero, List.getElem_cons_succ, Act.put, List.setIfInBounds_toArray, List.set_cons_zero, List.set_cons_succ]
    refine wpAnyH_ready (rs := [1, 7]) (by kernel_rfl) (by simp) ?_
    refine AllReadyH.cons rfl (fun K hK => ?_) (AllReadyH.cons rfl (fun K hK => ?_) AllReadyH.nil)
    · skip
      rw [if_pos (by rfl)]
      have y0 := HT.out.cell (i := 0) rfl
      go_simp
      refine hK.out _ _ HP.out.range (fun hHeld => ?_)
      clear hK K y0
      try simp only [List.getElem_toArray, List.getElem_cons_zero, List.getElem_cons_succ, Act.put, List.setIfInBounds_toArray, List.set_cons_zero, List.set_cons_succ]
      refine wpAnyH_take (i := 4) (v := ?v4q) rfl (by kernel_rfl) (by kernel_rfl) (by kernel_rfl) (fun _ _ _ h => h) (Or.inl ⟨by rfl, ?hy4q⟩) (by assumption) ?rest4q
      case hy4q =>
        intro W hSW
        clear hSW
        go_simp
        try with_reducible rfl
      try simp only [List.getElem_toArray, List.getElem_cons_zero, List.getElem_cons_succ, Act.put, List.setIfInBounds_toArray, List.set_cons_zero, List.set_cons_succ]
      refine wpAnyH_ready (rs := [7]) (by kernel_rfl) (by simp) ?_
      refine AllReadyH.cons rfl (fun K hK => ?_) AllReadyH.nil
      rw [if_pos (by rfl)]
      go_simp
      have ba := Below.alloc' (Below.self w4) (.cells x'.cells.toArray 30)
      have HT := Stow.mk (HT.out.kept ba)
      have HP := Stow.mk (HP.out.kept ba)
      have HR := Stow.mk (HR.out.kept ba)
      have HW := Stow.mk (HW.out.keep ba)
      have HXR := Stow.mk (HXR.out.keep ba)
      have HB := Stow.mk (HB.out.trans (ba.mono HB.out.size))
      have HZ := Stow.mk (HZ.out.trans (ba.mono HZ.out.size))
      have HXH := Stow.mk (Held.made w4 x'.cells 30)
      have hs5 := ba.size
      obtain ⟨W5, hW5⟩ : ∃ W, w4.alloc (.cells x'.cells.toArray 30) = W := ⟨_, rfl⟩
      rw [hW5] at HT HP HR HW HXR HB HXH HZ hs5
      generalize hW6 : World.alloc w4 _ = W6
      obtain rfl : W6 = W5 := hW6.symm.trans hW5
      clear hW5 hW6 ba
      refine hK.out _ _ HP.out.range (fun hHeld => ?_)
      clear hK K
      try simp only [List.getElem_toArray, List.getElem_cons_zero, List.getElem_cons_succ, Act.put, List.setIfInBounds_toArray, List.set_cons_zero, List.set_cons_succ]
      refine wpAnyH_ready (rs := [8]) (by kernel_rfl) (by simp) ?_
      refine AllReadyH.cons rfl (fun K hK => ?_) AllReadyH.nil
      obtain ⟨i0, hi, hz, hsz', hby⟩ := info_parts info_fr
      obtain ⟨hown1, hown2⟩ := own_holds HW.out.own
      refine step_append_grows rfl (.tmp 22) (.tmp 25) 22 ?xaq 30 i0 _ 13 176 Try.underlying22 hi hz hsz' hby rfl (by decide) A1 n n (L1.flatMap Fm.cells) ?xbq ?xcq ?xdq ?xeq ⟨w4.heap.size, 0, none⟩ 1 1 x'.cells ?xfq ?xgq ?xhq (Fm.one x') (by omega) (by unfold maxLen; omega) (by omega) ?xkq
      case xaq => rfl
      case xbq => rfl
      case xcq => intro hA; have := hown1 hA; omega
      case xdq => rw [fm_flat_len, hL1]
      case xeq => exact hown2
      case xfq => rfl
      case xgq => rfl
      case xhq => intro j u hu; rw [Addr.add_lit, Nat.zero_add]; exact HXH.out.cell hu
      intro v' w7 hown7 hg7
      obtain ⟨A6, c6, rfl⟩ := own_form hown7
      have hb7 : Below W6.heap.size W6 w7 := ⟨hg7.os, hg7.tape, hg7.output, hg7.size, fun k hk => hg7.block k hk (by simp)⟩
      have HOW := Stow.mk (show FlO w7 W6.heap.size A6 c6 (L1 ++ [x']) by
        unfold FlO
        rw [List.length_append, List.length_singleton, hL1, List.flatMap_append, List.flatMap_singleton]
        exact hown7)
      have HXR := Stow.mk (HXR.out.keep hb7)
      have HSA := Stow.mk (show (L1 ++ [x']).map Fm.c = L.map Fm.c ++ [x.c] by rw [List.map_append, HC1.out, List.map_singleton, HXC.out])
      have HT := Stow.mk (HT.out.kept hb7)
      have HP := Stow.mk (HP.out.kept hb7)
      have HR := Stow.mk (HR.out.kept hb7)
      have HB := Stow.mk (HB.out.trans (hb7.mono HB.out.size))
      have HZ := Stow.mk (HZ.out.trans (hb7.mono HZ.out.size))
      have hs7 := hb7.size
      have ht7 := HT.out.lt
      refine hK.out _ _ HP.out.range (fun hHeld => ?_)
      clear hK K hown7 hg7 hb7 hown1 hown2 hi hz hsz' hby
      try simp only [List.getElem_toArray, List.getElem_cons_zero, List.getElem_cons_succ, Act.put, List.setIfInBounds_toArray, List.set_cons_zero, List.set_cons_succ]
      refine wpAnyH_take (i := 9) (v := ?v9q) rfl (by kernel_rfl) (by kernel_rfl) (by kernel_rfl) (fun _ _ _ h => h) (Or.inl ⟨by rfl, ?hy9q⟩) (by assumption) ?rest9q
      case hy9q =>
        intro W hSW
        clear hSW
        go_simp
        try with_reducible rfl
      try simp only [List.getElem_toArray, List.getElem_cons_zero, List.getElem_cons_succ, Act.put, List.setIfInBounds_toArray, List.set_cons_zero, List.set_cons_succ]
      refine wpAnyH_ready (rs := [10]) (by kernel_rfl) (by simp) ?_
      refine AllReadyH.cons rfl (fun K hK => ?_) AllReadyH.nil
      rw [if_pos (by rfl)]
      have y0 := HT.out.cell (i := 0) rfl
      have z0 := HT.out.free 0
      go_simp
      have hO7 : Only w1.heap.size w7 (w7.setCell ⟨w1.heap.size, 0, none⟩ (.slice A6 (n + 1) c6)) := Only.set _ _ 0 _
      have HT := Stow.mk (HT.out.set 0 (.slice A6 (n + 1) c6))
      have HP := Stow.mk (HP.out.offO hO7 (by omega))
      have HR := Stow.mk (HR.out.offO hO7 (by omega))
      have HB := Stow.mk (HB.out.trans (hO7.below (show w.heap.size ≤ w1.heap.size by omega) HB.out.size))
      have HZ := Stow.mk (HZ.out.trans (hO7.below (Nat.le_refl _) HZ.out.size))
      have HFB := Stow.mk (show FlB (w7.setCell ⟨w1.heap.size, 0, none⟩ (.slice A6 (n + 1) c6)) W6.heap.size W.heap.size A6 c6 (L1 ++ [x']) from ⟨own_undr HOW.out hO7 (by omega), fun y hy => by
        rcases List.mem_append.1 hy with hy | hy
        · exact ⟨(HWE.out y hy).keep HZ.out, (HW.out.apart y hy).mono fun b hb => hb.1⟩
        · obtain rfl : y = x' := by simpa using hy
          exact ⟨HXR.out.only hO7 (HXN.out.mono fun b hb => by have := hb.1; simp at this; omega), HXN.out.mono fun b hb => by have := hb.1; simp at this; omega⟩⟩)
      have hs8 := hO7.size
      obtain ⟨W8, hW8⟩ : ∃ W, w7.setCell ⟨w1.heap.size, 0, none⟩ (.slice A6 (n + 1) c6) = W := ⟨_, rfl⟩
      rw [hW8] at HT HP HR HB HFB HZ hs8
      rw [hW8]
      refine hK.out _ _ HP.out.range (fun hHeld => ?_)
      clear hK K hO7 hW8 y0 z0
      refine wpAnyH_done (by kernel_rfl) ?_ _
      try simp only [List.getElem_toArray, List.getElem_cons_zero, List.getElem_cons_succ, Act.put]
      clear hHeld
      have q0 := HT.out.cell (i := 0) rfl
      have q1 := HT.out.cell (i := 1) rfl
      have s0 := HR.out.free 0
      have s1 := HR.out.free 1
      have r0 := HR.out.cell (i := 0) rfl
      have r1 := HR.out.cell (i := 1) rfl
      have hO1 : Only (w.heap.size + 1 + 1) W8 (W8.setCell ⟨w.heap.size + 1 + 1, 0, none⟩ (.slice A6 (n + 1) c6)) := Only.set _ _ 0 _
      have hO2 : Only (w.heap.size + 1 + 1) (W8.setCell ⟨w.heap.size + 1 + 1, 0, none⟩ (.slice A6 (n + 1) c6)) ((W8.setCell ⟨w.heap.size + 1 + 1, 0, none⟩ (.slice A6 (n + 1) c6)).setCell ⟨w.heap.size + 1 + 1, 1, none⟩ (.int .i64 hops)) := Only.set _ _ 1 _
      have hO := hO1.trans hO2
      have HN := Stow.mk ((HR.out.set 0 (.slice A6 (n + 1) c6)).set 1 (.int .i64 hops))
      have HF2 := Stow.mk (HFB.out.only hO (by omega) (by omega))
      have HB2 := Stow.mk (HB.out.trans (hO.below (show w.heap.size ≤ w.heap.size + 1 + 1 by omega) HB.out.size))
      clear hO1 hO2 hO
      go_wp2_with fail
      refine bodyPost_ret (flen_results _ (w.heap.size + 1 + 1) (.slice A6 (n + 1) c6) hops 0 _ HN.out rfl rfl) rfl ?_
      exact ⟨A6, c6, _, rfl, HSA.out, HF2.out.dd (by omega) (by omega), HB2.out⟩
    · skip
      rw [if_pos (by rfl)]
      go_simp
      have ba := Below.alloc' (Below.self w4) (.cells x'.cells.toArray 30)
      have HT := Stow.mk (HT.out.kept ba)
      have HP := Stow.mk (HP.out.kept ba)
      have HR := Stow.mk (HR.out.kept ba)
      have HW := Stow.mk (HW.out.keep ba)
      have HXR := Stow.mk (HXR.out.keep ba)
      have HB := Stow.mk (HB.out.trans (ba.mono HB.out.size))
      have HZ := Stow.mk (HZ.out.trans (ba.mono HZ.out.size))
      have HXH := Stow.mk (Held.made w4 x'.cells 30)
      have hs5 := ba.size
      obtain ⟨W5, hW5⟩ : ∃ W, w4.alloc (.cells x'.cells.toArray 30) = W := ⟨_, rfl⟩
      rw [hW5] at HT HP HR HW HXR HB HXH HZ hs5
      generalize hW6 : World.alloc w4 _ = W6
      obtain rfl : W6 = W5 := hW6.symm.trans hW5
      clear hW5 hW6 ba
      refine hK.out _ _ HP.out.range (fun hHeld => ?_)
      clear hK K
      try simp only [List.getElem_toArray, List.getElem_cons_zero, List.getElem_cons_succ, Act.put, List.setIfInBounds_toArray, List.set_cons_zero, List.set_cons_succ]
      refine wpAnyH_ready (rs := [1]) (by kernel_rfl) (by simp) ?_
      refine AllReadyH.cons rfl (fun K hK => ?_) AllReadyH.nil
      rw [if_pos (by rfl)]
      have y0 := HT.out.cell (i := 0) rfl
      go_simp
      refine hK.out _ _ HP.out.range (fun hHeld => ?_)
      clear hK K y0
      try simp only [List.getElem_toArray, List.getElem_cons_zero, List.getElem_cons_succ, Act.put, List.setIfInBounds_toArray, List.set_cons_zero, List.set_cons_succ]
      refine wpAnyH_take (i := 4) (v := ?v4r) rfl (by kernel_rfl) (by kernel_rfl) (by kernel_rfl) (fun _ _ _ h => h) (Or.inl ⟨by rfl, ?hy4r⟩) (by assumption) ?rest4r
      case hy4r =>
        intro W hSW
        clear hSW
        go_simp
        try with_reducible rfl
      try simp only [List.getElem_toArray, List.getElem_cons_zero, List.getElem_cons_succ, Act.put, List.setIfInBounds_toArray, List.set_cons_zero, List.set_cons_succ]
      refine wpAnyH_ready (rs := [8]) (by kernel_rfl) (by simp) ?_
      refine AllReadyH.cons rfl (fun K hK => ?_) AllReadyH.nil
      obtain ⟨i0, hi, hz, hsz', hby⟩ := info_parts info_fr
      obtain ⟨hown1, hown2⟩ := own_holds HW.out.own
      refine step_append_grows rfl (.tmp 22) (.tmp 25) 22 ?xar 30 i0 _ 13 176 Try.underlying22 hi hz hsz' hby rfl (by decide) A1 n n (L1.flatMap Fm.cells) ?xbr ?xcr ?xdr ?xer ⟨w4.heap.size, 0, none⟩ 1 1 x'.cells ?xfr ?xgr ?xhr (Fm.one x') (by omega) (by unfold maxLen; omega) (by omega) ?xkr
      case xar => rfl
      case xbr => rfl
      case xcr => intro hA; have := hown1 hA; omega
      case xdr => rw [fm_flat_len, hL1]
      case xer => exact hown2
      case xfr => rfl
      case xgr => rfl
      case xhr => intro j u hu; rw [Addr.add_lit, Nat.zero_add]; exact HXH.out.cell hu
      intro v' w7 hown7 hg7
      obtain ⟨A6, c6, rfl⟩ := own_form hown7
      have hb7 : Below W6.heap.size W6 w7 := ⟨hg7.os, hg7.tape, hg7.output, hg7.size, fun k hk => hg7.block k hk (by simp)⟩
      have HOW := Stow.mk (show FlO w7 W6.heap.size A6 c6 (L1 ++ [x']) by
        unfold FlO
        rw [List.length_append, List.length_singleton, hL1, List.flatMap_append, List.flatMap_singleton]
        exact hown7)
      have HXR := Stow.mk (HXR.out.keep hb7)
      have HSA := Stow.mk (show (L1 ++ [x']).map Fm.c = L.map Fm.c ++ [x.c] by rw [List.map_append, HC1.out, List.map_singleton, HXC.out])
      have HT := Stow.mk (HT.out.kept hb7)
      have HP := Stow.mk (HP.out.kept hb7)
      have HR := Stow.mk (HR.out.kept hb7)
      have HB := Stow.mk (HB.out.trans (hb7.mono HB.out.size))
      have HZ := Stow.mk (HZ.out.trans (hb7.mono HZ.out.size))
      have hs7 := hb7.size
      have ht7 := HT.out.lt
      refine hK.out _ _ HP.out.range (fun hHeld => ?_)
      clear hK K hown7 hg7 hb7 hown1 hown2 hi hz hsz' hby
      try simp only [List.getElem_toArray, List.getElem_cons_zero, List.getElem_cons_succ, Act.put, List.setIfInBounds_toArray, List.set_cons_zero, List.set_cons_succ]
      refine wpAnyH_take (i := 9) (v := ?v9r) rfl (by kernel_rfl) (by kernel_rfl) (by kernel_rfl) (fun _ _ _ h => h) (Or.inl ⟨by rfl, ?hy9r⟩) (by assumption) ?rest9r
      case hy9r =>
        intro W hSW
        clear hSW
        go_simp
        try with_reducible rfl
      try simp only [List.getElem_toArray, List.getElem_cons_zero, List.getElem_cons_succ, Act.put, List.setIfInBounds_toArray, List.set_cons_zero, List.set_cons_succ]
      refine wpAnyH_ready (rs := [10]) (by kernel_rfl) (by simp) ?_
      refine AllReadyH.cons rfl (fun K hK => ?_) AllReadyH.nil
      rw [if_pos (by rfl)]
      have y0 := HT.out.cell (i := 0) rfl
      have z0 := HT.out.free 0
      go_simp
      have hO7 : Only w1.heap.size w7 (w7.setCell ⟨w1.heap.size, 0, none⟩ (.slice A6 (n + 1) c6)) := Only.set _ _ 0 _
      have HT := Stow.mk (HT.out.set 0 (.slice A6 (n + 1) c6))
      have HP := Stow.mk (HP.out.offO hO7 (by omega))
      have HR := Stow.mk (HR.out.offO hO7 (by omega))
      have HB := Stow.mk (HB.out.trans (hO7.below (show w.heap.size ≤ w1.heap.size by omega) HB.out.size))
      have HZ := Stow.mk (HZ.out.trans (hO7.below (Nat.le_refl _) HZ.out.size))
      have HFB := Stow.mk (show FlB (w7.setCell ⟨w1.heap.size, 0, none⟩ (.slice A6 (n + 1) c6)) W6.heap.size W.heap.size A6 c6 (L1 ++ [x']) from ⟨own_undr HOW.out hO7 (by omega), fun y hy => by
        rcases List.mem_append.1 hy with hy | hy
        · exact ⟨(HWE.out y hy).keep HZ.out, (HW.out.apart y hy).mono fun b hb => hb.1⟩
        · obtain rfl : y = x' := by simpa using hy
          exact ⟨HXR.out.only hO7 (HXN.out.mono fun b hb => by have := hb.1; simp at this; omega), HXN.out.mono fun b hb => by have := hb.1; simp at this; omega⟩⟩)
      have hs8 := hO7.size
      obtain ⟨W8, hW8⟩ : ∃ W, w7.setCell ⟨w1.heap.size, 0, none⟩ (.slice A6 (n + 1) c6) = W := ⟨_, rfl⟩
      rw [hW8] at HT HP HR HB HFB HZ hs8
      rw [hW8]
      refine hK.out _ _ HP.out.range (fun hHeld => ?_)
      clear hK K hO7 hW8 y0 z0
      refine wpAnyH_done (by kernel_rfl) ?_ _
      try simp only [List.getElem_toArray, List.getElem_cons_zero, List.getElem_cons_succ, Act.put]
      clear hHeld
      have q0 := HT.out.cell (i := 0) rfl
      have q1 := HT.out.cell (i := 1) rfl
      have s0 := HR.out.free 0
      have s1 := HR.out.free 1
      have r0 := HR.out.cell (i := 0) rfl
      have r1 := HR.out.cell (i := 1) rfl
      have hO1 : Only (w.heap.size + 1 + 1) W8 (W8.setCell ⟨w.heap.size + 1 + 1, 0, none⟩ (.slice A6 (n + 1) c6)) := Only.set _ _ 0 _
      have hO2 : Only (w.heap.size + 1 + 1) (W8.setCell ⟨w.heap.size + 1 + 1, 0, none⟩ (.slice A6 (n + 1) c6)) ((W8.setCell ⟨w.heap.size + 1 + 1, 0, none⟩ (.slice A6 (n + 1) c6)).setCell ⟨w.heap.size + 1 + 1, 1, none⟩ (.int .i64 hops)) := Only.set _ _ 1 _
      have hO := hO1.trans hO2
      have HN := Stow.mk ((HR.out.set 0 (.slice A6 (n + 1) c6)).set 1 (.int .i64 hops))
      have HF2 := Stow.mk (HFB.out.only hO (by omega) (by omega))
      have HB2 := Stow.mk (HB.out.trans (hO.below (show w.heap.size ≤ w.heap.size + 1 + 1 by omega) HB.out.size))
      clear hO1 hO2 hO
      go_wp2_with fail
      refine bodyPost_ret (flen_results _ (w.heap.size + 1 + 1) (.slice A6 (n + 1) c6) hops 0 _ HN.out rfl rfl) rfl ?_
      exact ⟨A6, c6, _, rfl, HSA.out, HF2.out.dd (by omega) (by omega), HB2.out⟩
end Go.Proofs.Ythbpcdoddcacdaa
