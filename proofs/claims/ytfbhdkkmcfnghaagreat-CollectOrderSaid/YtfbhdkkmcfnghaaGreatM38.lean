/- Each trace is stored once, in plain Lean. No condition.; A trace whose spans stand in another order, in plain Lean. No condition.; Walk of Collector.Kept. Conditions: the collector's memory.; Walks of Collector.Verdict and Tree, given that Kept answers. Conditions: the spans' memory.; A collector that is told the same batches in another order, in plain Lean. No condition. -/
import Derived.Test.YtfbhdkkmcfnghaaGreatM37
import Derived.Test.YtfbhdkkmcfnghaaGreatM32

section
namespace Go.Proofs.YtfbhdkkmcfnghaaGreat
set_option linter.unusedVariables false
namespace St
theorem putK_tr (k : Kp) (s : Sp) : (putK k s).tr = k.tr := by
  unfold putK
  split
  · rfl
  · split <;> rfl
theorem at_none_not {l : List Kp} {hi lo : Nat} (h : at_ l hi lo = none) : (hi, lo) ∉ l.map Kp.tr := by
  intro hm
  obtain ⟨k, hk, he⟩ := List.mem_map.1 hm
  unfold at_ at h
  rw [List.findIdx?_eq_none_iff] at h
  have := h k hk
  unfold Kp.tr at he
  cases he
  simp [is_] at this
theorem map_take_mid {l : List Kp} {i : Nat} (h : i < l.length) (k : Kp) (hk : k.tr = l[i].tr) : (l.take i ++ [k] ++ l.drop (i + 1)).map Kp.tr = l.map Kp.tr := by
  refine Eq.trans ?_ (congrArg (List.map Kp.tr) (map_mid h)).symm
  rw [List.map_append, List.map_append, List.map_append, List.map_cons, List.map_cons, hk]
  simp
theorem add_un {l : List Kp} (h : (l.map Kp.tr).Nodup) (r : Int) (s : Sp) : ((add l r s).1.map Kp.tr).Nodup := by
  cases ho : at_ l s.hi s.lo with
  | some i =>
    obtain ⟨hi, e⟩ := add_some (r := r) ho
    rw [e]
    simp only
    rw [map_take_mid hi _ (putK_tr _ _)]
    exact h
  | none =>
    rw [add_none ho]
    simp only
    rw [List.map_drop, List.map_append]
    refine List.Sublist.nodup (List.drop_sublist _ _) ?_
    rw [List.nodup_append]
    refine ⟨h, by simp, fun a ha b hb => ?_⟩
    obtain rfl : b = (s.hi, s.lo) := by simpa [one, Kp.tr] using hb
    intro e
    subst e
    exact at_none_not ho ha
theorem get_self {l : List Kp} (h : (l.map Kp.tr).Nodup) {k : Kp} (hk : k ∈ l) : get l k.hi k.lo = (k, true) := by
  have h2 := Co.get_mem hk
  unfold get at h2 ⊢
  cases ho : at_ l k.hi k.lo with
  | none => rw [ho] at h2; cases h2
  | some i =>
    obtain ⟨hi, hp⟩ := find_at ho
    simp only [List.getD_eq_getElem?_getD, List.getElem?_eq_getElem hi, Option.getD_some, Prod.mk.injEq, and_true]
    obtain ⟨j, hj, rfl⟩ := List.getElem_of_mem hk
    have hij : (l.map Kp.tr)[i]'(by simpa using hi) = (l.map Kp.tr)[j]'(by simpa using hj) := by
      simp only [List.getElem_map]
      simp only [is_, Bool.and_eq_true, beq_iff_eq] at hp
      unfold Kp.tr
      rw [hp.1, hp.2]
    have hpw := List.pairwise_iff_getElem.1 h
    have : i = j := by
      rcases Nat.lt_trichotomy i j with hlt | rfl | hlt
      · exact absurd hij (hpw i j (by simpa using hi) (by simpa using hj) hlt)
      · rfl
      · exact absurd hij.symm (hpw j i (by simpa using hj) (by simpa using hi) hlt)
    subst this
    rfl
end St
namespace Co
theorem adds_un (r : Int) : ∀ (L : List Sp) (K : List Kp) (n : Nat), (K.map Kp.tr).Nodup → ((adds r L K n).1.map Kp.tr).Nodup
  | [], K, n, h => h
  | s :: t, K, n, h => adds_un r t _ _ (St.add_un h r s)
theorem recv_un {c : Co} (h : c.trs.Nodup) (l : List UInt8) : (c.recv l).1.trs.Nodup := by
  unfold recv
  split
  · exact h
  · simp only
    unfold add
    split
    · exact adds_un _ _ _ _ h
    · exact h
end Co
end Go.Proofs.YtfbhdkkmcfnghaaGreat
end

section
namespace Go.Proofs.YtfbhdkkmcfnghaaGreat
set_option linter.unusedVariables false

/-- Two spans change places. -/
theorem Tr.Re.swap2 {L M : List Sp} {f : Nat → Nat} (h : Tr.Re L M f) {i j : Nat} (hi : i < M.length) (hj : j < M.length) : ∃ f', Tr.Re L ((M.set i (Tr.sp M j)).set j (Tr.sp M i)) f' :=
  ⟨_, h.trans (Tr.Re.swap hi hj)⟩
/-- In whatever order: what is said, what lacks, the tree. -/
theorem Tr.Re.same {L M : List Sp} {f : Nat → Nat} (h : Tr.Re L M f) (s c : Bool) : Tr.said L s c = Tr.said M s c ∧ Tr.lacks L = Tr.lacks M ∧ Tr.treeN L s c = Tr.treeN M s c := by
  have hs := Tr.said_perm h.perm s c
  refine ⟨hs, Tr.lacks_perm h.perm, ?_⟩
  by_cases h1 : Tr.said L s c = 1
  · have h2 : Tr.said M s c = 1 := by rw [← hs]; exact h1
    obtain ⟨r, hr, _, e⟩ := Tr.treeN_yes h1
    obtain ⟨r', hr', _, e'⟩ := Tr.treeN_yes h2
    obtain ⟨hl, rfl⟩ := h.root hr hr'
    have hst := fun i hi => (Tr.said_is h2).strict (i := i) hi
    rw [e, e', h.walk hst hl, List.map_map]
    apply List.map_congr_left
    intro p hp
    have hpl : p.1 < L.length := by
      have := (Tr.walk_out M r').lt p.1 (List.mem_map.2 ⟨p, hp, rfl⟩)
      rwa [h.len] at this
    simp only [Function.comp_apply, Tr.node]
    rw [h.at_ _ hpl]
  · rw [Tr.treeN_no h1, Tr.treeN_no (by rw [← hs]; exact h1)]
/-- One span stands ahead of both. -/
theorem Tr.Re.cons {L M : List Sp} {f : Nat → Nat} (h : Tr.Re L M f) (x : Sp) : Tr.Re (x :: L) (x :: M) (fun k => if k = 0 then 0 else f (k - 1) + 1) where
  len := by simp [h.len]
  lt i hi := by
    simp only [List.length_cons] at hi ⊢
    (try dsimp only)
    split
    · omega
    · have := h.lt (i - 1) (by omega)
      omega
  inj i j hi hj e := by
    simp only [List.length_cons] at hi hj
    (try dsimp only at e)
    split at e <;> split at e
    · omega
    · omega
    · omega
    · have := h.inj (i - 1) (j - 1) (by omega) (by omega) (by omega)
      omega
  on j hj := by
    simp only [List.length_cons] at hj
    by_cases h0 : j = 0
    · exact ⟨0, by simp, by simp [h0]⟩
    · obtain ⟨i, hi, e⟩ := h.on (j - 1) (by omega)
      refine ⟨i + 1, by simp; omega, ?_⟩
      simp [e]
      omega
  at_ i hi := by
    simp only [List.length_cons] at hi
    have hm := h.len
    by_cases h0 : i = 0
    · subst h0
      rw [Tr.sp_in (by simp), Tr.sp_in (by simp)]
      rfl
    · have h1 := h.at_ (i - 1) (by omega)
      have h2 := h.lt (i - 1) (by omega)
      rw [Tr.sp_in (by omega), Tr.sp_in h2] at h1
      rw [Tr.sp_in (by simp; omega)]
      simp only [if_neg h0]
      rw [Tr.sp_in (by simp; omega)]
      obtain ⟨k, rfl⟩ : ∃ k, i = k + 1 := ⟨i - 1, by omega⟩
      simpa using h1
theorem Tr.Re.of_perm {L M : List Sp} (h : L.Perm M) : ∃ f, Tr.Re L M f := by
  induction h with
  | nil => exact ⟨id, Tr.Re.refl []⟩
  | cons x _ ih =>
    obtain ⟨f, hf⟩ := ih
    exact ⟨_, hf.cons x⟩
  | swap x y l =>
    have := Tr.Re.swap (L := y :: x :: l) (i := 0) (j := 1) (by simp) (by simp)
    exact ⟨fun k => if k = 1 then 0 else if k = 0 then 1 else k, by simpa [Tr.sp] using this⟩
  | trans _ _ ih1 ih2 =>
    obtain ⟨f, hf⟩ := ih1
    obtain ⟨g, hg⟩ := ih2
    exact ⟨_, hf.trans hg⟩
end Go.Proofs.YtfbhdkkmcfnghaaGreat
end

section
namespace Go.Proofs.YtfbhdkkmcfnghaaGreat
open Go.RowKit
set_option linter.unusedVariables false
set_option linter.unusedSimpArgs false

theorem coKept_results (W : World) (g : Nat) (a b c d e f : Value) (tmps : Array Value) (hH : Held W g [a, b, c, d, e]) (h2 : tmps[4]?.getD undef = .pointer (some ⟨g, 0, none⟩)) (h3 : tmps[5]?.getD undef = f) :
    (results Tryz.f10 tmps).run Tryz.prog W = .ok (.tuple #[.agg #[a, b, c, d, e], f]) W := by
  have c0 := hH.cell (i := 0) rfl
  have c1 := hH.cell (i := 1) rfl
  have c2 := hH.cell (i := 2) rfl
  have c3 := hH.cell (i := 3) rfl
  have c4 := hH.cell (i := 4) rfl
  simp [results, Tryz.results10, go_sem, h2, h3, c0, c1, c2, c3, c4]
/-- A row of spans does not lie in a block with few unsigned numbers. -/
theorem slr_turnU2 {w w' : World} {g n cap : Nat} {cs : List Value} {A : Option Addr} {L : List Sp} (hH : Held w g cs) (hn : NoU (cs.drop 2)) (h : SlR w 11 (.slice A n cap) (L.map Sp.cells)) (ht : Turn (· = g) w w') : SlR w' 11 (.slice A n cap) (L.map Sp.cells) := by
  by_cases hL : L = []
  · subst hL
    obtain ⟨A', cap', hv, h1, h2, h3⟩ := h
    exact ⟨A', cap', hv, h1, h2, fun hne => absurd rfl hne⟩
  · refine slrTurn h ht (fun ad had heq => ?_)
    obtain ⟨A', cap', hv, _, _, h3⟩ := h
    simp only [Value.slice.injEq] at hv
    obtain ⟨rfl, rfl, rfl⟩ := hv
    obtain ⟨b, off, hA, hlt, hc⟩ := h3 (by simpa using hL)
    rw [had] at hA
    obtain rfl := Option.some.inj hA
    simp only at heq
    subst heq
    obtain ⟨x, t, rfl⟩ := List.exists_cons_of_ne_nil hL
    have h1 := hc 0 x.cells rfl 2 _ rfl
    obtain ⟨t', hg⟩ := hH
    rw [cell_of_row w b _ _ t' (0, 0) hg] at h1
    have h2 : (cs.drop 2)[off]? = some (.int .u64 (x.id : Int)) := by
      rw [List.getElem?_drop]
      have : 2 + off = off + 0 * 11 + 2 := by omega
      rw [this]
      simpa using h1
    exact hn _ (List.mem_of_getElem? h2)
/-- A trace that is given, in new memory. -/
def KeptOutN (k : Kp × Bool) (w : World) (e : Ending) (w' : World) : Prop := ∃ m' : Km, e = .returned (.tuple #[.agg m'.cells.toArray, .bool k.2]) ∧ m'.k = k.1 ∧ KmR w' m' ∧ Below w.heap.size w w' ∧ ∀ a, m'.A = some a → w.heap.size ≤ a.block
/-- A trace that is given. -/
def KeptOut (k : Kp × Bool) (w : World) (e : Ending) (w' : World) : Prop := ∃ m' : Km, e = .returned (.tuple #[.agg m'.cells.toArray, .bool k.2]) ∧ m'.k = k.1 ∧ KmR w' m' ∧ Below w.heap.size w w'
set_option maxHeartbeats 4000000 in
set_option maxRecDepth 100000 in
theorem coKept_nil (hi lo : Nat) (w : World) : Calls Tryz.prog 10 #[.pointer none, .agg #[.int .u64 (hi : Int), .int .u64 (lo : Int)]] w (KeptOut (St.none_, false) w) := by
  have ba := Below.alloc' (Below.self w) (.cells #[.int .u64 (hi : Int), .int .u64 (lo : Int)] 25)
  have bz := Below.alloc' (Below.self (w.alloc (.cells #[.int .u64 (hi : Int), .int .u64 (lo : Int)] 25))) (.cells #[.int .u64 0, .int .u64 0, .slice none 0 0, .bool false, .bool false] 40)
  have h2 := Held.made (w.alloc (.cells #[.int .u64 (hi : Int), .int .u64 (lo : Int)] 25)) [.int .u64 0, .int .u64 0, .slice none 0 0, .bool false, .bool false] 40
  have hb := Below.call ba bz
  obtain ⟨W, hW⟩ : ∃ W, (w.alloc (.cells #[.int .u64 (hi : Int), .int .u64 (lo : Int)] 25)).alloc (.cells #[.int .u64 0, .int .u64 0, .slice none 0 0, .bool false, .bool false] 40) = W := ⟨_, rfl⟩
  rw [show (w.alloc (.cells #[.int .u64 (hi : Int), .int .u64 (lo : Int)] 25)).alloc (.cells [.int .u64 0, .int .u64 0, .slice none 0 0, .bool false, .bool false].toArray 40) = W from hW] at h2
  rw [hW] at hb
  simp only [World.size_alloc] at h2
  have H2 := Stow.mk h2
  have H3 := Stow.mk (h2.over [.int .u64 0, .int .u64 0, .slice none 0 0, .bool false, .bool false] rfl)
  have hO : Only (w.heap.size + 1) W (W.setCells (w.heap.size + 1) 0 [.int .u64 0, .int .u64 0, .slice none 0 0, .bool false, .bool false]) := only_all _ _ _
  have HB3 := Stow.mk (hb.trans (hO.below (Nat.le_succ _) hb.size))
  have HW := Stow.mk hW
  clear ba bz h2 hb hW hO
  go_enter Tryz.func10, Tryz.ntmps10
  go_upto_region 1 with fail
  generalize hX : World.alloc (World.alloc w _) _ = X
  obtain rfl : W = X := HW.out.symm.trans hX
  clear hX HW
  have f0 := H2.out.free 0
  have f1 := H2.out.free 1
  have f2 := H2.out.free 2
  have f3 := H2.out.free 3
  have f4 := H2.out.free 4
  have c0 := H2.out.cell (i := 0) rfl
  have c1 := H2.out.cell (i := 1) rfl
  have c2 := H2.out.cell (i := 2) rfl
  have c3 := H2.out.cell (i := 3) rfl
  have c4 := H2.out.cell (i := 4) rfl
  go_wp2_with fail
  refine bodyPost_ret (coKept_results _ (w.heap.size + 1) _ _ _ _ _ _ _ H3.out rfl rfl) rfl ?_
  exact ⟨⟨St.none_, none, 0⟩, rfl, rfl, SlR.nil _ _, HB3.out⟩
set_option maxHeartbeats 4000000 in
set_option maxRecDepth 100000 in
theorem coKeptN_any {w : World} {P : Nat → Prop} {g m : Nat} {c : Co} (h : CoM w P g c) (hc : c.Ok m) (hi lo : Nat) : Calls Tryz.prog 10 #[.pointer (some ⟨g, 0, none⟩), .agg #[.int .u64 (hi : Int), .int .u64 (lo : Int)]] w (KeptOutN (St.get c.K hi lo) w) := by
  obtain ⟨v, W0, A, cap, R, h⟩ := h
  have hfw := h.row.few hc
  have hkk := h.row.kk
  have ba := Below.alloc' (Below.self w) (.cells #[.int .u64 (hi : Int), .int .u64 (lo : Int)] 25)
  have bz := Below.alloc' (Below.self (w.alloc (.cells #[.int .u64 (hi : Int), .int .u64 (lo : Int)] 25))) (.cells #[.int .u64 0, .int .u64 0, .slice none 0 0, .bool false, .bool false] 40)
  have h1 := (Held.made w [.int .u64 (hi : Int), .int .u64 (lo : Int)] 25).kept bz
  have h2 := Held.made (w.alloc (.cells #[.int .u64 (hi : Int), .int .u64 (lo : Int)] 25)) [.int .u64 0, .int .u64 0, .slice none 0 0, .bool false, .bool false] 40
  have hb := Below.call ba bz
  obtain ⟨W, hW⟩ : ∃ W, (w.alloc (.cells #[.int .u64 (hi : Int), .int .u64 (lo : Int)] 25)).alloc (.cells #[.int .u64 0, .int .u64 0, .slice none 0 0, .bool false, .bool false] 40) = W := ⟨_, rfl⟩
  rw [show (w.alloc (.cells #[.int .u64 (hi : Int), .int .u64 (lo : Int)] 25)).alloc (.cells [.int .u64 0, .int .u64 0, .slice none 0 0, .bool false, .bool false].toArray 40) = W from hW] at h2
  rw [show (w.alloc (.cells [.int .u64 (hi : Int), .int .u64 (lo : Int)].toArray 25)).alloc (.cells #[.int .u64 0, .int .u64 0, .slice none 0 0, .bool false, .bool false] 40) = W from hW] at h1
  rw [hW] at hb
  simp only [World.size_alloc] at h2
  have H1 := Stow.mk h1
  have H2 := Stow.mk h2
  have HB := Stow.mk hb
  have HW := Stow.mk hW
  have HG := Stow.mk (h.keep hb).head
  have hG := stGet_any A cap R hi lo W.drew (h.keep (hb.trans ((Below.drew (Below.self W)).mono hb.size))).row.ks (by omega) (fun m hm => by have := (hfw.2 m hm).1; omega)
  rw [hkk] at hG
  have HGT := Stow.mk hG
  have hgl := h.head.lt
  obtain ⟨k, hk⟩ : ∃ k, St.get c.K hi lo = k := ⟨_, rfl⟩
  rw [hk] at HGT ⊢
  clear ba bz h1 h2 hb hW h hG hk hkk hfw
  go_enter Tryz.func10, Tryz.ntmps10
  go_upto_region 1 with fail
  generalize hX : World.alloc (World.alloc w _) _ = X
  obtain rfl : W = X := HW.out.symm.trans hX
  clear hX HW
  have hWs := HB.out.size
  go_upto_region 3 with fail
  refine wp_region_held_drew (S := fun X => X.cell? ⟨g, 2, none⟩ = some (.slice A R.length cap) ∧ X.rangeAt w.heap.size 0 [.int .u64 (hi : Int), .int .u64 (lo : Int)]) (by kernel_rfl) ⟨HG.out.cell (i := 2) rfl, H1.out.range⟩ (fun hHeld => ?_)
  refine wpAnyH_take (i := 0) (v := ?v0) rfl (by kernel_rfl) (by kernel_rfl) (by kernel_rfl) (fun _ _ _ h => h) (Or.inl ⟨by rfl, ?hy0⟩) (by assumption) ?rest0
  case hy0 =>
    intro W hSW
    try dsimp only at hSW
    obtain ⟨hs0, hs1⟩ := hSW
    go_simp
    try with_reducible rfl
  try simp only [List.getElem_toArray, List.getElem_cons_zero, List.getElem_cons_succ, Act.put, List.setIfInBounds_toArray, List.set_cons_zero, List.set_cons_succ]
  refine wpAnyH_take (i := 1) (v := ?v1) rfl (by kernel_rfl) (by kernel_rfl) (by kernel_rfl) (fun _ _ _ h => h) (Or.inl ⟨by rfl, ?hy1⟩) (by assumption) ?rest1
  case hy1 =>
    intro W hSW
    try dsimp only at hSW
    obtain ⟨hs0, hs1⟩ := hSW
    go_simp
    try with_reducible rfl
  try simp only [List.getElem_toArray, List.getElem_cons_zero, List.getElem_cons_succ, Act.put, List.setIfInBounds_toArray, List.set_cons_zero, List.set_cons_succ]
  refine wpAnyH_take (i := 2) (v := ?v2) rfl (by kernel_rfl) (by kernel_rfl) (by kernel_rfl) (fun _ _ _ h => h) (Or.inl ⟨by rfl, ?hy2⟩) (by assumption) ?rest2
  case hy2 =>
    intro W hSW
    try dsimp only at hSW
    obtain ⟨hs0, hs1⟩ := hSW
    go_simp
    try with_reducible rfl
  try simp only [List.getElem_toArray, List.getElem_cons_zero, List.getElem_cons_succ, Act.put, List.setIfInBounds_toArray, List.set_cons_zero, List.set_cons_succ]
  refine wpAnyH_take (i := 3) (v := ?v3) rfl (by kernel_rfl) (by kernel_rfl) (by kernel_rfl) (fun _ _ _ h => h) (Or.inl ⟨by rfl, ?hy3⟩) (by assumption) ?rest3
  case hy3 =>
    intro W hSW
    try dsimp only at hSW
    obtain ⟨hs0, hs1⟩ := hSW
    go_simp
    try with_reducible rfl
  try simp only [List.getElem_toArray, List.getElem_cons_zero, List.getElem_cons_succ, Act.put, List.setIfInBounds_toArray, List.set_cons_zero, List.set_cons_succ]
  refine wpAnyH_take (i := 4) (v := .agg ([Value.int .u64 (hi : Int), .int .u64 (lo : Int)]).toArray) rfl (by kernel_rfl) (by kernel_rfl) (by kernel_rfl) (fun _ _ _ h => h) (yieldsIf_load_mid ?yw4 25 (.tmp 3) ?yo4 w.heap.size 0 ?yx4 ([Value.int .u64 (hi : Int), .int .u64 (lo : Int)]) _ ?ys4 Tryz.underlying25 rfl ?yi4) (by assumption) ?rest4
  case yw4 => rfl
  case yo4 => rfl
  case yx4 => simp [Act.eval]
  case ys4 => exact fun W hW => hW.2
  case yi4 => first | kernel_rfl | (simp only [Fm.cells_len]; kernel_rfl)
  try simp only [List.getElem_toArray, List.getElem_cons_zero, List.getElem_cons_succ, Act.put, List.setIfInBounds_toArray, List.set_cons_zero, List.set_cons_succ]
  refine wpAnyH_ready (rs := [5]) (by kernel_rfl) (by simp) ?_
  refine AllReadyH.cons rfl (fun K hK => ?_) AllReadyH.nil
  rw [if_pos (by rfl)]
  go_simp
  refine HGT.out.mono ?_
  rintro e w4 ⟨m', rfl, hk', hR', hb4, hn4⟩
  have HNW := Stow.mk (show ∀ a, m'.A = some a → w.heap.size ≤ a.block from fun a ha => Nat.le_trans hWs (hn4 a ha))
  have hb4' : Below W.heap.size W w4 := (Below.drew (Below.self W)).trans hb4
  have HG := Stow.mk (HG.out.kept hb4')
  have H1 := Stow.mk (H1.out.kept hb4')
  have H2 := Stow.mk (H2.out.kept hb4')
  have HB := Stow.mk (HB.out.trans (hb4'.mono HB.out.size))
  have HXR := Stow.mk hR'
  have HXC := Stow.mk hk'
  dsimp only
  refine hK.out _ _ ⟨HG.out.cell (i := 2) rfl, H1.out.range⟩ (fun hHeld => ?_)
  clear hK K hR' hk' hb4 hb4' hn4
  try simp only [List.getElem_toArray, List.getElem_cons_zero, List.getElem_cons_succ, Act.put, List.setIfInBounds_toArray, List.set_cons_zero, List.set_cons_succ]
  refine wpAnyH_take (i := 6) (v := ?v6b) rfl (by kernel_rfl) (by kernel_rfl) (by kernel_rfl) (fun _ _ _ h => h) (Or.inl ⟨by rfl, ?hy6b⟩) (by assumption) ?rest6b
  case hy6b =>
    intro W hSW
    clear hSW
    go_simp
    try with_reducible rfl
  try simp only [List.getElem_toArray, List.getElem_cons_zero, List.getElem_cons_succ, Act.put, List.setIfInBounds_toArray, List.set_cons_zero, List.set_cons_succ]
  refine wpAnyH_take (i := 7) (v := ?v7b) rfl (by kernel_rfl) (by kernel_rfl) (by kernel_rfl) (fun _ _ _ h => h) (Or.inl ⟨by rfl, ?hy7b⟩) (by assumption) ?rest7b
  case hy7b =>
    intro W hSW
    clear hSW
    go_simp
    try with_reducible rfl
  try simp only [List.getElem_toArray, List.getElem_cons_zero, List.getElem_cons_succ, Act.put, List.setIfInBounds_toArray, List.set_cons_zero, List.set_cons_succ]
  refine wpAnyH_ready (rs := [8]) (by kernel_rfl) (by simp) ?_
  refine AllReadyH.cons rfl (fun K hK => ?_) AllReadyH.nil
  rw [if_pos (by rfl)]
  refine wp_store_mid 40 (.tmp 4) (.tmp 15) ?yo6 (w.heap.size + 1) 0 m'.cells.toArray ?yx6 ?yy6 ?yt6 ?yi6 (all_oneCell_toArray (Km.one m')) ?yh6
  case yo6 => rfl
  case yx6 => simp [Act.eval]
  case yy6 => rfl
  case yt6 => exact H2.out.there
  case yi6 => rw [List.size_toArray, Km.cells_len]; kernel_rfl
  rw [List.toList_toArray]
  have H3 := Stow.mk (H2.out.over m'.cells rfl)
  have hO : Only (w.heap.size + 1) w4 (w4.setCells (w.heap.size + 1) 0 m'.cells) := only_all _ _ _
  have HB3 := Stow.mk (HB.out.trans (hO.below (Nat.le_succ _) HB.out.size))
  have HR := Stow.mk (show KmR _ m' from slr_turnU2 H2.out (by intro k hk; simp at hk) HXR.out (Turn.of_grown hO (.inl rfl)))
  have HG := Stow.mk (HG.out.offO hO (by omega))
  have H1 := Stow.mk (H1.out.offO hO (by omega))
  refine hK.out _ _ ⟨HG.out.cell (i := 2) rfl, H1.out.range⟩ (fun hHeld => ?_)
  clear hK K hO
  try simp only [List.getElem_toArray, List.getElem_cons_zero, List.getElem_cons_succ, Act.put, List.setIfInBounds_toArray, List.set_cons_zero, List.set_cons_succ]
  refine wpAnyH_take (i := 9) (v := ?v9c) rfl (by kernel_rfl) (by kernel_rfl) (by kernel_rfl) (fun _ _ _ h => h) (Or.inl ⟨by rfl, ?hy9c⟩) (by assumption) ?rest9c
  case hy9c =>
    intro W hSW
    clear hSW
    go_simp
    try with_reducible rfl
  try simp only [List.getElem_toArray, List.getElem_cons_zero, List.getElem_cons_succ, Act.put, List.setIfInBounds_toArray, List.set_cons_zero, List.set_cons_succ]
  refine wpAnyH_done (by kernel_rfl) ?_ _
  try simp only [List.getElem_toArray, List.getElem_cons_zero, List.getElem_cons_succ, Act.put]
  clear hHeld
  go_wp2_with fail
  obtain ⟨⟨mh, ml, mL, mx, mc⟩, mA, mcap⟩ := m'
  have H4 := Stow.mk (show Held _ (w.heap.size + 1) [.int .u64 (mh : Int), .int .u64 (ml : Int), .slice mA mL.length mcap, .bool mx, .bool mc] from H3.out)
  refine bodyPost_ret (coKept_results _ (w.heap.size + 1) _ _ _ _ _ _ _ H4.out rfl rfl) rfl ?_
  exact ⟨⟨⟨mh, ml, mL, mx, mc⟩, mA, mcap⟩, rfl, HXC.out, HR.out, HB3.out, HNW.out⟩
theorem coKept_any {w : World} {P : Nat → Prop} {g m : Nat} {c : Co} (h : CoM w P g c) (hc : c.Ok m) (hi lo : Nat) : Calls Tryz.prog 10 #[.pointer (some ⟨g, 0, none⟩), .agg #[.int .u64 (hi : Int), .int .u64 (lo : Int)]] w (KeptOut (St.get c.K hi lo) w) :=
  (coKeptN_any h hc hi lo).mono fun _ _ ⟨m', a, b, c, d, _⟩ => ⟨m', a, b, c, d⟩
end Go.Proofs.YtfbhdkkmcfnghaaGreat
end

section
namespace Go.Proofs.YtfbhdkkmcfnghaaGreat
open Go.RowKit
set_option linter.unusedVariables false
set_option linter.unusedSimpArgs false

def saidK (k : Kp × Bool) : Nat := if k.2 = true then Tr.said k.1.L k.1.x k.1.c else 0
def treeK (k : Kp × Bool) : List Nv := if k.2 = true then Tr.treeN k.1.L k.1.x k.1.c else []
def wholeK (k : Kp × Bool) : Bool := decide (saidK k = 1)
def OkK (k : Kp × Bool) : Prop := k.2 = true → k.1.L.length ≤ 1000 ∧ KdOk k.1.L
set_option maxHeartbeats 4000000 in
set_option maxRecDepth 100000 in
theorem coVerdict_of (p : Value) (k : Kp × Bool) (hi lo : Nat) (w : World) (HK : ∀ W, Below w.heap.size w W → Calls Tryz.prog 10 #[p, .agg #[.int .u64 (hi : Int), .int .u64 (lo : Int)]] W (KeptOut k W)) (hok : OkK k) :
    Calls Tryz.prog 14 #[p, .agg #[.int .u64 (hi : Int), .int .u64 (lo : Int)]] w fun e w' => e = .returned (.int .i64 (saidK k : Nat)) ∧ Below w.heap.size w w' := by
  have ba := Below.alloc' (Below.self w) (.cells #[.int .u64 (hi : Int), .int .u64 (lo : Int)] 25)
  have h1 := Held.made w [.int .u64 (hi : Int), .int .u64 (lo : Int)] 25
  obtain ⟨W, hW⟩ : ∃ W, w.alloc (.cells #[.int .u64 (hi : Int), .int .u64 (lo : Int)] 25) = W := ⟨_, rfl⟩
  rw [show w.alloc (.cells [.int .u64 (hi : Int), .int .u64 (lo : Int)].toArray 25) = W from hW] at h1
  rw [hW] at ba
  have HB := Stow.mk ba
  have HKC := Stow.mk (HK W ba)
  have HW := Stow.mk hW
  have HOK := Stow.mk hok
  have c0 := h1.cell (i := 0) rfl
  have c1 := h1.cell (i := 1) rfl
  clear ba h1 hW HK hok
  go_enter Tryz.func14, Tryz.ntmps14
  go_upto_region 1 with fail
  generalize hX : World.alloc w _ = X
  obtain rfl : W = X := HW.out.symm.trans hX
  clear hX HW
  go_wp2_with fail
  refine HKC.out.mono ?_
  rintro e w1 ⟨⟨⟨mh, ml, mL, mx, mc⟩, mA, mcap⟩, rfl, hk', hR', hb1⟩
  obtain ⟨kp, kb⟩ := k
  simp only at hk'
  subst hk'
  have HR := Stow.mk (show SpR w1 mA mcap mL from hR')
  have HB := Stow.mk (HB.out.trans (hb1.mono HB.out.size))
  have HB1 := Stow.mk (HB.out.alloc HB.out.size (.cells #[.int .u64 (mh : Int), .int .u64 (ml : Int), .slice mA mL.length mcap, .bool mx, .bool mc] 40))
  have HR1 := Stow.mk (HR.out.alloc (.cells #[.int .u64 (mh : Int), .int .u64 (ml : Int), .slice mA mL.length mcap, .bool mx, .bool mc] 40))
  clear hR' hb1 c0 c1
  dsimp only [Km.cells]
  cases kb with
  | false =>
    go_wp2_with fail
    go_ret
    exact ⟨rfl, HB1.out⟩
  | true =>
    obtain ⟨hn, hkd⟩ := HOK.out rfl
    have HKV := Stow.mk (vdOf_any mA mcap mh ml mL mx mc _ HR1.out (by simp only at hn; omega) hkd)
    clear hn hkd
    go_wp2_with fail
    refine HKV.out.mono ?_
    rintro e w2 ⟨rfl, hb2⟩
    have HB2 := Stow.mk (HB1.out.trans (hb2.mono HB1.out.size))
    clear hb2
    go_wp2_with fail
    go_ret
    exact ⟨rfl, HB2.out⟩
set_option maxHeartbeats 4000000 in
set_option maxRecDepth 100000 in
theorem coTree_of (p : Value) (k : Kp × Bool) (hi lo : Nat) (w : World) (HK : ∀ W, Below w.heap.size w W → Calls Tryz.prog 10 #[p, .agg #[.int .u64 (hi : Int), .int .u64 (lo : Int)]] W (KeptOut k W)) (hok : OkK k) :
    Calls Tryz.prog 23 #[p, .agg #[.int .u64 (hi : Int), .int .u64 (lo : Int)]] w (TreeOut (treeK k) (wholeK k) w) := by
  have ba := Below.alloc' (Below.self w) (.cells #[.int .u64 (hi : Int), .int .u64 (lo : Int)] 25)
  have h1 := Held.made w [.int .u64 (hi : Int), .int .u64 (lo : Int)] 25
  obtain ⟨W, hW⟩ : ∃ W, w.alloc (.cells #[.int .u64 (hi : Int), .int .u64 (lo : Int)] 25) = W := ⟨_, rfl⟩
  rw [show w.alloc (.cells [.int .u64 (hi : Int), .int .u64 (lo : Int)].toArray 25) = W from hW] at h1
  rw [hW] at ba
  have HB := Stow.mk ba
  have HKC := Stow.mk (HK W ba)
  have HW := Stow.mk hW
  have HOK := Stow.mk hok
  have c0 := h1.cell (i := 0) rfl
  have c1 := h1.cell (i := 1) rfl
  clear ba h1 hW HK hok
  go_enter Tryz.func23, Tryz.ntmps23
  go_upto_region 1 with fail
  generalize hX : World.alloc w _ = X
  obtain rfl : W = X := HW.out.symm.trans hX
  clear hX HW
  go_wp2_with fail
  refine HKC.out.mono ?_
  rintro e w1 ⟨⟨⟨mh, ml, mL, mx, mc⟩, mA, mcap⟩, rfl, hk', hR', hb1⟩
  obtain ⟨kp, kb⟩ := k
  simp only at hk'
  subst hk'
  have HR := Stow.mk (show SpR w1 mA mcap mL from hR')
  have HB := Stow.mk (HB.out.trans (hb1.mono HB.out.size))
  have HB1 := Stow.mk (HB.out.alloc HB.out.size (.cells #[.int .u64 (mh : Int), .int .u64 (ml : Int), .slice mA mL.length mcap, .bool mx, .bool mc] 40))
  have HR1 := Stow.mk (HR.out.alloc (.cells #[.int .u64 (mh : Int), .int .u64 (ml : Int), .slice mA mL.length mcap, .bool mx, .bool mc] 40))
  clear hR' hb1 c0 c1
  dsimp only [Km.cells]
  cases kb with
  | false =>
    go_wp2_with fail
    refine bodyPost_ret (results_tmp2 rfl _ _ _) rfl ?_
    exact ⟨none, 0, rfl, nvr_nil _, HB1.out⟩
  | true =>
    obtain ⟨hn, hkd⟩ := HOK.out rfl
    have HKV := Stow.mk (vdTree_any mA mcap mh ml mL mx mc _ HR1.out (by simp only at hn; omega) hkd)
    clear hn hkd
    go_wp2_with fail
    refine HKV.out.mono ?_
    rintro e w2 ⟨vA, vc, rfl, hn2, hb2⟩
    have HB2 := Stow.mk (HB1.out.trans (hb2.mono HB1.out.size))
    have HN2 := Stow.mk hn2
    clear hb2 hn2
    go_wp2_with fail
    refine bodyPost_ret (results_tmp2 rfl _ _ _) rfl ?_
    exact ⟨vA, vc, rfl, HN2.out, HB2.out⟩
theorem Co.Ok.okK {c : Co} {m : Nat} (h : c.Ok m) (hi lo : Nat) : OkK (St.get c.K hi lo) := by
  intro hb
  unfold St.get at hb ⊢
  cases ho : St.at_ c.K hi lo with
  | none => rw [ho] at hb; cases hb
  | some i =>
    obtain ⟨hl, _⟩ := St.find_at ho
    have hm := List.getElem_mem hl
    simp only [List.getD_eq_getElem?_getD, List.getElem?_eq_getElem hl, Option.getD_some]
    exact ⟨by have := (h.fine.each _ hm).2; omega, h.kd _ hm⟩
theorem okK_none : OkK (St.none_, false) := fun h => by cases h
theorem coVerdict_any {w : World} {P : Nat → Prop} {g m : Nat} {c : Co} (h : CoM w P g c) (hc : c.Ok m) (hi lo : Nat) : Calls Tryz.prog 14 #[.pointer (some ⟨g, 0, none⟩), .agg #[.int .u64 (hi : Int), .int .u64 (lo : Int)]] w fun e w' => e = .returned (.int .i64 (saidK (St.get c.K hi lo) : Nat)) ∧ Below w.heap.size w w' :=
  coVerdict_of _ _ hi lo w (fun W hb => coKept_any (h.keep hb) hc hi lo) (hc.okK hi lo)
theorem coTree_any {w : World} {P : Nat → Prop} {g m : Nat} {c : Co} (h : CoM w P g c) (hc : c.Ok m) (hi lo : Nat) : Calls Tryz.prog 23 #[.pointer (some ⟨g, 0, none⟩), .agg #[.int .u64 (hi : Int), .int .u64 (lo : Int)]] w (TreeOut (treeK (St.get c.K hi lo)) (wholeK (St.get c.K hi lo)) w) :=
  coTree_of _ _ hi lo w (fun W hb => coKept_any (h.keep hb) hc hi lo) (hc.okK hi lo)
theorem coVerdict_nil (hi lo : Nat) (w : World) : Calls Tryz.prog 14 #[.pointer none, .agg #[.int .u64 (hi : Int), .int .u64 (lo : Int)]] w fun e w' => e = .returned (.int .i64 0) ∧ Below w.heap.size w w' :=
  coVerdict_of _ _ hi lo w (fun W hb => coKept_nil hi lo W) okK_none
theorem coTree_nil (hi lo : Nat) (w : World) : Calls Tryz.prog 23 #[.pointer none, .agg #[.int .u64 (hi : Int), .int .u64 (lo : Int)]] w (TreeOut [] false w) :=
  coTree_of _ _ hi lo w (fun W hb => coKept_nil hi lo W) okK_none
end Go.Proofs.YtfbhdkkmcfnghaaGreat
end

section
namespace Go.Proofs.YtfbhdkkmcfnghaaGreat
set_option linter.unusedVariables false

theorem snoc_ind {α : Type} {P : List α → Prop} (h0 : P []) (h1 : ∀ t a, P t → P (t ++ [a])) (l : List α) : P l := by
  have : ∀ n, ∀ l : List α, l.length = n → P l := by
    intro n
    induction n with
    | zero =>
      intro l hl
      obtain rfl := List.eq_nil_of_length_eq_zero hl
      exact h0
    | succ n ih =>
      intro l hl
      have hne : l ≠ [] := by intro e; subst e; simp at hl
      rw [← List.dropLast_concat_getLast hne]
      exact h1 _ _ (ih _ (by simp [hl]))
  exact this _ l rfl
/-- A batch. -/
structure Bm where
  (n q : Int)
  L : List Sp
namespace Dd
/-- All numbers that windows hold are of these moves, and are below a hundred. -/
structure Low (L : List Wi) (M : List (Int × Int)) : Prop where
  ok : Ok L
  of_ : ∀ w ∈ L, ∀ x ∈ w.s, (w.n, x) ∈ M
theorem Low.nil : Low [] [] := ⟨Ok.nil, by simp⟩
theorem mem_set_or {α : Type} {l : List α} {i : Nat} {a x : α} (h : x ∈ l.set i a) : x ∈ l ∨ x = a := by
  rcases List.mem_or_eq_of_mem_set h with h | h
  · exact .inl h
  · exact .inr h
theorem Low.next {L : List Wi} {M : List (Int × Int)} (h : Low L M) (hM : ∀ m ∈ M, m.2 ≤ 99) {n x : Int} (hb : bad n x = false) (hx : x ≤ 99) (hn : (n, x) ∉ M) : (fresh L n x).2 = true ∧ Low (fresh L n x).1 (M ++ [(n, x)]) := by
  have hx0 : 0 ≤ x := by simp [bad] at hb; omega
  have hok' := h.ok.fresh (node := n) (x := x)
  unfold fresh at hok' ⊢
  rw [hb] at hok' ⊢
  simp only [Bool.false_eq_true, if_false] at hok' ⊢
  cases hp : pl L n with
  | none =>
    rw [hp] at hok'
    refine ⟨rfl, hok', fun w hw y hy => ?_⟩
    rcases List.mem_append.1 hw with hw | hw
    · exact List.mem_append_left _ (h.of_ w hw y hy)
    · obtain rfl := List.mem_singleton.1 hw
      obtain rfl := List.mem_singleton.1 hy
      exact List.mem_append_right _ (by simp)
  | some i =>
    obtain ⟨hi, hwn, _⟩ := pl_some hp
    rw [hp] at hok'
    simp only [List.getElem?_eq_getElem hi] at hok' ⊢
    have hw := List.getElem_mem hi
    have hh := hM _ (h.of_ _ hw _ (h.ok.each _ hw).top)
    simp only at hh
    have hns : x ∉ L[i].s := fun hx' => hn (by have := h.of_ _ hw _ hx'; rwa [hwn] at this)
    have key : ∃ w', step L[i] x = some w' ∧ w'.n = n ∧ ∀ y ∈ w'.s, y ∈ L[i].s ∨ y = x := by
      unfold step
      by_cases h1 : L[i].h < x
      · rw [if_pos h1]
        refine ⟨_, rfl, hwn, fun y hy => ?_⟩
        simp only [high, List.mem_append, List.mem_filter, List.mem_singleton] at hy
        rcases hy with hy | hy
        · exact .inl hy.1
        · exact .inr hy
      · rw [if_neg h1, if_neg (by rintro (h2 | h2); omega; exact hns h2)]
        refine ⟨_, rfl, hwn, fun y hy => ?_⟩
        simp only [low, ins, List.mem_append, List.mem_filter, List.mem_cons] at hy
        rcases hy with hy | hy | hy
        · exact .inl hy.1
        · exact .inr hy
        · exact .inl hy.1
    obtain ⟨w', hs, hn', hk⟩ := key
    rw [hs] at hok' ⊢
    refine ⟨rfl, hok', fun w hw' y hy => ?_⟩
    rcases mem_set_or hw' with hw' | rfl
    · exact List.mem_append_left _ (h.of_ w hw' y hy)
    · rcases hk y hy with hy | rfl
      · have := h.of_ _ hw _ hy
        rw [hwn] at this
        rw [hn']
        exact List.mem_append_left _ this
      · rw [hn']
        exact List.mem_append_right _ (by simp)
end Dd
namespace Co
theorem adds_append (r : Int) : ∀ (A B : List Sp) (K : List Kp) (n : Nat), adds r (A ++ B) K n = adds r B (adds r A K n).1 (adds r A K n).2
  | [], B, K, n => rfl
  | s :: t, B, K, n => adds_append r t B _ _
/-- Batches, one after another. -/
def feed (c : Co) (M : List Bm) : Co := M.foldl (fun c m => c.add m.n m.q m.L) c
theorem feed_snoc (c : Co) (M : List Bm) (m : Bm) : feed c (M ++ [m]) = (feed c M).add m.n m.q m.L := by simp [feed]
/-- Unlike numbers, all below a hundred. -/
structure Unl (M : List Bm) : Prop where
  un : (M.map fun m => (m.n, m.q)).Nodup
  ok : ∀ m ∈ M, Dd.bad m.n m.q = false ∧ m.q ≤ 99
theorem Unl.init {M : List Bm} {m : Bm} (h : Unl (M ++ [m])) : Unl M ∧ (m.n, m.q) ∉ M.map (fun m => (m.n, m.q)) := by
  have h1 := h.un
  rw [List.map_append, List.nodup_append] at h1
  refine ⟨⟨h1.1, fun x hx => h.ok x (List.mem_append_left _ hx)⟩, fun hm => h1.2.2 _ hm _ (by simp) rfl⟩
theorem feed_is (r : Int) (M : List Bm) (h : Unl M) : Dd.Low (feed ⟨r, [], [], 0, 0, 0, 0⟩ M).D (M.map fun m => (m.n, m.q)) ∧ feed ⟨r, [], [], 0, 0, 0, 0⟩ M = { room := r, D := (feed ⟨r, [], [], 0, 0, 0, 0⟩ M).D, K := (adds r (M.flatMap Bm.L) [] 0).1, tk := M.length, tw := 0, bd := 0, ev := (adds r (M.flatMap Bm.L) [] 0).2 } := by
  refine snoc_ind (P := fun M => Unl M → Dd.Low (feed ⟨r, [], [], 0, 0, 0, 0⟩ M).D (M.map fun m => (m.n, m.q)) ∧ feed ⟨r, [], [], 0, 0, 0, 0⟩ M = { room := r, D := (feed ⟨r, [], [], 0, 0, 0, 0⟩ M).D, K := (adds r (M.flatMap Bm.L) [] 0).1, tk := M.length, tw := 0, bd := 0, ev := (adds r (M.flatMap Bm.L) [] 0).2 }) ?_ ?_ M h
  · intro _
    exact ⟨Dd.Low.nil, rfl⟩
  · intro M m ih hu
    obtain ⟨hu1, hn⟩ := hu.init
    obtain ⟨h1, h2⟩ := ih hu1
    have hm := hu.ok m (by simp)
    obtain ⟨hf, hl⟩ := h1.next (fun p hp => by obtain ⟨y, hy, rfl⟩ := List.mem_map.1 hp; exact (hu1.ok y hy).2) hm.1 hm.2 hn
    rw [feed_snoc]
    have hr : (feed ⟨r, [], [], 0, 0, 0, 0⟩ M).room = r := by rw [h2]
    have hK : (feed ⟨r, [], [], 0, 0, 0, 0⟩ M).K = (adds r (M.flatMap Bm.L) [] 0).1 := by rw [h2]
    have hev : (feed ⟨r, [], [], 0, 0, 0, 0⟩ M).ev = (adds r (M.flatMap Bm.L) [] 0).2 := by rw [h2]
    have htk : (feed ⟨r, [], [], 0, 0, 0, 0⟩ M).tk = M.length := by rw [h2]
    have htw : (feed ⟨r, [], [], 0, 0, 0, 0⟩ M).tw = 0 := by rw [h2]
    have hbd : (feed ⟨r, [], [], 0, 0, 0, 0⟩ M).bd = 0 := by rw [h2]
    generalize feed ⟨r, [], [], 0, 0, 0, 0⟩ M = c at *
    unfold add
    rw [if_pos hf]
    refine ⟨by simpa using hl, ?_⟩
    rw [List.flatMap_append, adds_append]
    simp [hr, hK, hev, htk, htw, hbd]
end Co
end Go.Proofs.YtfbhdkkmcfnghaaGreat
end
