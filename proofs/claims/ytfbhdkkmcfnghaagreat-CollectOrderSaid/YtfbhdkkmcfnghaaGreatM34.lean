/- Walk of dedup.higher. Condition: a window as it comes of numbers, in a row of the caller's own.; Walk of dedup.lower. Condition: a window as it comes of numbers, in a row of the caller's own. -/
import Derived.Test.YtfbhdkkmcfnghaaGreatM33
import Derived.Deep.RegionLawGrows
import Derived.BigQuiet

section
namespace Go.Proofs.YtfbhdkkmcfnghaaGreat
open Go.RowKit Go.Lib Go.Sort
set_option linter.unusedVariables false

set_option maxHeartbeats 400000 in
theorem ddHighBody_any (y x : Int) (b : Nat) (W : World) (hc : W.cell? ⟨b, 0, none⟩ = some (.int .i64 x)) (h0 : 0 ≤ x) (h1 : x ≤ 1099511627776) :
    Calls Tryz.prog 128 #[.int .i64 y, .pointer (some ⟨b, 0, none⟩)] W fun e w' => e = .returned (.bool (decide (y ≤ x - 128))) ∧ w' = W := by
  go_enter Tryz.func128, Tryz.ntmps128
  go_wp2_with fail
  go_ret
  exact ⟨rfl, rfl⟩

theorem only_putRow (g : Nat) (w : World) (q : Nat) (d : Array Int) : Only g w (putRow (Value.int .i64) (Sort.ahead w q) g 0 d) := by
  refine ⟨rfl, rfl, rfl, by simp [size_putRow, Sort.ahead], fun k hk hne => ?_⟩
  have hne' : ¬ g = k := fun e => hne (by rw [e])
  simp [putRow, mapBlock, Array.getElem?_modify, hne', Sort.ahead]

def keepS (x : Int) (s : List Int) : List Int := s.filter (x - 128 < ·)

theorem ddDelete_any (x : Int) (s : List Int) (g cap gb B : Nat) (w : World) (hI : WnRow w B (.slice (some ⟨g, 0, none⟩) s.length cap) s) (hn : 0 < s.length) (h9 : s.length ≤ 128) (hb : gb < w.heap.size) (hne : gb ≠ g)
    (hc : w.cell? ⟨gb, 0, none⟩ = some (.int .i64 x)) (h0 : 0 ≤ x) (h1 : x ≤ 1099511627776) :
    Calls Tryz.prog 127 #[.slice (some ⟨g, 0, none⟩) s.length cap, .func (.func 128) #[] #[.pointer (some ⟨gb, 0, none⟩)]] w fun e w' =>
      e = .returned (.slice (some ⟨g, 0, none⟩) (keepS x s).length cap) ∧ Only g w w' ∧ ∀ j (hj : j < (keepS x s).length), w'.cell? ⟨g, j, none⟩ = some (.int .i64 (keepS x s)[j]) := by
  have eg : ∀ args w, (callFunc 128 args).run Tryz.prog w = .ok (.enter 128 args) w := enters_of Tryz.func128 (by kernel_rfl) rfl
  have hcap : s.length ≤ cap := by
    rcases hI.2 with ⟨h1, _⟩ | ⟨g', cap', cur, hv, _, _, h3, _⟩
    · simp at h1
    · simp only [Value.slice.injEq] at hv; omega
  have hH : Holds (Value.int .i64) w g 0 s.toArray := fun j hj => by
    have hj' : j < s.length := by simpa using hj
    refine ⟨?_, ?_⟩
    · have := (ints_at hI.slr hj').2
      rw [this]
      simp [hj']
    · exact World.ownsRow.frozenAt hI _
  have hp : PredAt Tryz.prog 128 #[.pointer (some ⟨gb, 0, none⟩)] (Value.int .i64) (fun y => decide (y ≤ x - 128)) w := fun W y hbl => by
    refine (ddHighBody_any y x gb W ((hbl.cell (p := ⟨gb, 0, none⟩) hb).trans hc) h0 h1).mono ?_
    rintro e w' ⟨rfl, rfl⟩
    exact ⟨rfl, 0, rfl⟩
  have hpo : PredOver Tryz.prog 128 #[.pointer (some ⟨gb, 0, none⟩)] (Value.int .i64) (fun y => decide (y ≤ x - 128)) g 0 s.toArray.size w := fun n os dk y _ => by
    refine (ddHighBody_any y x gb _ ?_ h0 h1).mono ?_
    · unfold sortWorld
      rw [cell?_grow _ _ _ (by show gb < (putRow _ _ _ _ _).heap.size; rw [size_putRow]; exact hb), cell?_putRow_other _ _ g 0 _ _ (Or.inl hne)]
      exact hc
    rintro e w' ⟨rfl, rfl⟩
    exact ⟨rfl, 0, rfl⟩
  have h := Tryz.slices_DeleteFunc (Value.int .i64) (fun _ => rfl) (fun y => decide (y ≤ x - 128)) 128 #[.pointer (some ⟨gb, 0, none⟩)] eg 0 Tryz.zeroValue3 g 0 cap s.toArray w hp hpo hH (by simp; omega) (by simpa using hcap)
  have ek : (s.filter fun y => !decide (y ≤ x - 128)) = keepS x s := by
    unfold keepS
    congr 1
    funext y
    rw [Bool.eq_iff_iff]
    simp
  have es : s.toArray.size = s.length := by simp
  rw [ek, es] at h
  refine h.mono ?_
  rintro e w' ⟨rfl, q, rfl⟩
  refine ⟨rfl, only_putRow g w q _, fun j hj => ?_⟩
  have hkl : (keepS x s).length ≤ s.length := List.length_filter_le _ _
  have hsz : (keepS x s ++ List.replicate (s.length - (keepS x s).length) (0 : Int)).toArray.size = s.toArray.size := by simp; omega
  have := cell?_putRow (Value.int .i64) (Sort.ahead w q) g 0 s.toArray _ hH hsz j (by rw [hsz]; simp; omega)
  rw [Nat.zero_add] at this
  rw [this]
  simp [hj, show j < (keepS x s).length + (s.length - (keepS x s).length) by omega]

theorem row_form {w : World} {B : Nat} {e : TypeId} {size n : Nat} {v : Value} {xs : List Value} (h : w.ownsRow B e size v n xs) (hn : 0 < n) : ∃ g c, v = .slice (some ⟨g, 0, none⟩) n c ∧ B ≤ g ∧ g < w.heap.size := by
  rcases h.2 with ⟨_, h2⟩ | ⟨g, cap, cur, rfl, hg, hg2, _⟩
  · omega
  · exact ⟨g, cap, rfl, hg, (Array.getElem?_eq_some_iff.1 hg2).1⟩
theorem Held.grown {w w' : World} {g : Nat} {cs : List Value} (h : Held w g cs) (ho : w.grownBy w' none) : Held w' g cs := by
  have := h.lt
  obtain ⟨t, h⟩ := h
  exact ⟨t, (ho.block g this (by simp)).trans h⟩
theorem dd_results (W : World) (g : Nat) (n h : Int) (v : Value) (tmps : Array Value) (hH : Held W g [.int .i64 n, .int .i64 h, v])
    (h2 : tmps[4]?.getD undef = .pointer (some ⟨g, 0, none⟩)) :
    (results Tryz.f89 tmps).run Tryz.prog W = .ok (.agg #[.int .i64 n, .int .i64 h, v]) W := by
  have c0 := hH.cell (i := 0) rfl
  have c1 := hH.cell (i := 1) rfl
  have c2 := hH.cell (i := 2) rfl
  simp [results, Tryz.results89, go_sem, h2, c0, c1, c2]

theorem Held.only' {w w' : World} {g ga : Nat} {cs : List Value} (h : Held w g cs) (ho : Only ga w w') (hne : g ≠ ga) : Held w' g cs := by
  have := h.lt
  obtain ⟨t, h⟩ := h
  exact ⟨t, (ho.block g this (by simpa using hne)).trans h⟩
theorem Only.alloc {g : Nat} {w w' : World} (h : Only g w w') (o : Obj) : Only g w (w'.alloc o) := ⟨h.os, h.tape, h.output, Nat.le_trans h.size (by simp), fun k hk hne => (Below.heap_alloc w' o k (Nat.lt_of_lt_of_le hk h.size)).trans (h.block k hk hne)⟩

theorem Only.setNew {g b : Nat} {w w' : World} (h : Only g w w') (hb : w.heap.size ≤ b) (i : Nat) (v : Value) : Only g w (w'.setCell ⟨b, i, none⟩ v) :=
  ⟨h.os, h.tape, h.output, by simpa using h.size, fun k hk hne => (heap_setCell_other w' ⟨b, i, none⟩ k v (by show k ≠ b; omega)).trans (h.block k hk hne)⟩
theorem Only.below' {g : Nat} {a b c : World} (h : Only g a b) (k : Below b.heap.size b c) : Only g a c := h.trans (Only.of_below k)

set_option maxHeartbeats 1000000 in
set_option maxRecDepth 100000 in
theorem ddHigher_any (n h x : Int) (s : List Int) (g cap B : Nat) (w : World) (hI : WnRow w B (.slice (some ⟨g, 0, none⟩) s.length cap) s) (hn : 0 < s.length) (h9 : s.length ≤ 128) (hg : g < w.heap.size) (h0 : 0 ≤ x) (h1 : x ≤ 1099511627776) :
    Calls Tryz.prog 89 #[.agg #[.int .i64 n, .int .i64 h, .slice (some ⟨g, 0, none⟩) s.length cap], .int .i64 x] w fun e w' =>
      ∃ g' c', e = .returned (.agg #[.int .i64 n, .int .i64 x, .slice (some ⟨g', 0, none⟩) (keepS x s ++ [x]).length c']) ∧ w.heap.size ≤ g' ∧ g' < w'.heap.size ∧ WnRow w' w.heap.size (.slice (some ⟨g', 0, none⟩) (keepS x s ++ [x]).length c') (keepS x s ++ [x]) ∧ Only g w w' := by
  have HI := Stow.mk hI
  have hcap : s.length ≤ cap := by
    rcases hI.2 with ⟨h1, _⟩ | ⟨g', cap', cur, hv, _, _, h3, _⟩
    · simp at h1
    · simp only [Value.slice.injEq] at hv; omega
  clear hI
  have hmf : ∀ (fn : Fn) (first cap : Array Value) (w : World), (Instr.makeFunc fn first cap).run Tryz.prog w = .ok (.func fn first cap) w := fun _ _ _ _ => rfl
  have hW : Stow (∀ W, W = ((w.alloc (.cells #[.int .i64 n, .int .i64 h, .slice (some ⟨g, 0, none⟩) s.length cap] 113)).alloc (.cells #[.int .i64 x] 3)).alloc (.cells #[.int .i64 0, .int .i64 0, .slice none 0 0] 113) →
      Below w.heap.size w W ∧ Held W w.heap.size [.int .i64 n, .int .i64 h, .slice (some ⟨g, 0, none⟩) s.length cap] ∧ Held W (w.heap.size + 1) [.int .i64 x] ∧ Held W (w.heap.size + 1 + 1) [.int .i64 0, .int .i64 0, .slice none 0 0]) := ⟨by
    rintro W rfl
    have a := Held.made w [.int .i64 n, .int .i64 h, .slice (some ⟨g, 0, none⟩) s.length cap] 113
    have b := Held.made (w.alloc (.cells #[.int .i64 n, .int .i64 h, .slice (some ⟨g, 0, none⟩) s.length cap] 113)) [.int .i64 x] 3
    have c := Held.made ((w.alloc (.cells #[.int .i64 n, .int .i64 h, .slice (some ⟨g, 0, none⟩) s.length cap] 113)).alloc (.cells #[.int .i64 x] 3)) [.int .i64 0, .int .i64 0, .slice none 0 0] 113
    refine ⟨Below.alloc' (Below.alloc' (Below.alloc' (Below.self _) _) _) _, ?_, ?_, ?_⟩
    · exact (a.kept (Below.alloc' (Below.self _) _)).kept (Below.alloc' (Below.self _) _)
    · have e : (w.alloc (.cells #[.int .i64 n, .int .i64 h, .slice (some ⟨g, 0, none⟩) s.length cap] 113)).heap.size = w.heap.size + 1 := by simp
      rw [e] at b
      exact b.kept (Below.alloc' (Below.self _) _)
    · have e : ((w.alloc (.cells #[.int .i64 n, .int .i64 h, .slice (some ⟨g, 0, none⟩) s.length cap] 113)).alloc (.cells #[.int .i64 x] 3)).heap.size = w.heap.size + 1 + 1 := by simp
      rw [e] at c
      exact c⟩
  go_enter Tryz.func89, Tryz.ntmps89
  go_wp2_with fail
  generalize hWe : World.alloc _ _ = W
  obtain ⟨hbW, hA, hB, hC⟩ := hW.out W hWe.symm
  clear hWe
  have HBW := Stow.mk hbW
  refine (ddDelete_any x s g cap (w.heap.size + 1) B _ (HI.out.keep hbW) hn h9 hB.lt (by omega) (hB.cell (i := 0) rfl) h0 h1).mono ?_
  rintro e w1 ⟨rfl, ho1, hk⟩
  have hA1 := hA.only' ho1 (by omega)
  have hB1 := hB.only' ho1 (by omega)
  have hC1 := hC.only' ho1 (by omega)
  have hkl : (keepS x s).length ≤ s.length := List.length_filter_le _ _
  have HO1 : Stow (Only g w w1) := ⟨(Only.of_below hbW).trans ho1⟩
  have hkc : (keepS x s).length ≤ cap := by omega
  obtain ⟨K, hKe⟩ : ∃ K, keepS x s = K := ⟨_, rfl⟩
  rw [hKe] at hk hkl hkc ⊢
  have HKE := Stow.mk hKe
  clear hKe
  have a0 := hA1.cell (i := 0) rfl
  have b0 := hB1.cell (i := 0) rfl
  have f0 := hC1.free 0
  have f1 := hC1.free 1
  have f2 := hC1.free 2
  have d0 := hC1.cell (i := 0) rfl
  have d1 := hC1.cell (i := 1) rfl
  have d2 := hC1.cell (i := 2) rfl
  have HA1 := Stow.mk hA1
  have HB1 := Stow.mk hB1
  have HC1 := Stow.mk hC1
  have HK := Stow.mk hk
  clear hbW hA hB hC hA1 hB1 hC1 hk ho1
  have hKc : ∀ (o : Obj) (b : Addr), some (⟨g, 0, none⟩ : Addr) = some b → ∀ j u, (K.map (Value.int .i64))[j]? = some u → (w1.drew.alloc o).cell? (b.add j) = some u := by
    rintro o b hb j u hj
    obtain rfl := Option.some.inj hb
    rw [List.getElem?_map] at hj
    obtain ⟨y, hy, rfl⟩ := Option.map_eq_some_iff.1 hj
    obtain ⟨hj', rfl⟩ := List.getElem?_eq_some_iff.1 hy
    rw [Addr.add_lit, Nat.zero_add]
    exact ((Below.alloc' (Below.self w1.drew) o).cell (p := ⟨g, j, none⟩) (Nat.lt_of_lt_of_le hg HO1.out.size)).trans (HK.out j hj')
  have hxc : ∀ j u, [Value.int .i64 x][j]? = some u → (w1.drew.alloc (.cells #[.int .i64 x] 3)).cell? ((⟨w1.heap.size, 0, none⟩ : Addr).add j) = some u := by
    intro j u hj
    rw [Addr.add_lit, Nat.zero_add]
    exact (Held.made w1.drew [Value.int .i64 x] 3).cell (i := j) hj
  have hx1 : ∀ u ∈ [Value.int .i64 x], u.oneCell' = true := by intro u hu; simp at hu; subst hu; rfl
  have HKC := Stow.mk hKc
  have HXC := Stow.mk hxc
  have HX1 := Stow.mk hx1
  have hB3 : Stow (K.length + 1 ≤ maxLen) := ⟨by unfold maxLen; omega⟩
  have hB4 : Stow ((K.length + 1) * 8 ≤ 140737488355328) := ⟨by omega⟩
  obtain ⟨i0, hi, hz, hsz, hby⟩ := info_parts info_intW
  have HI0 := Stow.mk hi
  have HZ0 := Stow.mk hz
  have HS0 := Stow.mk hsz
  have HY0 := Stow.mk hby
  clear hKc hxc hx1 hi hz hsz hby
  go_wp2_with fail
  have hA3 : ∀ (o : Obj), Held (w1.drew.alloc o) w.heap.size [.int .i64 n, .int .i64 h, .slice (some ⟨g, 0, none⟩) s.length cap] ∧ Held (w1.drew.alloc o) (w.heap.size + 1) [.int .i64 x] ∧ Held (w1.drew.alloc o) (w.heap.size + 1 + 1) [.int .i64 0, .int .i64 0, .slice none 0 0] := fun o => by
    have hk : Below w1.heap.size w1 (w1.drew.alloc o) := by
      (repeat (first | exact Below.self _ | refine Below.alloc' ?_ _ | refine Below.drew ?_ | refine Below.drewN' ?_ _ | (refine Below.call ?_ (by assumption))))
    exact ⟨Held.kept HA1.out hk, Held.kept HB1.out hk, Held.kept HC1.out hk⟩
  have HA3 := Stow.mk hA3
  clear hA3
  have l2 := HC1.out.lt
  have m0 : (w1.alloc (.cells #[.int .i64 x] 3)).cell? ⟨w.heap.size, 0, none⟩ = some (.int .i64 n) := (HA1.out.kept (Below.alloc' (Below.self _) _)).cell (i := 0) rfl
  have m1 : (w1.alloc (.cells #[.int .i64 x] 3)).cell? ⟨w.heap.size + 1, 0, none⟩ = some (.int .i64 x) := (HB1.out.kept (Below.alloc' (Below.self _) _)).cell (i := 0) rfl
  go_region_law (refine step_append_grows rfl (.tmp 19) (.tmp 21) 105 rfl 3 i0 _ 1 8 Tryz.underlying105 HI0.out HZ0.out HS0.out HY0.out rfl (by decide) (some ⟨g, 0, none⟩) K.length K.length (K.map (Value.int .i64)) rfl (by simp) (by simp) (HKC.out _) ⟨w1.heap.size, 0, none⟩ 1 1 [Value.int .i64 x] rfl rfl HXC.out HX1.out (by omega) hB3.out hB4.out ?_; intro v' w' hown hgrow; obtain ⟨g', c', rfl, hg1, hg2⟩ := row_form hown (by omega); have HX := Stow.mk (And.intro hown hgrow); clear hown hgrow; have ha := (HA3.out _).1.grown HX.out.2; have hb := (HA3.out _).2.1.grown HX.out.2; have hc := (HA3.out _).2.2.grown HX.out.2; have a0' := ha.cell (i := 0) rfl; have b0' := hb.cell (i := 0) rfl; have f0' := hc.free 0; have f1' := hc.free 1; have f2' := hc.free 2; have d0' := hc.cell (i := 0) rfl; have d1' := hc.cell (i := 1) rfl; have d2' := hc.cell (i := 2) rfl; have HCC := Stow.mk hc; clear ha hb hc)
  all_goals go_wp2_with fail
  all_goals
    have hg1' : w1.heap.size + 1 ≤ g' := by simpa using hg1
    have hbl : Below w1.heap.size w1 w' := (show Below w1.heap.size w1 (w1.alloc (.cells #[.int .i64 x] 3)).drew from (Below.alloc' (Below.self w1) _).drew).grown HX.out.2 (by simp) (by simp)
    have ho : Only g w w' := HO1.out.below' hbl
    have hir : WnRow w' w.heap.size (.slice (some ⟨g', 0, none⟩) (K ++ [x]).length c') (K ++ [x]) := by
      refine WnRow.base (B' := (w1.alloc (.cells #[.int .i64 x] 3)).drew.heap.size) ?_ (by have := HO1.out.size; simp; omega)
      unfold WnRow
      simpa using HX.out.1
    have hne : (Value.slice (some ⟨g', 0, none⟩) (K ++ [x]).length c').ownBlock ≠ some (w.heap.size + 1 + 1) := by simp [Value.ownBlock]; omega
    refine bodyPost_ret (dd_results _ (w.heap.size + 1 + 1) n x (.slice (some ⟨g', 0, none⟩) (K.length + 1) c') _ (((HCC.out.set 0 _).set 1 _).set 2 _) rfl) rfl ?_
    rw [HKE.out]
    refine ⟨g', c', by simp, by omega, by simpa using hg2, ?_, ?_⟩
    · exact ((hir.only (Only.set _ _ 0 _) hne).only (Only.set _ _ 1 _) hne).only (Only.set _ _ 2 _) hne
    · exact ((ho.setNew (by omega) 0 _).setNew (by omega) 1 _).setNew (by omega) 2 _
end Go.Proofs.YtfbhdkkmcfnghaaGreat
end

section
namespace Go.Proofs.YtfbhdkkmcfnghaaGreat
open Go.RowKit Go.Lib Go.Sort
set_option linter.unusedVariables false

theorem only_setCells (b : Nat) : ∀ (vs : List Value) (o : Nat) (w : World), Only b w (w.setCells b o vs)
  | [], _, w => Only.refl b w
  | v :: r, o, w => by
    rw [World.setCells]
    exact (Only.set b w o v).trans (only_setCells b r (o + 1) _)
theorem slr_cells {w : World} {N c : Nat} {T : List Int} (hN : N < w.heap.size) (hc : T.length ≤ c) (hm : c ≤ maxLen) (h : ∀ j (hj : j < T.length), w.cell? ⟨N, j, none⟩ = some (.int .i64 T[j])) : SlR w 1 (.slice (some ⟨N, 0, none⟩) T.length c) (T.map ic) := by
  refine ⟨some ⟨N, 0, none⟩, c, by rw [List.length_map], by rw [List.length_map]; exact hc, hm, fun _ => ⟨N, 0, rfl, hN, fun i y hi j u hu => ?_⟩⟩
  rw [List.getElem?_map] at hi
  obtain ⟨z, hz, rfl⟩ := Option.map_eq_some_iff.1 hi
  obtain ⟨hi', rfl⟩ := List.getElem?_eq_some_iff.1 hz
  have hj : j = 0 := by
    rcases Nat.lt_or_ge j 1 with h | h
    · omega
    · simp [ic, List.getElem?_eq_none (show ([Value.int .i64 T[i]] : List Value).length ≤ j by simp; omega)] at hu
  subst hj
  simp [ic] at hu
  subst hu
  rw [Nat.zero_add, Nat.mul_one, Nat.add_zero]
  exact h i hi'
theorem ins_get {s : List Int} {a : Nat} {x : Int} (ha : a ≤ s.length) {j : Nat} (hj : j < (s.take a ++ x :: s.drop a).length) :
    (s.take a ++ x :: s.drop a)[j] = if h : j < a then s[j]'(by omega) else if h2 : j = a then x else s[j - 1]'(by simp at hj; omega) := by
  have hl : (s.take a).length = a := by simp; omega
  split
  · rename_i h
    rw [List.getElem_append_left (by omega)]
    simp
  · rename_i h
    rw [List.getElem_append_right (by omega)]
    split
    · rename_i h2; subst h2; simp [hl]
    · rename_i h2
      rw [List.getElem_cons]
      rw [dif_neg (by omega)]
      rw [List.getElem_drop]
      congr 1
      omega
theorem SlR.only {w w' : World} {g b off n cap c : Nat} {L : List (List Value)} (h : SlR w c (.slice (some ⟨b, off, none⟩) n cap) L) (ho : Only g w w') (hne : b ≠ g) : SlR w' c (.slice (some ⟨b, off, none⟩) n cap) L := by
  obtain ⟨A, cap', hv, h1, h2, h3⟩ := h
  refine ⟨A, cap', hv, h1, h2, fun hL => ?_⟩
  obtain ⟨b', off', hA, hlt, hc⟩ := h3 hL
  simp only [Value.slice.injEq] at hv
  obtain ⟨hv1, _⟩ := hv
  rw [hA] at hv1
  simp only [Option.some.injEq, Addr.mk.injEq] at hv1
  obtain ⟨rfl, rfl, _⟩ := hv1
  refine ⟨b, off, hA, Nat.lt_of_lt_of_le hlt ho.size, fun i x hx j u hu => ?_⟩
  exact (World.cell?_of_block (a := ⟨b, off + i * c + j, none⟩) (ho.block b hlt (by simpa using hne))).trans (hc i x hx j u hu)
/-- The cells of a row into which a number was put. -/
theorem ins_cells {w w' : World} {N a : Nat} {s : List Int} {x : Int} (ha : a ≤ s.length) (h1 : ∀ j (hj : j < a), w'.cell? ⟨N, j, none⟩ = some (.int .i64 (s[j]'(by omega)))) (h2 : w'.cell? ⟨N, a, none⟩ = some (.int .i64 x))
    (h3 : ∀ k (hk : k < ((s.map (Value.int .i64)).drop a).length), w'.cell? ⟨N, a + 1 + k, none⟩ = some ((s.map (Value.int .i64)).drop a)[k]) : ∀ j (hj : j < (s.take a ++ x :: s.drop a).length), w'.cell? ⟨N, j, none⟩ = some (.int .i64 (s.take a ++ x :: s.drop a)[j]) := by
  intro j hj
  rw [ins_get ha hj]
  split
  · rename_i h; exact h1 j h
  · split
    · rename_i h; subst h; exact h2
    · rename_i hn hne
      have hj' : j < s.length + 1 := by simp at hj; omega
      have := h3 (j - (a + 1)) (by simp; omega)
      rw [show a + 1 + (j - (a + 1)) = j by omega] at this
      rw [this, List.getElem_drop, List.getElem_map]
      congr 3
      omega

set_option maxHeartbeats 1000000 in
theorem ddInsert_any (x : Int) (s : List Int) (g cap vb B a : Nat) (w : World) (hI : WnRow w B (.slice (some ⟨g, 0, none⟩) s.length cap) s) (h9 : s.length ≤ 128) (hv : w.heap[vb]? = some (.cells #[.int .i64 x] 3 (0, 0))) (hne : vb ≠ g) (ha : a < s.length) :
    Calls Tryz.prog 130 #[.slice (some ⟨g, 0, none⟩) s.length cap, .int .i64 a, .slice (some ⟨vb, 0, none⟩) 1 1] w fun e w' =>
      ∃ g' c', e = .returned (.slice (some ⟨g', 0, none⟩) (s.length + 1) c') ∧ SlR w' 1 (.slice (some ⟨g', 0, none⟩) (s.length + 1) c') ((s.take a ++ x :: s.drop a).map ic) ∧ Only g w w' ∧ (g' = g ∨ w.heap.size ≤ g') := by
  have hTl : (s.take a ++ x :: s.drop a).length = s.length + 1 := by simp; omega
  have hcs : ∀ j v, (s.map (Value.int .i64))[j]? = some v → w.cell? ⟨g, 0 + j, none⟩ = some v := by
    intro j v hj
    rw [List.getElem?_map] at hj
    obtain ⟨y, hy, rfl⟩ := Option.map_eq_some_iff.1 hj
    obtain ⟨hj', rfl⟩ := List.getElem?_eq_some_iff.1 hy
    exact (ints_at hI.slr hj').2
  have hvs : ∀ j v, [Value.int .i64 x][j]? = some v → w.cell? ⟨vb, 0 + j, none⟩ = some v := by
    intro j v hj
    rw [Nat.zero_add]
    exact (show Held w vb [.int .i64 x] from ⟨_, hv⟩).cell (i := j) hj
  have h1c : ∀ v ∈ s.map (Value.int .i64), v.oneCell' = true := by
    intro v hv
    obtain ⟨y, _, rfl⟩ := List.mem_map.1 hv
    rfl
  have h1v : ∀ v ∈ [Value.int .i64 x], v.oneCell' = true := by
    intro v hv
    simp at hv; subst hv; rfl
  have hs63 := hI
  rcases hI.2 with ⟨h1, _⟩ | ⟨g', cap', cur, hv', hgB, hgh, h3, hm, hcur, htake⟩
  · simp at h1
  simp only [Value.slice.injEq, Option.some.injEq, Addr.mk.injEq, and_true, true_and] at hv'
  obtain ⟨rfl, rfl⟩ := hv'
  have hcz : cur.size = cap := by omega
  have hglt : g < w.heap.size := (Array.getElem?_eq_some_iff.1 hgh).1
  unfold maxLen at hm
  by_cases hroom : s.length + 1 ≤ cap
  · have hsp : ∀ j, j < s.length + 1 → (w.cell? ⟨g, 0 + j, none⟩).isSome = true := by
      intro j hj
      simp [World.cell?, hgh, show j < cur.size by omega]
    have hfz : ∀ j, w.frozen? ⟨g, j, none⟩ = false := fun j => World.ownsRow.frozenAt hs63 j
    have h := Any2.slices_Insert_int_shift Tryz.laysIns g 0 s.length cap a vb 0 1 1 (s.map (Value.int .i64)) [.int .i64 x] w ha (by omega) hroom (by omega) hne (by simp) rfl hcs hsp (fun j _ => hfz _) hvs h1c h1v 3 3 1 cap
      (by simp [World.shape?, hv]) (by simp [World.shape?, hgh, hcz]) (by omega) ((show Held w vb [.int .i64 x] from ⟨_, hv⟩).free 0) ((show Held w vb [.int .i64 x] from ⟨_, hv⟩).free 1)
    refine h.mono ?_
    rintro e w' ⟨rfl, rfl⟩
    have ho : Only g w ((w.drew.setCells g (0 + (a + 1)) ((s.map (Value.int .i64)).drop a)).setCells g (0 + a) [.int .i64 x]) :=
      ((show Only g w w.drew from ⟨rfl, rfl, rfl, Nat.le_refl _, fun _ _ _ => rfl⟩).trans (only_setCells g _ _ _)).trans (only_setCells g _ _ _)
    refine ⟨g, cap, rfl, ?_, ho, .inl rfl⟩
    rw [← hTl]
    refine slr_cells (Nat.lt_of_lt_of_le hglt ho.size) (by omega) (by unfold maxLen; omega) (ins_cells (w := w) (by omega) ?_ ?_ ?_)
    · intro j hj
      rw [World.cell?_setCells_out _ _ _ _ _ (fun _ _ => .inl (by show j < 0 + a; omega)), World.cell?_setCells_out _ _ _ _ _ (fun _ _ => .inl (by show j < 0 + (a + 1); omega))]
      have := hcs j (.int .i64 (s[j]'(by omega))) (by simp [show j < s.length by omega])
      rwa [Nat.zero_add] at this
    · have := World.cell?_setCells_in g [Value.int .i64 x] (0 + a) (w.drew.setCells g (0 + (a + 1)) ((s.map (Value.int .i64)).drop a)) (fun j hj => by
        have hj0 : j = 0 := by simpa using hj
        subst hj0
        rw [World.cell?_setCells_out _ _ _ _ _ (fun _ _ => .inl (by show 0 + a + 0 < 0 + (a + 1); omega))]
        have := hsp a (by omega)
        simpa using this) 0 (by simp)
      simpa using this
    · intro k hk
      rw [World.cell?_setCells_out _ _ _ _ _ (fun _ _ => .inr (by show 0 + a + 1 ≤ a + 1 + k; omega))]
      have := World.cell?_setCells_in g ((s.map (Value.int .i64)).drop a) (0 + (a + 1)) w.drew (fun j hj => by
        have := hsp (a + 1 + j) (by simp at hj; omega)
        simpa [Nat.add_assoc] using this) k hk
      rw [← this]
      congr 2
      omega
  · have h := Any2.slices_Insert_int_grow Tryz.laysIns g 0 s.length cap a vb 0 1 1 (s.map (Value.int .i64)) [.int .i64 x] w ha (by omega) h3 (by omega) (by omega) (by simp) rfl hcs hvs h1c h1v
    refine h.mono ?_
    rintro e w' ⟨rfl, hw'⟩
    generalize hG : grownCap w (s.length + 1) cap _ = G at hw' ⊢
    have hGn : s.length + 1 ≤ G := by rw [← hG]; exact grownCap_ge w _ _ _
    have hG63 : G ≤ maxLen := by
      have := grownCap_le_maxLen w (s.length + 1) cap 3 (by unfold maxLen; omega)
      rw [← hG]
      exact this
    obtain ⟨row, hrow⟩ : ∃ row : Array Value, ((s.map (Value.int .i64)).take a).toArray ++ Builtin.zeroCells (Value.int .i64 0).cells (s.length + 1 - a) ++ Builtin.zeroCells (Value.int .i64 0).cells (G - (s.length + 1)) = row := ⟨_, rfl⟩
    have hrl : s.length + 1 ≤ row.size := by
      rw [← hrow]
      simp [Builtin.zeroCells, Value.cells]
      omega
    have hrc : ∀ j (hj : j < a), row[j]? = some (.int .i64 (s[j]'(by omega))) := by
      intro j hj
      rw [← hrow, Array.append_assoc, Array.getElem?_append_left (by simp; omega)]
      simp [show j < s.length by omega, hj]
    have hw2 : w' = (((w.alloc (.cells row 3)).drew.setCells w.heap.size a [.int .i64 x]).drew).setCells w.heap.size (a + 1) ((s.map (Value.int .i64)).drop a) := by rw [hw', ← hrow]; rfl
    clear hw' hrow
    subst hw2
    obtain ⟨W1, hW1⟩ : ∃ W1, (w.alloc (.cells row 3)).drew = W1 := ⟨_, rfl⟩
    have hN : ∀ j, W1.cell? ⟨w.heap.size, j, none⟩ = row[j]? := fun j => by rw [← hW1]; exact World.cell?_alloc_at (w := w) row _ w.heap.size j rfl
    have hb1 : Below w.heap.size w W1 := by rw [← hW1]; exact (Below.alloc' (Below.self w) _).drew
    rw [hW1]
    have ho1 : Only w.heap.size W1 (((W1.setCells w.heap.size a [.int .i64 x]).drew).setCells w.heap.size (a + 1) ((s.map (Value.int .i64)).drop a)) :=
      ((only_setCells w.heap.size _ _ _).trans (show Only w.heap.size _ (World.drew _) from ⟨rfl, rfl, rfl, Nat.le_refl _, fun _ _ _ => rfl⟩)).trans (only_setCells w.heap.size _ _ _)
    have hNlt : w.heap.size < W1.heap.size := by rw [← hW1]; simp
    have hb2 := hb1.trans (ho1.below (Nat.le_refl _) hb1.size)
    refine ⟨w.heap.size, G, rfl, ?_, Only.of_below hb2, .inr (Nat.le_refl _)⟩
    rw [← hTl]
    refine slr_cells (Nat.lt_of_lt_of_le hNlt ho1.size) (by omega) hG63 (ins_cells (w := w) (by omega) ?_ ?_ ?_)
    · intro j hj
      rw [World.cell?_setCells_out _ _ _ _ _ (fun _ _ => .inl (by show j < a + 1; omega))]
      show ((W1.setCells w.heap.size a [.int .i64 x])).cell? _ = _
      rw [World.cell?_setCells_out _ _ _ _ _ (fun _ _ => .inl (by show j < a; omega)), hN]
      exact hrc j hj
    · rw [World.cell?_setCells_out _ _ _ _ _ (fun _ _ => .inl (by show a < a + 1; omega))]
      have := World.cell?_setCells_in w.heap.size [Value.int .i64 x] a W1 (fun j hj => by
        rw [hN, Array.getElem?_eq_getElem (by simp at hj; omega)]; rfl) 0 (by simp)
      exact this
    · intro k hk
      have := World.cell?_setCells_in w.heap.size ((s.map (Value.int .i64)).drop a) (a + 1) (W1.setCells w.heap.size a [.int .i64 x]).drew (fun j hj => by
        show ((W1.setCells w.heap.size a [.int .i64 x]).cell? _).isSome = true
        rw [World.cell?_setCells_out _ _ _ _ _ (fun _ _ => .inr (by show a + 1 ≤ a + 1 + j; omega)), hN, Array.getElem?_eq_getElem (by simp at hj; omega)]
        rfl) k hk
      exact this

theorem ins_eq {x : Int} : ∀ {s : List Int}, s.Pairwise (· < ·) → x ∉ s → Dd.ins x s = s.take (s.countP (· < x)) ++ x :: s.drop (s.countP (· < x))
  | [], _, _ => rfl
  | y :: t, h, hn => by
    have hp := List.pairwise_cons.1 h
    have hyx : y ≠ x := fun e => hn (by simp [e])
    by_cases hy : y < x
    · have ih := ins_eq hp.2 (fun e => hn (List.mem_cons_of_mem _ e))
      unfold Dd.ins at *
      have hny : ¬ x < y := by omega
      simp only [List.filter_cons, List.countP_cons, hy, hny, decide_true, decide_false, if_true, List.take_succ_cons, List.drop_succ_cons, List.cons_append, Bool.false_eq_true, if_false]
      rw [ih]
    · have hall : ∀ z ∈ t, x < z := fun z hz => by have := hp.1 z hz; omega
      have h1 : t.filter (fun z => decide (z < x)) = [] := by
        rw [List.filter_eq_nil_iff]
        intro z hz
        have := hall z hz
        simp; omega
      have h2 : t.filter (fun z => decide (x < z)) = t := by
        rw [List.filter_eq_self]
        intro z hz
        simpa using hall z hz
      have h3 : t.countP (fun z => decide (z < x)) = 0 := by
        rw [List.countP_eq_zero]
        intro z hz
        have := hall z hz
        simp; omega
      unfold Dd.ins
      have hxy : x < y := by omega
      simp [hy, hxy, h1, h2, h3]
theorem count_lt {s : List Int} {h x : Int} (hm : h ∈ s) (hx : ¬ h < x) : s.countP (· < x) < s.length := by
  rcases Nat.lt_or_ge (s.countP (· < x)) s.length with h1 | h1
  · exact h1
  · have h2 := Nat.le_antisymm (List.countP_le_length (p := (· < x)) (l := s)) h1
    rw [List.countP_eq_length] at h2
    have := h2 h hm
    simp at this
    omega

theorem low_results (W : World) (g : Nat) (n h : Int) (v : Value) (b : Bool) (tmps : Array Value) (hH : Held W g [.int .i64 n, .int .i64 h, v])
    (h2 : tmps[4]?.getD undef = .pointer (some ⟨g, 0, none⟩)) (h3 : tmps[5]?.getD undef = .bool b) :
    (results Tryz.f90 tmps).run Tryz.prog W = .ok (.tuple #[.agg #[.int .i64 n, .int .i64 h, v], .bool b]) W := by
  have c0 := hH.cell (i := 0) rfl
  have c1 := hH.cell (i := 1) rfl
  have c2 := hH.cell (i := 2) rfl
  simp [results, Tryz.results90, go_sem, h2, h3, c0, c1, c2]

set_option maxHeartbeats 1000000 in
set_option maxRecDepth 100000 in
theorem ddLower_any (n h x : Int) (s : List Int) (g cap B : Nat) (w : World) (hI : WnRow w B (.slice (some ⟨g, 0, none⟩) s.length cap) s) (h9 : s.length ≤ 128) (hg : g < w.heap.size) (h0 : 0 ≤ x) (hx : ¬ h < x) (h1 : h ≤ 1099511627776)
    (hs : s.Pairwise (· < ·)) (hm : h ∈ s) :
    Calls Tryz.prog 90 #[.agg #[.int .i64 n, .int .i64 h, .slice (some ⟨g, 0, none⟩) s.length cap], .int .i64 x] w fun e w' =>
      ((128 ≤ h - x ∨ x ∈ s) → e = .returned (.tuple #[.agg #[.int .i64 n, .int .i64 h, .slice (some ⟨g, 0, none⟩) s.length cap], .bool false]) ∧ Below w.heap.size w w') ∧
      (¬ (128 ≤ h - x ∨ x ∈ s) → ∃ g' c', e = .returned (.tuple #[.agg #[.int .i64 n, .int .i64 h, .slice (some ⟨g', 0, none⟩) (Dd.ins x s).length c'], .bool true]) ∧ SlR w' 1 (.slice (some ⟨g', 0, none⟩) (Dd.ins x s).length c') ((Dd.ins x s).map ic) ∧ Only g w w' ∧ (g' = g ∨ w.heap.size ≤ g')) := by
  have HI := Stow.mk hI
  have HM := Stow.mk hm
  have HSP := Stow.mk hs
  have HXN := Stow.mk hx
  have hle : s.Pairwise (· ≤ ·) := hs.imp fun h => by omega
  have HLE := Stow.mk hle
  have hgtu : g < w.heap.size := hg
  clear hI hm hs hle
  have hW : Stow (∀ W, W = (w.alloc (.cells #[.int .i64 n, .int .i64 h, .slice (some ⟨g, 0, none⟩) s.length cap] 113)).alloc (.cells #[.int .i64 0, .int .i64 0, .slice none 0 0] 113) →
      Below w.heap.size w W ∧ Held W w.heap.size [.int .i64 n, .int .i64 h, .slice (some ⟨g, 0, none⟩) s.length cap] ∧ Held W (w.heap.size + 1) [.int .i64 0, .int .i64 0, .slice none 0 0]) := ⟨by
    rintro W rfl
    have a := Held.made w [.int .i64 n, .int .i64 h, .slice (some ⟨g, 0, none⟩) s.length cap] 113
    have b := Held.made (w.alloc (.cells #[.int .i64 n, .int .i64 h, .slice (some ⟨g, 0, none⟩) s.length cap] 113)) [.int .i64 0, .int .i64 0, .slice none 0 0] 113
    refine ⟨Below.alloc' (Below.alloc' (Below.self _) _) _, a.kept (Below.alloc' (Below.self _) _), ?_⟩
    have e : (w.alloc (.cells #[.int .i64 n, .int .i64 h, .slice (some ⟨g, 0, none⟩) s.length cap] 113)).heap.size = w.heap.size + 1 := by simp
    rw [e] at b
    exact b⟩
  obtain ⟨a, ha⟩ : ∃ a, s.countP (· < x) = a := ⟨_, rfl⟩
  obtain ⟨f, hf⟩ : ∃ f, s.contains x = f := ⟨_, rfl⟩
  have HA := Stow.mk ha
  have HF := Stow.mk hf
  clear ha hf
  have hst : Stow (s.take s.length = s) := ⟨List.take_of_length_le (Nat.le_refl _)⟩
  go_enter Tryz.func90, Tryz.ntmps90
  go_wp2_with fail
  generalize hWe : World.alloc _ _ = W
  obtain ⟨hbW, hA, hB⟩ := hW.out W hWe.symm
  clear hWe
  have HBW := Stow.mk hbW
  have HIW := Stow.mk (HI.out.keep hbW)
  refine (Tryz.slices_BinarySearch_int g 0 s.length cap s x W (Nat.le_refl _) (by omega) (fun j hj => ?_) (by rw [hst.out]; exact HLE.out)).mono ?_
  · have := (ints_at HIW.out.slr hj).2
    rw [this]
    simp [hj]
  rw [hst.out, HA.out, HF.out]
  rintro e w1 ⟨rfl, q, hw1⟩
  have hb1 : Below W.heap.size W w1 := by rw [hw1]; exact Below.drewN' (Below.self _) _
  clear hw1
  have hA1 := hA.kept hb1
  have hB1 := hB.kept hb1
  have HB1 : Stow (Below w.heap.size w w1) := ⟨HBW.out.trans (hb1.mono HBW.out.size)⟩
  have HI1 := Stow.mk (HIW.out.keep hb1)
  have a0 := hA1.cell (i := 0) rfl
  have a1 := hA1.cell (i := 1) rfl
  have a2 := hA1.cell (i := 2) rfl
  have f0 := hB1.free 0
  have f1 := hB1.free 1
  have f2 := hB1.free 2
  have e0 := hA1.free 0
  have e1 := hA1.free 1
  have e2 := hA1.free 2
  have d0 := hB1.cell (i := 0) rfl
  have d1 := hB1.cell (i := 1) rfl
  have d2 := hB1.cell (i := 2) rfl
  have HA1 := Stow.mk hA1
  have HBB := Stow.mk hB1
  clear hbW hA hB hA1 hB1 hb1
  by_cases hbad : 128 ≤ h - x ∨ x ∈ s
  · have HBAD := Stow.mk hbad
    cases f
    · have h128 : 128 ≤ h - x := by
        rcases hbad with h | h
        · exact h
        · have := HF.out
          rw [List.contains_iff_mem.2 h] at this
          cases this
      clear hbad
      go_wp2_with fail
      refine bodyPost_ret (low_results _ (w.heap.size + 1) n h (.slice (some ⟨g, 0, none⟩) s.length cap) false _ (((HBB.out.set 0 _).set 1 _).set 2 _) rfl rfl) rfl ⟨fun _ => ⟨rfl, ?_⟩, fun h => absurd HBAD.out h⟩
      exact ((HB1.out.setCell (p := ⟨w.heap.size + 1, 0, none⟩) (by simp) _).setCell (p := ⟨w.heap.size + 1, 1, none⟩) (by simp) _).setCell (p := ⟨w.heap.size + 1, 2, none⟩) (by simp) _
    · clear hbad
      go_wp2_with fail
      refine bodyPost_ret (low_results _ (w.heap.size + 1) n h (.slice (some ⟨g, 0, none⟩) s.length cap) false _ (((HBB.out.set 0 _).set 1 _).set 2 _) rfl rfl) rfl ⟨fun _ => ⟨rfl, ?_⟩, fun h => absurd HBAD.out h⟩
      exact ((HB1.out.setCell (p := ⟨w.heap.size + 1, 0, none⟩) (by simp) _).setCell (p := ⟨w.heap.size + 1, 1, none⟩) (by simp) _).setCell (p := ⟨w.heap.size + 1, 2, none⟩) (by simp) _
  · have HBAD := Stow.mk hbad
    have hx2 : x ∉ s := fun h => hbad (.inr h)
    have hfF : f = false := by
      rw [← HF.out, Bool.eq_false_iff]
      intro h
      exact hx2 (List.contains_iff_mem.1 h)
    subst hfF
    have h128 : ¬ 128 ≤ h - x := fun h => hbad (.inl h)
    have HIN := Stow.mk (ins_eq HSP.out hx2)
    have hal := count_lt (x := x) HM.out (by have := HXN.out; omega)
    rw [HA.out] at HIN hal
    have hil : (Dd.ins x s).length = s.length + 1 := by rw [HIN.out]; simp; omega
    have HIL := Stow.mk hil
    clear hbad hil hx2
    have hv1 : (w1.alloc (.cells #[.int .i64 x] 3)).heap[w1.heap.size]? = some (.cells #[.int .i64 x] 3 (0, 0)) := heap_alloc_new w1 _
    have HV1 := Stow.mk hv1
    have hlt1 : w.heap.size + 1 < w1.heap.size := HBB.out.lt
    clear hv1
    go_wp2_with fail
    refine (ddInsert_any x s g cap w1.heap.size B a _ (HI1.out.keep (Below.alloc' (Below.self _) _)) h9 HV1.out (by omega) hal).mono ?_
    rintro e w2 ⟨g', c', rfl, hS2, ho2, hg'⟩
    have hA2 := (HA1.out.kept (Below.alloc' (Below.self w1) (.cells #[.int .i64 x] 3))).only' ho2 (by omega)
    have hB2 := (HBB.out.kept (Below.alloc' (Below.self w1) (.cells #[.int .i64 x] 3))).only' ho2 (by omega)
    have HO2 : Stow (Only g w w2) := ⟨((Only.of_below HB1.out).below' (Below.alloc' (Below.self w1) (.cells #[.int .i64 x] 3))).trans ho2⟩
    clear a0 a1 a2 f0 f1 f2 e0 e1 e2 d0 d1 d2 ho2
    have a0 := hA2.cell (i := 0) rfl
    have a1 := hA2.cell (i := 1) rfl
    have a2 := hA2.cell (i := 2) rfl
    have f0 := hB2.free 0
    have f1 := hB2.free 1
    have f2 := hB2.free 2
    have e0 := hA2.free 0
    have e1 := hA2.free 1
    have e2 := hA2.free 2
    have d0 := hB2.cell (i := 0) rfl
    have d1 := hB2.cell (i := 1) rfl
    have d2 := hB2.cell (i := 2) rfl
    have HB2 := Stow.mk hB2
    have HS2 := Stow.mk hS2
    clear hA2 hB2 hS2
    have HG := Stow.mk hg'
    clear hg'
    go_wp2_with fail
    have hb4 : Held (w2.setCell ⟨w.heap.size, 2, none⟩ (.slice (some ⟨g', 0, none⟩) (s.length + 1) c')) (w.heap.size + 1) [.int .i64 0, .int .i64 0, .slice none 0 0] := HB2.out.only' (Only.set _ _ 2 _) (by omega)
    have hgb : g' ≠ w.heap.size ∧ g' ≠ w.heap.size + 1 := by
      rcases HG.out with h | h
      · subst h; omega
      · simp at h; omega
    refine bodyPost_ret (low_results _ (w.heap.size + 1) n h (.slice (some ⟨g', 0, none⟩) (s.length + 1) c') true _ (((hb4.set 0 _).set 1 _).set 2 _) rfl rfl) rfl ⟨fun hh => absurd hh (by have := HBAD.out; first | exact this | simpa using this), fun _ => ⟨g', c', ?_, ?_, ?_, ?_⟩⟩
    · rw [HIL.out]
    · rw [HIL.out, HIN.out]
      exact (((HS2.out.only (Only.set _ _ 2 _) hgb.1).only (Only.set _ _ 0 _) hgb.2).only (Only.set _ _ 1 _) hgb.2).only (Only.set _ _ 2 _) hgb.2
    · exact (((HO2.out.setNew (Nat.le_refl _) 2 _).setNew (by omega) 0 _).setNew (by omega) 1 _).setNew (by omega) 2 _
    · rcases HG.out with h | h
      · exact .inl h
      · simp at h; exact .inr (by omega)
end Go.Proofs.YtfbhdkkmcfnghaaGreat
end
