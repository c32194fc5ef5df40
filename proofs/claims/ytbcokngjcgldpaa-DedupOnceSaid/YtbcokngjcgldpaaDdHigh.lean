/- Walk of dedup.higher. Condition: a window as it comes of numbers, in a row of the caller's own. -/
import Derived.Test.YtbcokngjcgldpaaDdCopy
import Derived.Deep.RegionLawGrows
import Derived.BigQuiet
namespace Go.Proofs.Ytbcokngjcgldpaa
open Go.RowKit Go.Lib Go.Sort
set_option linter.unusedVariables false

set_option maxHeartbeats 400000 in
theorem ddHighBody_any (y x : Int) (b : Nat) (W : World) (hc : W.cell? ⟨b, 0, none⟩ = some (.int .i64 x)) (h0 : 0 ≤ x) (h1 : x ≤ 1099511627776) :
    Calls Try.prog 98 #[.int .i64 y, .pointer (some ⟨b, 0, none⟩)] W fun e w' => e = .returned (.bool (decide (y ≤ x - 128))) ∧ w' = W := by
  go_enter Try.func98, Try.ntmps98
  go_wp2_with fail
  go_ret
  exact ⟨rfl, rfl⟩

theorem only_putRow (g : Nat) (w : World) (q : Nat) (d : Array Int) : Only g w (putRow (Value.int .i64) (Sort.ahead w q) g 0 d) := by
  refine ⟨rfl, rfl, rfl, by simp [size_putRow, Sort.ahead], fun k hk hne => ?_⟩
  have hne' : ¬ g = k := fun e => hne (by rw [e])
  simp [putRow, mapBlock, Array.getElem?_modify, hne', Sort.ahead]

def keepS (x : Int) (s : List Int) : List Int := s.filter (x - 128 < ·)

theorem ddDelete_any (x : Int) (s : List Int) (g cap gb B : Nat) (w : World) (hI : IRow w B (.slice (some ⟨g, 0, none⟩) s.length cap) s) (hn : 0 < s.length) (h9 : s.length ≤ 128) (hb : gb < w.heap.size) (hne : gb ≠ g)
    (hc : w.cell? ⟨gb, 0, none⟩ = some (.int .i64 x)) (h0 : 0 ≤ x) (h1 : x ≤ 1099511627776) :
    Calls Try.prog 97 #[.slice (some ⟨g, 0, none⟩) s.length cap, .func (.func 98) #[] #[.pointer (some ⟨gb, 0, none⟩)]] w fun e w' =>
      e = .returned (.slice (some ⟨g, 0, none⟩) (keepS x s).length cap) ∧ Only g w w' ∧ ∀ j (hj : j < (keepS x s).length), w'.cell? ⟨g, j, none⟩ = some (.int .i64 (keepS x s)[j]) := by
  have eg : ∀ args w, (callFunc 98 args).run Try.prog w = .ok (.enter 98 args) w := enters_of Try.func98 (by kernel_rfl) rfl
  have hcap : s.length ≤ cap := by
    rcases hI.2 with ⟨h1, _⟩ | ⟨g', cap', cur, hv, _, _, h3, _⟩
    · simp at h1
    · simp only [Value.slice.injEq] at hv; omega
  have hH : Holds (Value.int .i64) w g 0 s.toArray := fun j hj => by
    have hj' : j < s.length := by simpa using hj
    refine ⟨?_, ?_⟩
    · have := (ints_at hI.slr hj').2
      rw [this]
      simp [hj']
    · exact World.ownsRow.frozenAt hI _
  have hp : PredAt Try.prog 98 #[.pointer (some ⟨gb, 0, none⟩)] (Value.int .i64) (fun y => decide (y ≤ x - 128)) w := fun W y hbl => by
    refine (ddHighBody_any y x gb W ((hbl.cell (p := ⟨gb, 0, none⟩) hb).trans hc) h0 h1).mono ?_
    rintro e w' ⟨rfl, rfl⟩
    exact ⟨rfl, 0, rfl⟩
  have hpo : PredOver Try.prog 98 #[.pointer (some ⟨gb, 0, none⟩)] (Value.int .i64) (fun y => decide (y ≤ x - 128)) g 0 s.toArray.size w := fun n os dk y _ => by
    refine (ddHighBody_any y x gb _ ?_ h0 h1).mono ?_
    · unfold sortWorld
      rw [cell?_grow _ _ _ (by show gb < (putRow _ _ _ _ _).heap.size; rw [size_putRow]; exact hb), cell?_putRow_other _ _ g 0 _ _ (Or.inl hne)]
      exact hc
    rintro e w' ⟨rfl, rfl⟩
    exact ⟨rfl, 0, rfl⟩
  have h := Try.slices_DeleteFunc (Value.int .i64) (fun _ => rfl) (fun y => decide (y ≤ x - 128)) 98 #[.pointer (some ⟨gb, 0, none⟩)] eg 0 Try.zeroValue3 g 0 cap s.toArray w hp hpo hH (by simp; omega) (by simpa using hcap)
  have ek : (s.filter fun y => !decide (y ≤ x - 128)) = keepS x s := by
    unfold keepS
    congr 1
    funext y
    rw [Bool.eq_iff_iff]
    simp
  have es : s.toArray.size = s.length := by simp
  rw [ek, es] at h
  refine h.mono ?_
  rintro e w' ⟨rfl, q, rfl⟩
  refine ⟨rfl, only_putRow g w q _, fun j hj => ?_⟩
  have hkl : (keepS x s).length ≤ s.length := List.length_filter_le _ _
  have hsz : (keepS x s ++ List.replicate (s.length - (keepS x s).length) (0 : Int)).toArray.size = s.toArray.size := by simp; omega
  have := cell?_putRow (Value.int .i64) (Sort.ahead w q) g 0 s.toArray _ hH hsz j (by rw [hsz]; simp; omega)
  rw [Nat.zero_add] at this
  rw [this]
  simp [hj, show j < (keepS x s).length + (s.length - (keepS x s).length) by omega]

theorem row_form {w : World} {B : Nat} {e : TypeId} {size n : Nat} {v : Value} {xs : List Value} (h : w.ownsRow B e size v n xs) (hn : 0 < n) : ∃ g c, v = .slice (some ⟨g, 0, none⟩) n c ∧ B ≤ g ∧ g < w.heap.size := by
  rcases h.2 with ⟨_, h2⟩ | ⟨g, cap, cur, rfl, hg, hg2, _⟩
  · omega
  · exact ⟨g, cap, rfl, hg, (Array.getElem?_eq_some_iff.1 hg2).1⟩
theorem Held.grown {w w' : World} {g : Nat} {cs : List Value} (h : Held w g cs) (ho : w.grownBy w' none) : Held w' g cs := by
  have := h.lt
  obtain ⟨t, h⟩ := h
  exact ⟨t, (ho.block g this (by simp)).trans h⟩
theorem dd_results (W : World) (g : Nat) (n h : Int) (v : Value) (tmps : Array Value) (hH : Held W g [.int .i64 n, .int .i64 h, v])
    (h2 : tmps[4]?.getD undef = .pointer (some ⟨g, 0, none⟩)) :
    (results Try.f63 tmps).run Try.prog W = .ok (.agg #[.int .i64 n, .int .i64 h, v]) W := by
  have c0 := hH.cell (i := 0) rfl
  have c1 := hH.cell (i := 1) rfl
  have c2 := hH.cell (i := 2) rfl
  simp [results, Try.results63, go_sem, h2, c0, c1, c2]

theorem Held.only' {w w' : World} {g ga : Nat} {cs : List Value} (h : Held w g cs) (ho : Only ga w w') (hne : g ≠ ga) : Held w' g cs := by
  have := h.lt
  obtain ⟨t, h⟩ := h
  exact ⟨t, (ho.block g this (by simpa using hne)).trans h⟩
theorem Only.alloc {g : Nat} {w w' : World} (h : Only g w w') (o : Obj) : Only g w (w'.alloc o) := ⟨h.os, h.tape, h.output, Nat.le_trans h.size (by simp), fun k hk hne => (Below.heap_alloc w' o k (Nat.lt_of_lt_of_le hk h.size)).trans (h.block k hk hne)⟩

theorem Only.setNew {g b : Nat} {w w' : World} (h : Only g w w') (hb : w.heap.size ≤ b) (i : Nat) (v : Value) : Only g w (w'.setCell ⟨b, i, none⟩ v) :=
  ⟨h.os, h.tape, h.output, by simpa using h.size, fun k hk hne => (heap_setCell_other w' ⟨b, i, none⟩ k v (by show k ≠ b; omega)).trans (h.block k hk hne)⟩
theorem Only.below' {g : Nat} {a b c : World} (h : Only g a b) (k : Below b.heap.size b c) : Only g a c := h.trans (Only.of_below k)

set_option maxHeartbeats 1000000 in
set_option maxRecDepth 100000 in
theorem ddHigher_any (n h x : Int) (s : List Int) (g cap B : Nat) (w : World) (hI : IRow w B (.slice (some ⟨g, 0, none⟩) s.length cap) s) (hn : 0 < s.length) (h9 : s.length ≤ 128) (hg : g < w.heap.size) (h0 : 0 ≤ x) (h1 : x ≤ 1099511627776) :
    Calls Try.prog 63 #[.agg #[.int .i64 n, .int .i64 h, .slice (some ⟨g, 0, none⟩) s.length cap], .int .i64 x] w fun e w' =>
      ∃ g' c', e = .returned (.agg #[.int .i64 n, .int .i64 x, .slice (some ⟨g', 0, none⟩) (keepS x s ++ [x]).length c']) ∧ w.heap.size ≤ g' ∧ g' < w'.heap.size ∧ IRow w' w.heap.size (.slice (some ⟨g', 0, none⟩) (keepS x s ++ [x]).length c') (keepS x s ++ [x]) ∧ Only g w w' := by
  have HI := Stow.mk hI
  have hcap : s.length ≤ cap := by
    rcases hI.2 with ⟨h1, _⟩ | ⟨g', cap', cur, hv, _, _, h3, _⟩
    · simp at h1
    · simp only [Value.slice.injEq] at hv; omega
  clear hI
  have hmf : ∀ (fn : Fn) (first cap : Array Value) (w : World), (Instr.makeFunc fn first cap).run Try.prog w = .ok (.func fn first cap) w := fun _ _ _ _ => rfl
  have hW : Stow (∀ W, W = ((w.alloc (.cells #[.int .i64 n, .int .i64 h, .slice (some ⟨g, 0, none⟩) s.length cap] 52)).alloc (.cells #[.int .i64 x] 3)).alloc (.cells #[.int .i64 0, .int .i64 0, .slice none 0 0] 52) →
      Below w.heap.size w W ∧ Held W w.heap.size [.int .i64 n, .int .i64 h, .slice (some ⟨g, 0, none⟩) s.length cap] ∧ Held W (w.heap.size + 1) [.int .i64 x] ∧ Held W (w.heap.size + 1 + 1) [.int .i64 0, .int .i64 0, .slice none 0 0]) := ⟨by
    rintro W rfl
    have a := Held.made w [.int .i64 n, .int .i64 h, .slice (some ⟨g, 0, none⟩) s.length cap] 52
    have b := Held.made (w.alloc (.cells #[.int .i64 n, .int .i64 h, .slice (some ⟨g, 0, none⟩) s.length cap] 52)) [.int .i64 x] 3
    have c := Held.made ((w.alloc (.cells #[.int .i64 n, .int .i64 h, .slice (some ⟨g, 0, none⟩) s.length cap] 52)).alloc (.cells #[.int .i64 x] 3)) [.int .i64 0, .int .i64 0, .slice none 0 0] 52
    refine ⟨Below.alloc' (Below.alloc' (Below.alloc' (Below.self _) _) _) _, ?_, ?_, ?_⟩
    · exact (a.kept (Below.alloc' (Below.self _) _)).kept (Below.alloc' (Below.self _) _)
    · have e : (w.alloc (.cells #[.int .i64 n, .int .i64 h, .slice (some ⟨g, 0, none⟩) s.length cap] 52)).heap.size = w.heap.size + 1 := by simp
      rw [e] at b
      exact b.kept (Below.alloc' (Below.self _) _)
    · have e : ((w.alloc (.cells #[.int .i64 n, .int .i64 h, .slice (some ⟨g, 0, none⟩) s.length cap] 52)).alloc (.cells #[.int .i64 x] 3)).heap.size = w.heap.size + 1 + 1 := by simp
      rw [e] at c
      exact c⟩
  go_enter Try.func63, Try.ntmps63
  go_wp2_with fail
  generalize hWe : World.alloc _ _ = W
  obtain ⟨hbW, hA, hB, hC⟩ := hW.out W hWe.symm
  clear hWe
  have HBW := Stow.mk hbW
  refine (ddDelete_any x s g cap (w.heap.size + 1) B _ (HI.out.keep hbW) hn h9 hB.lt (by omega) (hB.cell (i := 0) rfl) h0 h1).mono ?_
  rintro e w1 ⟨rfl, ho1, hk⟩
  have hA1 := hA.only' ho1 (by omega)
  have hB1 := hB.only' ho1 (by omega)
  have hC1 := hC.only' ho1 (by omega)
  have hkl : (keepS x s).length ≤ s.length := List.length_filter_le _ _
  have HO1 : Stow (Only g w w1) := ⟨(Only.of_below hbW).trans ho1⟩
  have hkc : (keepS x s).length ≤ cap := by omega
  obtain ⟨K, hKe⟩ : ∃ K, keepS x s = K := ⟨_, rfl⟩
  rw [hKe] at hk hkl hkc ⊢
  have HKE := Stow.mk hKe
  clear hKe
  have a0 := hA1.cell (i := 0) rfl
  have b0 := hB1.cell (i := 0) rfl
  have f0 := hC1.free 0
  have f1 := hC1.free 1
  have f2 := hC1.free 2
  have d0 := hC1.cell (i := 0) rfl
  have d1 := hC1.cell (i := 1) rfl
  have d2 := hC1.cell (i := 2) rfl
  have HA1 := Stow.mk hA1
  have HB1 := Stow.mk hB1
  have HC1 := Stow.mk hC1
  have HK := Stow.mk hk
  clear hbW hA hB hC hA1 hB1 hC1 hk ho1
  have hKc : ∀ (o : Obj) (b : Addr), some (⟨g, 0, none⟩ : Addr) = some b → ∀ j u, (K.map (Value.int .i64))[j]? = some u → (w1.drew.alloc o).cell? (b.add j) = some u := by
    rintro o b hb j u hj
    obtain rfl := Option.some.inj hb
    rw [List.getElem?_map] at hj
    obtain ⟨y, hy, rfl⟩ := Option.map_eq_some_iff.1 hj
    obtain ⟨hj', rfl⟩ := List.getElem?_eq_some_iff.1 hy
    rw [Addr.add_lit, Nat.zero_add]
    exact ((Below.alloc' (Below.self w1.drew) o).cell (p := ⟨g, j, none⟩) (Nat.lt_of_lt_of_le hg HO1.out.size)).trans (HK.out j hj')
  have hxc : ∀ j u, [Value.int .i64 x][j]? = some u → (w1.drew.alloc (.cells #[.int .i64 x] 3)).cell? ((⟨w1.heap.size, 0, none⟩ : Addr).add j) = some u := by
    intro j u hj
    rw [Addr.add_lit, Nat.zero_add]
    exact (Held.made w1.drew [Value.int .i64 x] 3).cell (i := j) hj
  have hx1 : ∀ u ∈ [Value.int .i64 x], u.oneCell' = true := by intro u hu; simp at hu; subst hu; rfl
  have HKC := Stow.mk hKc
  have HXC := Stow.mk hxc
  have HX1 := Stow.mk hx1
  have hB3 : Stow (K.length + 1 ≤ maxLen) := ⟨by unfold maxLen; omega⟩
  have hB4 : Stow ((K.length + 1) * 8 ≤ 140737488355328) := ⟨by omega⟩
  obtain ⟨i0, hi, hz, hsz, hby⟩ := info_parts info_int
  have HI0 := Stow.mk hi
  have HZ0 := Stow.mk hz
  have HS0 := Stow.mk hsz
  have HY0 := Stow.mk hby
  clear hKc hxc hx1 hi hz hsz hby
  go_wp2_with fail
  have hA3 : ∀ (o : Obj), Held (w1.drew.alloc o) w.heap.size [.int .i64 n, .int .i64 h, .slice (some ⟨g, 0, none⟩) s.length cap] ∧ Held (w1.drew.alloc o) (w.heap.size + 1) [.int .i64 x] ∧ Held (w1.drew.alloc o) (w.heap.size + 1 + 1) [.int .i64 0, .int .i64 0, .slice none 0 0] := fun o => by
    have hk : Below w1.heap.size w1 (w1.drew.alloc o) := by
      (repeat (first | exact Below.self _ | refine Below.alloc' ?_ _ | refine Below.drew ?_ | refine Below.drewN' ?_ _ | (refine Below.call ?_ (by assumption))))
    exact ⟨Held.kept HA1.out hk, Held.kept HB1.out hk, Held.kept HC1.out hk⟩
  have HA3 := Stow.mk hA3
  clear hA3
  have l2 := HC1.out.lt
  have m0 : (w1.alloc (.cells #[.int .i64 x] 3)).cell? ⟨w.heap.size, 0, none⟩ = some (.int .i64 n) := (HA1.out.kept (Below.alloc' (Below.self _) _)).cell (i := 0) rfl
  have m1 : (w1.alloc (.cells #[.int .i64 x] 3)).cell? ⟨w.heap.size + 1, 0, none⟩ = some (.int .i64 x) := (HB1.out.kept (Below.alloc' (Below.self _) _)).cell (i := 0) rfl
  go_region_law (refine step_append_grows rfl (.tmp 19) (.tmp 21) 50 rfl 3 i0 _ 1 8 Try.underlying50 HI0.out HZ0.out HS0.out HY0.out rfl (by decide) (some ⟨g, 0, none⟩) K.length K.length (K.map (Value.int .i64)) rfl (by simp) (by simp) (HKC.out _) ⟨w1.heap.size, 0, none⟩ 1 1 [Value.int .i64 x] rfl rfl HXC.out HX1.out (by omega) hB3.out hB4.out ?_; intro v' w' hown hgrow; obtain ⟨g', c', rfl, hg1, hg2⟩ := row_form hown (by omega); have HX := Stow.mk (And.intro hown hgrow); clear hown hgrow; have ha := (HA3.out _).1.grown HX.out.2; have hb := (HA3.out _).2.1.grown HX.out.2; have hc := (HA3.out _).2.2.grown HX.out.2; have a0' := ha.cell (i := 0) rfl; have b0' := hb.cell (i := 0) rfl; have f0' := hc.free 0; have f1' := hc.free 1; have f2' := hc.free 2; have d0' := hc.cell (i := 0) rfl; have d1' := hc.cell (i := 1) rfl; have d2' := hc.cell (i := 2) rfl; have HCC := Stow.mk hc; clear ha hb hc)
  all_goals go_wp2_with fail
  all_goals
    have hg1' : w1.heap.size + 1 ≤ g' := by simpa using hg1
    have hbl : Below w1.heap.size w1 w' := (show Below w1.heap.size w1 (w1.alloc (.cells #[.int .i64 x] 3)).drew from (Below.alloc' (Below.self w1) _).drew).grown HX.out.2 (by simp) (by simp)
    have ho : Only g w w' := HO1.out.below' hbl
    have hir : IRow w' w.heap.size (.slice (some ⟨g', 0, none⟩) (K ++ [x]).length c') (K ++ [x]) := by
      refine IRow.base (B' := (w1.alloc (.cells #[.int .i64 x] 3)).drew.heap.size) ?_ (by have := HO1.out.size; simp; omega)
      unfold IRow
      simpa using HX.out.1
    have hne : (Value.slice (some ⟨g', 0, none⟩) (K ++ [x]).length c').ownBlock ≠ some (w.heap.size + 1 + 1) := by simp [Value.ownBlock]; omega
    refine bodyPost_ret (dd_results _ (w.heap.size + 1 + 1) n x (.slice (some ⟨g', 0, none⟩) (K.length + 1) c') _ (((HCC.out.set 0 _).set 1 _).set 2 _) rfl) rfl ?_
    rw [HKE.out]
    refine ⟨g', c', by simp, by omega, by simpa using hg2, ?_, ?_⟩
    · exact ((hir.only (Only.set _ _ 0 _) hne).only (Only.set _ _ 1 _) hne).only (Only.set _ _ 2 _) hne
    · exact ((ho.setNew (by omega) 0 _).setNew (by omega) 1 _).setNew (by omega) 2 _
end Go.Proofs.Ytbcokngjcgldpaa
