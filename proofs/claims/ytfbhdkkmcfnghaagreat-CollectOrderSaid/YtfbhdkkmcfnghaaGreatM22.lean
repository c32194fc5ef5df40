/- Walk of store.Add, Get, Traces. Conditions: memory of traces; lists not longer than a hundred.; Walk of store.Get, Traces. Conditions: memory of traces; lists not longer than a thousand. -/
import Derived.Test.YtfbhdkkmcfnghaaGreatM21

section
namespace Go.Proofs.YtfbhdkkmcfnghaaGreat
open Go.RowKit
set_option linter.unusedVariables false

/-- What Add asks of the traces. -/
structure St.Fine (l : List Kp) : Prop where
  len : l.length ≤ 32
  each : ∀ k ∈ l, 0 < k.L.length ∧ k.L.length ≤ 64
theorem St.putK_len {k : Kp} {s : Sp} (h : 0 < k.L.length ∧ k.L.length ≤ 64) : 0 < (St.putK k s).L.length ∧ (St.putK k s).L.length ≤ 64 := by
  unfold St.putK
  split
  · exact h
  · split
    · exact h
    · simp; omega
theorem St.Fine.add {l : List Kp} (h : St.Fine l) (r : Int) (s : Sp) : St.Fine (St.add l r s).1 := by
  have hr := St.room_pos r
  cases ho : St.at_ l s.hi s.lo with
  | some i =>
    obtain ⟨hi, e⟩ := St.add_some (r := r) ho
    rw [e]
    refine ⟨by have := h.len; simp; omega, fun k hk => ?_⟩
    simp only [List.append_assoc, List.cons_append, List.nil_append, List.mem_append, List.mem_cons] at hk
    rcases hk with hk | rfl | hk
    · exact h.each k (List.mem_of_mem_take hk)
    · exact St.putK_len (h.each _ (List.getElem_mem hi))
    · exact h.each k (List.mem_of_mem_drop hk)
  | none =>
    rw [St.add_none ho]
    refine ⟨by have := h.len; simp; omega, fun k hk => ?_⟩
    rcases List.mem_append.1 (List.mem_of_mem_drop hk) with hk | hk
    · exact h.each k hk
    · obtain rfl : k = St.one s := by simpa using hk
      simp [St.one]
theorem Held.undr2 {w w' : World} {g B : Nat} {cs : List Value} (h : Held w g cs) (hb : Below B w w') (hg : g < B) : Held w' g cs := by
  obtain ⟨t, h0⟩ := h
  exact ⟨t, by rw [hb.block g hg]; exact h0⟩
/-- A trace more behind the others. -/
theorem KO.more {w W w' : World} {B g' cap cap' : Nat} {A : Option Addr} {R : List Km} {s : Sp} (h : KO w B A cap R) (hB : B ≤ w.heap.size) (hW : W = (w.alloc (.cells s.cells.toArray 64)).alloc (.cells (Km.mk (St.one s) (some ⟨w.heap.size, 0, none⟩) 1).cells.toArray 40))
    (hown : w'.ownsRow B 40 5 (.slice (some ⟨g', 0, none⟩) (R.length + 1) cap') (R.length + 1) (R.flatMap Km.cells ++ (Km.mk (St.one s) (some ⟨w.heap.size, 0, none⟩) 1).cells))
    (hgrow : W.grownBy w' (Value.slice A R.length cap).ownBlock) (hat : (Value.slice A R.length cap).ownBlock = some g' ∨ g' = W.heap.size) :
    KO w' B (some ⟨g', 0, none⟩) cap' (R ++ [⟨St.one s, some ⟨w.heap.size, 0, none⟩, 1⟩]) := by
  have b1 := Below.alloc' (Below.self w) (.cells s.cells.toArray 64)
  have b2 := Below.alloc' (Below.self (w.alloc (.cells s.cells.toArray 64))) (.cells (Km.mk (St.one s) (some ⟨w.heap.size, 0, none⟩) 1).cells.toArray 40)
  have hsz : W.heap.size = w.heap.size + 1 + 1 := by rw [hW]; simp
  have hbw : Below w.heap.size w W := by rw [hW]; exact Below.call b1 b2
  have hlit : KmO (w.alloc (.cells s.cells.toArray 64)) B ⟨St.one s, some ⟨w.heap.size, 0, none⟩, 1⟩ := by
    have := World.ownsRow_lit (e := 64) (size := 11) w s.cells.toArray 1 hB (by unfold maxLen; omega) rfl
    unfold KmO St.one
    simpa using this
  have hlw : KmO W B ⟨St.one s, some ⟨w.heap.size, 0, none⟩, 1⟩ := by rw [hW]; exact hlit.keep b2
  have hAb : ∀ k, (Value.slice A R.length cap).ownBlock = some k → k < w.heap.size := fun k hk => by
    rcases A with _ | a
    · cases hk
    · cases hk
      exact (own_block h.row a rfl).2
  have hxb : ∀ x ∈ R, ∀ c, x.A = some c → c.block < w.heap.size ∧ ∀ k, (Value.slice A R.length cap).ownBlock = some k → c.block ≠ k := fun x hx c hc => by
    refine ⟨(own_block (h.each x hx) c hc).2, fun k hk => ?_⟩
    rcases A with _ | a
    · cases hk
    · cases hk
      exact h.off x hx a c rfl hc
  have hkeep : ∀ x : Km, KmO W B x → (∀ c, x.A = some c → ∀ k, (Value.slice A R.length cap).ownBlock = some k → c.block ≠ k) → KmO w' B x := fun x hx hne => by
    refine World.ownsRow.kept hx hgrow ?_
    rcases hA : x.A with _ | c
    · exact .inl rfl
    · right
      intro e
      exact hne c hA c.block e.symm rfl
  refine ⟨?_, ?_, ?_, ?_⟩
  · simp only [List.length_append, List.length_cons, List.length_nil, Nat.zero_add, List.flatMap_append, List.flatMap_cons, List.flatMap_nil, List.append_nil]
    exact hown
  · intro x hx
    rcases List.mem_append.1 hx with hx | hx
    · exact hkeep x ((h.each x hx).keep hbw) fun c hc k hk => (hxb x hx c hc).2 k hk
    · obtain rfl := List.mem_singleton.1 hx
      refine hkeep _ hlw fun c hc k hk => ?_
      cases hc
      have := hAb k hk
      simp only
      omega
  · intro x hx a b ha hb
    cases ha
    rcases List.mem_append.1 hx with hx | hx
    · rcases hat with e | e
      · exact (hxb x hx b hb).2 g' e
      · have := (hxb x hx b hb).1
        simp only
        omega
    · obtain rfl := List.mem_singleton.1 hx
      cases hb
      simp only
      rcases hat with e | e
      · have := hAb g' e
        omega
      · omega
  · refine List.pairwise_append.2 ⟨h.apart, by simp, fun x hx y hy a b ha hb => ?_⟩
    obtain rfl := List.mem_singleton.1 hy
    cases hb
    have := (hxb x hx a ha).1
    simp only
    omega
/-- All blocks are new. -/
def NewK (B : Nat) (A : Option Addr) (R : List Km) : Prop := (∀ a, A = some a → B ≤ a.block) ∧ ∀ m ∈ R, ∀ a, m.A = some a → B ≤ a.block
theorem KO.new {w : World} {B B' : Nat} {A : Option Addr} {cap : Nat} {R : List Km} (h : KO w B A cap R) (hb : B' ≤ B) : NewK B' A R :=
  ⟨fun a ha => Nat.le_trans hb (World.ownsRow.lt h.row a.block (by rw [ha]; rfl)).1, fun m hm a ha => Nat.le_trans hb (World.ownsRow.lt (h.each m hm) a.block (by rw [ha]; rfl)).1⟩
theorem map_mid {α : Type} {l : List α} {i : Nat} (h : i < l.length) : l = l.take i ++ l[i] :: l.drop (i + 1) := by
  rw [← List.drop_eq_getElem_cons h, List.take_append_drop]
set_option maxHeartbeats 4000000 in
set_option maxRecDepth 100000 in
theorem stAdd_any (A : Option Addr) (cap : Nat) (R : List Km) (r : Int) (s : Sp) (w : World) (h : KsR w A cap R) (hf : St.Fine (R.map Km.k)) (hr : -9223372036854775808 ≤ r ∧ r ≤ 9223372036854775807) :
    Calls Tryz.prog 53 #[.slice A R.length cap, .int .i64 r, s.val] w fun e w' => ∃ A' cap' R', e = .returned (.tuple #[.slice A' R'.length cap', .int .i64 ((St.add (R.map Km.k) r s).2 : Nat)]) ∧ R'.map Km.k = (St.add (R.map Km.k) r s).1 ∧ KsR w' A' cap' R' ∧ Below w.heap.size w w' ∧ NewK w.heap.size A' R' := by
  have hlen : R.length ≤ 32 := by have := hf.len; simpa using this
  have ba := Below.alloc' (Below.self w) (.cells s.cells.toArray 64)
  have hbx := Held.made w s.cells 64
  have h1 := h.keep ba
  obtain ⟨W, hW⟩ : ∃ W, w.alloc (.cells s.cells.toArray 64) = W := ⟨_, rfl⟩
  rw [hW] at ba hbx h1
  have HC := Stow.mk (stCopied_any A cap R W h1 (by omega) (fun m hm => by have := (hf.each m.k (List.mem_map_of_mem hm)).2; omega))
  have HX := Stow.mk hbx
  have HLT := Stow.mk (show w.heap.size < W.heap.size from hbx.lt)
  have HB := Stow.mk ba
  have HW := Stow.mk hW
  have HF := Stow.mk hf
  have HR := Stow.mk hr
  clear h ba hbx h1 hW hf
  obtain ⟨o, ho⟩ : ∃ o, St.at_ (R.map Km.k) s.hi s.lo = o := ⟨_, rfl⟩
  have HO := Stow.mk ho
  unfold Sp.val
  unfold Sp.cells at HW
  go_enter Tryz.func53, Tryz.ntmps53
  go_upto_region 1 with fail
  generalize hX : World.alloc w _ = X
  obtain rfl : W = X := HW.out.symm.trans hX
  clear hX HW ho
  go_wp2_with fail
  refine HC.out.mono ?_
  rintro e w1 ⟨A1, c1, R1, rfl, hk1, hKO, hb1⟩
  have HK1 := Stow.mk hk1
  have hl1 : R1.length = R.length := by have := congrArg List.length hk1; simpa using this
  have HKO := Stow.mk hKO
  have HWB := Stow.mk hb1
  have HW0 := Stow.mk HB.out
  have HX := Stow.mk (HX.out.kept hb1)
  have HB := Stow.mk (HB.out.trans (hb1.mono HB.out.size))
  have b0 := HX.out.cell (i := 0) rfl
  have b1 := HX.out.cell (i := 1) rfl
  have hfd := stFind_any s.hi s.lo A1 c1 R1 w1 HKO.out.read.row (by omega)
  rw [hl1, HK1.out, HO.out] at hfd
  have HFD := Stow.mk hfd
  clear hfd
  clear hk1 hKO hb1 HC
  go_wp2_with fail
  refine HFD.out.mono ?_
  rintro e w2 ⟨rfl, hb2⟩
  have HX := Stow.mk (HX.out.kept hb2)
  have HB := Stow.mk (HB.out.trans (hb2.mono HB.out.size))
  have HKO := Stow.mk (HKO.out.keep hb2)
  have HWB := Stow.mk (HWB.out.trans (hb2.mono HWB.out.size))
  clear hb2 b0 b1 HFD
  have HL1 := Stow.mk hl1
  clear hl1
  cases o with
  | some i =>
    simp only [St.ixInt]
    obtain ⟨hi, hadd⟩ := St.add_some (r := r) HO.out
    have HAD := Stow.mk hadd
    rw [List.length_map] at hi
    have hi1 : i < R1.length := by rw [HL1.out]; exact hi
    have hsp := map_mid hi1
    have hA1 : ∃ g, A1 = some ⟨g, 0, none⟩ := by
      obtain ⟨g, c', hv, _⟩ := World.ownsRow.form HKO.out.row (by omega)
      simp only [Value.slice.injEq] at hv
      exact ⟨g, hv.1⟩
    obtain ⟨g, rfl⟩ := hA1
    have hko := HKO.out
    rw [hsp] at hko
    have hmk : R1[i].k = R[i].k := by
      have := congrArg (fun l => l[i]?) HK1.out
      simpa [hi, hi1] using this
    have hfi := HF.out.each R[i].k (List.mem_map_of_mem (List.getElem_mem hi))
    have hql : (R1.take i).length = i := by rw [List.length_take]; omega
    have HPT := Stow.mk (fun W' (hb : Below w2.heap.size w2 W') => stPut_any W.heap.size g c1 (R1.take i) (R1.drop (i + 1)) R1[i] s W' (hko.keep hb) (Nat.le_trans HWB.out.size hb.size) (by rw [hmk]; exact hfi.2) (by rw [hmk]; exact hfi.1))
    rw [hql] at HPT
    have hki : (0 : Int) ≤ i := by omega
    have hkl : (i : Int) < R.length := by omega
    have hxl := HX.out.lt
    have b0 := HX.out.cell (i := 0) rfl
    have b1 := HX.out.cell (i := 1) rfl
    have b2 := HX.out.cell (i := 2) rfl
    have b3 := HX.out.cell (i := 3) rfl
    have b4 := HX.out.cell (i := 4) rfl
    have b5 := HX.out.cell (i := 5) rfl
    have b6 := HX.out.cell (i := 6) rfl
    have b7 := HX.out.cell (i := 7) rfl
    have b8 := HX.out.cell (i := 8) rfl
    have b9 := HX.out.cell (i := 9) rfl
    have b10 := HX.out.cell (i := 10) rfl
    have HEND : Stow (∀ m' : Km, m'.k = St.putK R1[i].k s → (R1.take i ++ m' :: R1.drop (i + 1)).length = R.length ∧ (R1.take i ++ m' :: R1.drop (i + 1)).map Km.k = (St.add (R.map Km.k) r s).1) := ⟨fun m' hm => by
      refine ⟨by have := HL1.out; simp; omega, ?_⟩
      rw [HAD.out]
      simp only [List.map_append, List.map_cons, List.map_take, List.map_drop, HK1.out, hm, hmk]
      simp⟩
    have HA2 : Stow ((St.add (R.map Km.k) r s).2 = 0) := ⟨by rw [HAD.out]⟩
    clear hsp hko hql hadd
    go_upto_region 4 with fail
    go_region_with ((refine (HPT.out _ (Below.drew (Below.self w2))).mono ?_; rintro e w3 ⟨rfl, m', hm', hko', hb3⟩; have HM := Stow.mk hm'; have HK3 := Stow.mk hko'; have HB3 := Stow.mk hb3; clear hm' hko' hb3))
    all_goals
      obtain ⟨h1, h2⟩ := HEND.out m' HM.out
      have HH1 := Stow.mk h1
      clear b0 b1 b2 b3 b4 b5 b6 b7 b8 b9 b10 h1
      have HB4 := Stow.mk (HB.out.trans ((Below.drew (Below.self w2)).mono HB.out.size |>.trans (HB3.out.mono (Nat.le_of_lt HLT.out))))
      go_wp2_with fail
      go_ret2
      refine ⟨_, _, R1.take i ++ m' :: R1.drop (i + 1), ?_, h2, HK3.out.read, HB4.out, HK3.out.new (Nat.le_of_lt HLT.out)⟩
      rw [HH1.out, HA2.out]
      rfl
  | none =>
    simp only [St.ixInt]
    have HAD := Stow.mk (St.add_none (r := r) HO.out)
    have hneg : ¬ (0 : Int) ≤ -1 := by omega
    have b0 := HX.out.cell (i := 0) rfl
    have b1 := HX.out.cell (i := 1) rfl
    have b2 := HX.out.cell (i := 2) rfl
    have b3 := HX.out.cell (i := 3) rfl
    have b4 := HX.out.cell (i := 4) rfl
    have b5 := HX.out.cell (i := 5) rfl
    have b6 := HX.out.cell (i := 6) rfl
    have b7 := HX.out.cell (i := 7) rfl
    have b8 := HX.out.cell (i := 8) rfl
    have b9 := HX.out.cell (i := 9) rfl
    have b10 := HX.out.cell (i := 10) rfl
    obtain ⟨m', hm'⟩ : ∃ m : Km, m = ⟨St.one s, some ⟨w2.heap.size, 0, none⟩, 1⟩ := ⟨_, rfl⟩
    obtain ⟨Wd, hWd⟩ : ∃ W, W = (w2.alloc (.cells s.cells.toArray 64)).alloc (.cells (Km.mk (St.one s) (some ⟨w2.heap.size, 0, none⟩) 1).cells.toArray 40) := ⟨_, rfl⟩
    have hbd : Below w2.heap.size w2 Wd := by
      rw [hWd]
      exact Below.call (Below.alloc' (Below.self w2) _) (Below.alloc' (Below.self _) _)
    have hb2z := Nat.le_trans HWB.out.size (Nat.le_refl w2.heap.size)
    have HMR := Stow.mk (fun w' g' cap' h1 h2 h3 => KO.more (w := w2) (W := Wd) (w' := w') (g' := g') (cap' := cap') HKO.out hb2z hWd h1 h2 h3)
    have HOD := Stow.mk (own_kept HKO.out.row hbd)
    rw [HL1.out] at HOD
    have HXX : Stow (∀ j u, (Km.mk (St.one s) (some ⟨w2.heap.size, 0, none⟩) 1).cells[j]? = some u → Wd.cell? ((⟨w2.heap.size + 1, 0, none⟩ : Addr).add j) = some u) := ⟨by
      have := World.news_of_block (w := Wd) (B := w2.heap.size + 1) (cs := (Km.mk (St.one s) (some ⟨w2.heap.size, 0, none⟩) 1).cells.toArray) (t := 40) (fr := (0, 0)) (by rw [hWd]; simpa using heap_alloc_new (w2.alloc (.cells s.cells.toArray 64)) (.cells (Km.mk (St.one s) (some ⟨w2.heap.size, 0, none⟩) 1).cells.toArray 40))
      intro j u hj
      exact this j u (by simpa using hj)⟩
    have HX1 : Stow (∀ u ∈ (Km.mk (St.one s) (some ⟨w2.heap.size, 0, none⟩) 1).cells, u.oneCell' = true) := ⟨Km.one _⟩
    have HN1 : Stow (R.length + 1 ≤ maxLen ∧ (R.length + 1) * 48 ≤ 140737488355328 ∧ W.heap.size ≤ Wd.heap.size) := ⟨by unfold maxLen; omega, by omega, Nat.le_trans HWB.out.size hbd.size⟩
    obtain ⟨i0, hi, hz, hsz, hby⟩ := info_parts info_kept
    have HI := Stow.mk hi
    have HZ := Stow.mk hz
    have HSZ := Stow.mk hsz
    have HBY := Stow.mk hby
    have HBD := Stow.mk hbd
    have HOK := Stow.mk (fun k hk => (World.ownsRow.lt HKO.out.row k hk))
    unfold Km.cells Sp.cells St.one at hWd
    simp only at hWd
    unfold St.one Km.cells at HXX HX1
    simp only at HXX HX1
    rw [hWd] at HMR HOD HXX HN1 HBD
    clear hWd hbd hi hz hsz hby hm'
    go_upto_region 7 with (at_builtin; refine wpList_append_lies _ rfl (.tmp 25) (.tmp 31) 30 rfl W.heap.size 40 i0 _ 5 48 Tryz.underlying30 HI.out HZ.out HSZ.out HBY.out rfl (by decide) _ R.length _ rfl HOD.out ⟨w2.heap.size + 1, 0, none⟩ 1 1 _ rfl rfl HXX.out HX1.out (by decide) HN1.out.1 HN1.out.2.1 HN1.out.2.2 _ rfl ?_; intro g' cap' w3 hown hgrow hat hlt'; have HOW := Stow.mk hown; have HGR := Stow.mk hgrow; have HAT := Stow.mk hat; clear hown hgrow hat)
    have hKO3 := HMR.out w3 g' cap' (by rw [HL1.out]; exact HOW.out) (by rw [HL1.out]; exact HGR.out) (by rw [HL1.out]; exact HAT.out)
    have HKO3 := Stow.mk hKO3
    have HB3 := Stow.mk ((HBD.out.mono HWB.out.size).grown HGR.out HN1.out.2.2 (fun k hk => (HOK.out k (by rw [HL1.out]; exact hk)).1))
    obtain ⟨d, hd⟩ : ∃ d, R.length + 1 - St.room r = d := ⟨_, rfl⟩
    have hrp := St.room_pos r
    have hroom : (if (1 : Int) < (if (32 : Int) < r then 32 else r) then (if (32 : Int) < r then 32 else r) else 1) = (St.room r : Int) := by
      unfold St.room
      split <;> split <;> omega
    have hgone : (if (St.room r : Int) < (R.length : Int) + 1 then (R.length : Int) + 1 - (St.room r : Int) else 0) = (d : Int) := by
      split <;> omega
    have hdl : d < R.length + 1 := by omega
    have hRL : (R1 ++ [(Km.mk (St.one s) (some ⟨w2.heap.size, 0, none⟩) 1)]).length = R.length + 1 := by simp [HL1.out]
    have hdel := stDelete_any W.heap.size g' cap' (R1 ++ [(Km.mk (St.one s) (some ⟨w2.heap.size, 0, none⟩) 1)]) d w3 hKO3 (Nat.le_trans HWB.out.size HB3.out.size) (by rw [hRL]; exact hdl) (by rw [hRL]; omega)
    rw [hRL] at hdel
    have HDL := Stow.mk hdel
    have HROOM := Stow.mk hroom
    have HGONE := Stow.mk hgone
    have HEND : Stow ((((R1 ++ [(Km.mk (St.one s) (some ⟨w2.heap.size, 0, none⟩) 1)]).drop d).length = R.length + 1 - d) ∧ ((R1 ++ [(Km.mk (St.one s) (some ⟨w2.heap.size, 0, none⟩) 1)]).drop d).map Km.k = (St.add (R.map Km.k) r s).1 ∧ (St.add (R.map Km.k) r s).2 = d) := ⟨by
      rw [HAD.out, List.length_map, hd]
      refine ⟨by rw [List.length_drop, hRL], ?_, rfl⟩
      rw [List.map_drop, List.map_append, HK1.out]
      rfl⟩
    clear hKO3 HMR HOD HXX HX1 HOW HGR HAT HKO b0 b1 b2 b3 b4 b5 b6 b7 b8 b9 b10 hdel hroom hgone hd hRL hdl hrp
    go_upto_region 8 with fail
    rw [HROOM.out, HGONE.out]
    generalize (if (32 : Int) < r then (32 : Int) else r) = mn
    go_wp2_with fail
    refine HDL.out.mono ?_
    rintro e w4 ⟨rfl, hko4, hb4⟩
    have HB4 := Stow.mk (HB.out.trans ((HB3.out.trans hb4).mono (Nat.le_of_lt HLT.out)))
    have HK4 := Stow.mk hko4.read
    have HKN := Stow.mk (hko4.new (Nat.le_of_lt HLT.out))
    clear hko4 hb4
    go_wp2_with fail
    go_ret2
    obtain ⟨h1, h2, h3⟩ := HEND.out
    refine ⟨_, _, _, ?_, h2, HK4.out, HB4.out, HKN.out⟩
    rw [h1, h3]
    rfl
end Go.Proofs.YtfbhdkkmcfnghaaGreat
end

section
namespace Go.Proofs.YtfbhdkkmcfnghaaGreat
open Go.RowKit
set_option linter.unusedVariables false

def St.none_ : Kp := ⟨0, 0, [], false, false⟩
def St.get (l : List Kp) (hi lo : Nat) : Kp × Bool := match St.at_ l hi lo with
  | some i => (l.getD i St.none_, true)
  | none => (St.none_, false)
theorem stGet_results (W : World) (g : Nat) (a b c d e f : Value) (tmps : Array Value) (hH : Held W g [a, b, c, d, e]) (h2 : tmps[4]?.getD undef = .pointer (some ⟨g, 0, none⟩)) (h3 : tmps[5]?.getD undef = f) :
    (results Tryz.f34 tmps).run Tryz.prog W = .ok (.tuple #[.agg #[a, b, c, d, e], f]) W := by
  have c0 := hH.cell (i := 0) rfl
  have c1 := hH.cell (i := 1) rfl
  have c2 := hH.cell (i := 2) rfl
  have c3 := hH.cell (i := 3) rfl
  have c4 := hH.cell (i := 4) rfl
  simp [results, Tryz.results34, go_sem, h2, h3, c0, c1, c2, c3, c4]
set_option maxHeartbeats 4000000 in
set_option maxRecDepth 100000 in
theorem stGet_any (A : Option Addr) (cap : Nat) (R : List Km) (hi lo : Nat) (w : World) (h : KsR w A cap R) (hn : R.length ≤ 1000) (hs : ∀ m ∈ R, m.k.L.length ≤ 1000) :
    Calls Tryz.prog 34 #[.slice A R.length cap, .agg #[.int .u64 (hi : Int), .int .u64 (lo : Int)]] w fun e w' => ∃ m' : Km, e = .returned (.tuple #[.agg m'.cells.toArray, .bool (St.get (R.map Km.k) hi lo).2]) ∧ m'.k = (St.get (R.map Km.k) hi lo).1 ∧ KmR w' m' ∧ Below w.heap.size w w' ∧ ∀ a, m'.A = some a → w.heap.size ≤ a.block := by
  have ba := Below.alloc' (Below.self w) (.cells #[.int .u64 (hi : Int), .int .u64 (lo : Int)] 25)
  have bz := Below.alloc' (Below.self (w.alloc (.cells #[.int .u64 (hi : Int), .int .u64 (lo : Int)] 25))) (.cells #[.int .u64 0, .int .u64 0, .slice none 0 0, .bool false, .bool false] 40)
  have h1 := (Held.made w [.int .u64 (hi : Int), .int .u64 (lo : Int)] 25).kept bz
  have h2 := Held.made (w.alloc (.cells #[.int .u64 (hi : Int), .int .u64 (lo : Int)] 25)) [.int .u64 0, .int .u64 0, .slice none 0 0, .bool false, .bool false] 40
  have hb := Below.call ba bz
  obtain ⟨W, hW⟩ : ∃ W, (w.alloc (.cells #[.int .u64 (hi : Int), .int .u64 (lo : Int)] 25)).alloc (.cells #[.int .u64 0, .int .u64 0, .slice none 0 0, .bool false, .bool false] 40) = W := ⟨_, rfl⟩
  rw [show (w.alloc (.cells #[.int .u64 (hi : Int), .int .u64 (lo : Int)] 25)).alloc (.cells [.int .u64 0, .int .u64 0, .slice none 0 0, .bool false, .bool false].toArray 40) = W from hW] at h2
  rw [show (w.alloc (.cells [.int .u64 (hi : Int), .int .u64 (lo : Int)].toArray 25)).alloc (.cells #[.int .u64 0, .int .u64 0, .slice none 0 0, .bool false, .bool false] 40) = W from hW] at h1
  rw [hW] at hb
  simp only [World.size_alloc] at h2
  have H1 := Stow.mk h1
  have H2 := Stow.mk h2
  have HB := Stow.mk hb
  have HW := Stow.mk hW
  have HS := Stow.mk (h.keep hb)
  have HSM := Stow.mk hs
  have c0 := H1.out.cell (i := 0) rfl
  have c1 := H1.out.cell (i := 1) rfl
  obtain ⟨o, ho⟩ : ∃ o, St.at_ (R.map Km.k) hi lo = o := ⟨_, rfl⟩
  have hfd := stFind_any hi lo A cap R W HS.out.row hn
  rw [ho] at hfd
  have HFD := Stow.mk hfd
  have HO := Stow.mk ho
  unfold St.get
  rw [ho]
  clear ba bz h1 h2 hb hW h hs hfd ho
  go_enter Tryz.func34, Tryz.ntmps34
  go_upto_region 1 with fail
  generalize hX : World.alloc (World.alloc w _) _ = X
  obtain rfl : W = X := HW.out.symm.trans hX
  clear hX HW
  go_wp2_with fail
  refine HFD.out.mono ?_
  rintro e w1 ⟨rfl, hb1⟩
  have HB := Stow.mk (HB.out.trans (hb1.mono HB.out.size))
  have HS := Stow.mk (HS.out.keep hb1)
  have H2 := Stow.mk (H2.out.kept hb1)
  have HL1 := Stow.mk H2.out.lt
  clear c0 c1 hb1
  have H2T := Stow.mk H2.out.there
  cases o with
  | none =>
    simp only [St.ixInt]
    have hneg : (-1 : Int) < 0 := by omega
    have H3 := Stow.mk (H2.out.over [.int .u64 0, .int .u64 0, .slice none 0 0, .bool false, .bool false] rfl)
    have hO : Only (w.heap.size + 1) w1 (w1.setCells (w.heap.size + 1) 0 [.int .u64 0, .int .u64 0, .slice none 0 0, .bool false, .bool false]) := only_all _ _ _
    have HB3 := Stow.mk (HB.out.trans (hO.below (Nat.le_succ _) HB.out.size))
    have f0 := H2.out.free 0
    have f1 := H2.out.free 1
    have f2 := H2.out.free 2
    have f3 := H2.out.free 3
    have f4 := H2.out.free 4
    have c0 := H2.out.cell (i := 0) rfl
    have c1 := H2.out.cell (i := 1) rfl
    have c2 := H2.out.cell (i := 2) rfl
    have c3 := H2.out.cell (i := 3) rfl
    have c4 := H2.out.cell (i := 4) rfl
    clear hO
    go_wp2_with fail
    refine bodyPost_ret (stGet_results _ (w.heap.size + 1) _ _ _ _ _ _ _ H3.out rfl rfl) rfl ?_
    exact ⟨⟨St.none_, none, 0⟩, rfl, rfl, SlR.nil _ _, HB3.out, fun a ha => by cases ha⟩
  | some i =>
    simp only [St.ixInt]
    obtain ⟨hi0, -⟩ := St.find_at HO.out
    rw [List.length_map] at hi0
    obtain ⟨b, off, rfl, hblt, _⟩ := HS.out.row.open (by simp; omega)
    have HRA := Stow.mk (km_at HS.out.row hi0).2
    have HOW := Stow.mk (stOwn_any R[i] w1 (HS.out.each _ (List.getElem_mem hi0)) (HSM.out _ (List.getElem_mem hi0)))
    have HGD : Stow ((R.map Km.k).getD i St.none_ = R[i].k) := ⟨by simp [hi0]⟩
    obtain ⟨m, hm⟩ : ∃ m, R[i] = m := ⟨_, rfl⟩
    rw [hm] at HRA HOW HGD
    have HMK : Stow (m.k = R[i].k) := ⟨by rw [hm]⟩
    have hneg : ¬ (i : Int) < 0 := by omega
    have hii : (0 : Int) ≤ i := by omega
    have hil : (i : Int) < R.length := by omega
    clear hm
    go_wp2_with (refine wpList_load_mid rfl 40 (.tmp 15) rfl b (off + i * 5) rfl m.cells _ HRA.out Tryz.underlying40 rfl (by rw [Km.cells_len]; kernel_rfl) ?_)
    refine HOW.out.mono ?_
    rintro e w2 ⟨m', rfl, hk', ho', hb2⟩
    have HB := Stow.mk (HB.out.trans (hb2.mono HB.out.size))
    have H2 := Stow.mk (H2.out.kept hb2)
    have H2T := Stow.mk (show w2.there (w.heap.size + 1) 0 m'.cells.length from H2.out.there)
    have H3 := Stow.mk (H2.out.over m'.cells rfl)
    have hO : Only (w.heap.size + 1) w2 (w2.setCells (w.heap.size + 1) 0 m'.cells) := only_all _ _ _
    have HB3 := Stow.mk (HB.out.trans (hO.below (Nat.le_succ _) HB.out.size))
    have hlt2 := H2.out.lt
    have HNW := Stow.mk (show ∀ a, m'.A = some a → w.heap.size ≤ a.block from fun a ha => Nat.le_trans (Nat.le_of_lt (Nat.lt_trans (Nat.lt_succ_self _) HL1.out)) (own_block ho' a ha).1)
    have HR := Stow.mk (slr_only (g := w.heap.size + 1) ho'.read hO (fun a ha => by have := (own_block ho' a ha).1; have := HL1.out; omega))
    clear hO hb2
    go_wp2_with (refine wpList_store_hx rfl 40 (.tmp 4) (.tmp 17) rfl rfl (w.heap.size + 1) 0 m'.cells rfl rfl H2T.out (by rw [Km.cells_len]; kernel_rfl) (Km.one m') ?_)
    obtain ⟨⟨mh, ml, mL, mx, mc⟩, mA, mcap⟩ := m'
    have H4 := Stow.mk (show Held _ (w.heap.size + 1) [.int .u64 (mh : Int), .int .u64 (ml : Int), .slice mA mL.length mcap, .bool mx, .bool mc] from H3.out)
    refine bodyPost_ret (stGet_results _ (w.heap.size + 1) _ _ _ _ _ _ _ H4.out rfl rfl) rfl ?_
    exact ⟨⟨⟨mh, ml, mL, mx, mc⟩, mA, mcap⟩, rfl, by first | exact hk'.trans HMK.out | (rw [HGD.out]; exact hk'), HR.out, HB3.out, HNW.out⟩

def Km.tr (m : Km) : List Value := [.int .u64 (m.k.hi : Int), .int .u64 (m.k.lo : Int)]
theorem info_trace : (Tryz.prog.info? 25).map (fun i => (i.zero, i.size, i.bytes)) = some (some (.agg #[.int .u64 0, .int .u64 0]), 2, 16) := by kernel_rfl
/-- A row of traces' numbers. -/
def TrR (w : World) (A : Option Addr) (cap : Nat) (R : List Km) : Prop := SlR w 2 (.slice A R.length cap) (R.map Km.tr)
set_option maxHeartbeats 4000000 in
set_option maxRecDepth 100000 in
theorem stTraces_any (A : Option Addr) (cap : Nat) (R : List Km) (w : World) (h : KsR w A cap R) (hn : R.length ≤ 1000) :
    Calls Tryz.prog 41 #[.slice A R.length cap] w fun e w' => ∃ A' cap', e = .returned (.slice A' R.length cap') ∧ TrR w' A' cap' R ∧ Below w.heap.size w w' := by
  have HS := Stow.mk h
  clear h
  have HX1 : Stow (∀ m : Km, ∀ u ∈ m.tr, u.oneCell' = true) := ⟨by intro m u hu; simp [Km.tr] at hu; rcases hu with rfl | rfl <;> rfl⟩
  go_enter Tryz.func41, Tryz.ntmps41
  go_wp2_with fail
  go_loopw [3, 5, 8] (fun o _ u wr => ∃ i : Nat, u = .int .i64 (i : Int) ∧ i ≤ R.length ∧ Stow (wr.ownsRow w.heap.size 25 2 o i ((R.take i).flatMap Km.tr)) ∧ Stow (Below w.heap.size w wr)) (fun _ _ u _ => R.length - (intOf u).toNat)
  case atStart => exact ⟨0, rfl, by omega, ⟨World.ownsRow_nil _ _ _ _⟩, ⟨Below.self _⟩⟩
  case round =>
    obtain ⟨i, rfl, hi, HO, HB⟩ := hrel
    obtain ⟨Ao, co, rfl⟩ := own_form HO.out
    by_cases hlt : i < R.length
    · obtain ⟨b, off, rfl, hblt, _⟩ := HS.out.row.open (by simp; omega)
      have HRA := Stow.mk (km_at (SlR.keep HS.out.row HB.out) hlt).2
      obtain ⟨y, hy⟩ : ∃ y, R[i] = y := ⟨_, rfl⟩
      have HNX : Stow ((R.take (i + 1)).flatMap Km.tr = (R.take i).flatMap Km.tr ++ y.tr) := ⟨by rw [List.take_succ_eq_append_getElem hlt, hy]; simp⟩
      rw [hy] at HRA
      have hii : (i : Int) < R.length := by omega
      have hi0 : (0 : Int) ≤ i := by omega
      have K8 : Stow ((i + 1) * 16 ≤ 140737488355328 ∧ i + 1 ≤ maxLen) := ⟨by omega, by unfold maxLen; omega⟩
      clear hy
      have ba := Below.alloc' (Below.self wr) (.cells kz.toArray 40)
      have hZ := Held.made wr kz 40
      have HZT := Stow.mk (show (wr.alloc (.cells kz.toArray 40)).there wr.heap.size 0 y.cells.length from hZ.there)
      have HYH := Stow.mk (hZ.over y.cells rfl)
      have hbx : Below wr.heap.size wr ((wr.alloc (.cells kz.toArray 40)).setCells wr.heap.size 0 y.cells) := ba.trans ((only_all y.cells _ 0).below (Nat.le_refl _) ba.size)
      obtain ⟨W2, hW2⟩ : ∃ W, (wr.alloc (.cells kz.toArray 40)).setCells wr.heap.size 0 y.cells = W := ⟨_, rfl⟩
      rw [hW2] at HYH hbx
      have HW2 := Stow.mk hW2
      have HBX := Stow.mk hbx
      clear ba hZ hbx hW2
      go_upto_region 5 with (first
        | (refine wpList_load_mid rfl 40 (.tmp 10) rfl b (off + i * 5) rfl y.cells _ HRA.out Tryz.underlying40 rfl (by rw [Km.cells_len]; kernel_rfl) ?_)
        | (refine wpList_store_hx rfl 40 (.tmp 5) (.tmp 11) rfl rfl wr.heap.size 0 y.cells rfl rfl HZT.out (by rw [Km.cells_len]; kernel_rfl) (Km.one y) ?_))
      generalize hW : World.setCells _ _ _ _ = W3
      obtain rfl : W2 = W3 := HW2.out.symm.trans hW
      clear hW HW2 HZT HRA
      have HO := Stow.mk (own_kept HO.out HBX.out)
      have HB := Stow.mk (HB.out.trans (HBX.out.mono HB.out.size))
      have c0 := HYH.out.cell (i := 0) rfl
      have c1 := HYH.out.cell (i := 1) rfl
      have HXY := Stow.mk (HX1.out y)
      unfold Km.tr at HXY HNX
      go_upto_region 6 with (at_builtin; refine wpList_append_elem_form W2 [.int .u64 (y.k.hi : Int), .int .u64 (y.k.lo : Int)] _ rfl (.tmp 12) (.tmp 15) 49 rfl w.heap.size 25 _ 2 16 Tryz.underlying49 info_trace _ _ _ HO.out rfl _ rfl rfl rfl (by decide) rfl HXY.out K8.out.1 K8.out.2 HB.out.size ?_; intro A4 c4 w4 h4 hg4 hb4 hs4)
      have H4 := Stow.mk h4
      have HB4 := Stow.mk (HB.out.trans hb4)
      clear h4 hg4 hb4 hs4 c0 c1
      go_wp2_with fail
      exact ⟨⟨i + 1, rfl, by omega, ⟨by unfold Km.tr; rw [HNX.out]; exact H4.out⟩, HB4⟩, by simp [intOf]; omega⟩
    · obtain rfl : i = R.length := by omega
      have hni : ¬ ((R.length : Int) < R.length) := by omega
      have hO := HO.out
      rw [List.take_length] at hO
      have HT := Stow.mk (show TrR wr Ao co R from own_of_cells (enc := Km.tr) (fun _ => rfl) hO rfl)
      clear hO
      go_wp2_with fail
      go_ret
      first
        | exact ⟨Ao, co, rfl, HT.out, HB.out⟩
        | exact ⟨HT.out, HB.out⟩
end Go.Proofs.YtfbhdkkmcfnghaaGreat
end
