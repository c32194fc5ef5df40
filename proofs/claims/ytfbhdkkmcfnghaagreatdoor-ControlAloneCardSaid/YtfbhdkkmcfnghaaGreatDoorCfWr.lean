/- Walks of the config's writer: line. Conditions: the writer's memory; texts no longer than an address space. -/
import Derived.Test.YtfbhdkkmcfnghaaGreatDoorCfCheck
import Derived.Test.YtfbhdkkmcfnghaaGreatDoorShelfS
import Derived.Lib.Join
import Derived.Lib.AppendStr
import Derived.Deep.RegionLaw
namespace Go.Proofs.YtfbhdkkmcfnghaaGreatDoor
open Go.RowKit
set_option linter.unusedVariables false
set_option linter.unusedSimpArgs false

theorem run_append_text_lies {P : Program} (w : World) (base : Nat) (t u ty e : TypeId) (i : TypeInfo) (ht : P.underlying t = some (.slice e)) (hu : P.underlying u = some .string) (hi : P.info? e = some i) (hz : i.zero = some (.int .u8 0))
    (hsize : i.size = 1) (hby : i.bytes = 1) (v : Value) (n : Nat) (xs : List Value) (hown : w.ownsRow base e 1 v n xs) (s : ByteArray) (h63 : n + s.size ≤ maxLen) (hbytes : n + s.size ≤ 140737488355328) (hbase : base ≤ w.heap.size) :
    ∃ v' w', (Builtin.append_ #[t, u] ty #[v, .string s]).run P w = .ok v' w' ∧ w'.ownsRow base e 1 v' (n + s.size) (xs ++ Lib.strCells s) ∧ w.grownBy w' v.ownBlock ∧
      (v'.ownBlock = v.ownBlock ∨ ∀ k, v'.ownBlock = some k → w.heap.size ≤ k) := by
  obtain ⟨v', w', hr, h2, h3, h4⟩ := Lib.run_append_own_string (P := P) w base t u ty e i ht hu hi hz hsize hby v n xs hown s h63 hbytes hbase
  refine ⟨v', w', hr, h2, h3, ?_⟩
  have hxl : xs.length = n := by simpa using hown.1
  rcases hown.2 with ⟨rfl, rfl⟩ | ⟨g, cap, cur, rfl, hbg, hg, hnc, hcm, hcs, htake⟩
  · obtain rfl : xs = [] := List.eq_nil_of_length_eq_zero hxl
    obtain ⟨v2, w2, hr2, g2, _⟩ := Lib.run_append_own_string (P := P) w w.heap.size t u ty e i ht hu hi hz hsize hby _ 0 [] (World.ownsRow_nil w _ e 1) s h63 hbytes (Nat.le_refl _)
    rw [hr] at hr2
    simp only [Result.ok.injEq] at hr2
    obtain ⟨rfl, rfl⟩ := hr2
    exact .inr fun k hk => (g2.lt k hk).1
  · by_cases hroom : n + s.size ≤ cap
    · have hcs' : cur.size = cap := by simpa using hcs
      have hr2 := Lib.run_append_room_string (P := P) w t u ty e i ht hu hi hsize g n cap cur hg s hroom (by omega)
      rw [hr] at hr2
      simp only [Result.ok.injEq] at hr2
      obtain ⟨rfl, _⟩ := hr2
      exact .inl rfl
    · have holds : ∀ j u, xs[j]? = some u → w.cell? ((⟨g, 0, none⟩ : Addr).add j) = some u := hown.cells (g := g) rfl
      have hr2 := Lib.run_append_grow_string (P := P) w t u ty e i (.int .u8 0) ht hu hi hz ⟨g, 0, none⟩ n cap xs (by rw [hsize]; simpa using hxl) holds s (by omega) (by simp only [maxLen] at h63; omega) (by rw [hby]; exact growslice_fits (by omega) (by omega))
      rw [hr] at hr2
      simp only [Result.ok.injEq] at hr2
      obtain ⟨rfl, _⟩ := hr2
      refine .inr fun k hk => ?_
      simp [Value.ownBlock] at hk
      omega
theorem step_append_text {P : Program} {ops : Array Oper} {o : Oper} {a : Act} {K : Act → World → Prop} {Q : Exit → Act → World → Prop} {E : Prop} {w : World} (hgd : o.guard = none) (sl x : Operand) (t u : TypeId)
    (ho : o.op = Op.call { callee := Callee.builtin Builtin.append, args := #[sl, x], argTypes := #[t, u] })
    (base : Nat) (e : TypeId) (ht : P.underlying t = some (.slice e)) (hu : P.underlying u = some .string) (hinfo : (P.info? e).map (fun i => (i.zero, i.size, i.bytes)) = some (some (.int .u8 0), 1, 1))
    (v : Value) (l : List UInt8) (hs : a.eval sl = v) (hown : BRow w base e v l) (s : List UInt8) (hx : a.eval x = .string (bs s))
    (hlen : l.length + s.length ≤ 140737488355328) (hbase : base ≤ w.heap.size)
    (h : ∀ v' w', BRow w' base e v' (l ++ s) → w.grownBy w' v.ownBlock → (v'.ownBlock = v.ownBlock ∨ ∀ k, v'.ownBlock = some k → w.heap.size ≤ k) → K (a.put o.dst v') w') :
    if Region.wanted o (yielded ops a.tmps) = true then Oper.wp P o a w K Q else E := by
  have hw : Region.wanted o (yielded ops a.tmps) = true := by simp [Region.wanted, hgd]
  rw [if_pos hw]
  obtain ⟨i, hi, hz, hsz, hby⟩ := info_parts hinfo
  obtain ⟨v', w', hr, h2, h3, h4⟩ := run_append_text_lies (P := P) w base t u o.type e i ht hu hi hz hsz hby v l.length _ hown (bs s) (by rw [bs_size]; unfold maxLen; omega) (by rw [bs_size]; exact hlen) hbase
  unfold Oper.wp execOp
  simp only [ho, resolve, invoke, builtin, Sem.run_bind, Sem.run_pure, Result.andThen_ok, List.map_toArray, List.map_cons, List.map_nil, hs, hx, hr]
  refine h v' w' ?_ h3 h4
  unfold BRow
  rw [List.length_append, List.map_append]
  rw [bs_size] at h2
  exact h2
/-- A writer in block g, which holds these bytes. -/
structure Wr (w : World) (g B : Nat) (v : Value) (l : List UInt8) : Prop where
  hd : Held w g [v]
  row : BRow w B 5 v l
  gB : g < B
theorem Wr.keep {w w' : World} {g B : Nat} {v : Value} {l : List UInt8} (h : Wr w g B v l) (hb : Below w.heap.size w w') : Wr w' g B v l := ⟨h.hd.kept hb, own_kept h.row hb, h.gB⟩
theorem Wr.size {w : World} {g B : Nat} {v : Value} {l : List UInt8} (h : Wr w g B v l) : g < w.heap.size := h.hd.lt
theorem held_grown {w w' : World} {g : Nat} {cs : List Value} {row : Option Nat} (h : Held w g cs) (hg : w.grownBy w' row) (hne : row ≠ some g) : Held w' g cs := by
  have hl := h.lt
  obtain ⟨t, h0⟩ := h
  exact ⟨t, by rw [hg.block g hl (fun e => hne e.symm)]; exact h0⟩
theorem brow_off {w : World} {B g : Nat} {e : TypeId} {v : Value} {l : List UInt8} (h : BRow w B e v l) (hg : g < B) : v.ownBlock ≠ some g := fun he => by
  have := (World.ownsRow.lt h g he).1
  omega
theorem Turn.of_grownO {w w' : World} {o : Option Nat} (h : w.grownBy w' o) : Turn (fun k => o = some k) w w' := ⟨h.os, h.tape, h.output, h.size, fun k hk hn => h.block k hk (fun e => hn e.symm)⟩
theorem turn_setW (w : World) (g i : Nat) (v : Value) : Turn (fun k => k = g) w (w.setCell ⟨g, i, none⟩ v) := Turn.of_grown (Only.set g w i v) (.inl rfl)
def ln (X : List (List UInt8)) : List UInt8 := Lib.join X [32] ++ [10]
/-- What a writer's method does. -/
def WrOut (g B : Nat) (v : Value) (l : List UInt8) (w : World) (e : Ending) (w' : World) : Prop := e = .returned (.tuple #[]) ∧ ∃ v', Wr w' g B v' l ∧ Turn (fun k => k = g ∨ v.ownBlock = some k) w w'
theorem join_lib (X : List (List UInt8)) (sep : List UInt8) (A : Option Addr) (c : Nat) (w : World) (hS : SlR w 1 (.slice A X.length c) (X.map fun x => [Value.string (bs x)])) (hn : X.length ≤ 140737488355328) (hb : (Lib.join X sep).length ≤ 140737488355328) :
    Calls Tryz.prog 110 #[.slice A X.length c, .string (bs sep)] w fun e w' => e = .returned (.string (bs (Lib.join X sep))) ∧ Below w.heap.size w w' := by
  by_cases h0 : X.length = 0
  · obtain rfl := List.eq_nil_of_length_eq_zero h0
    refine (Any.strings_Join_none Tryz.lays156 Tryz.Builder_Extra_156 A c (bs sep) w).mono ?_
    rintro e w' ⟨rfl, rfl⟩
    exact ⟨rfl, Below.self _⟩
  obtain ⟨b, off, rfl, hblt, hc⟩ := hS.open (by simp; omega)
  have hcap : X.length ≤ c := by
    obtain ⟨A', cap', hv, h1, _⟩ := hS
    simp only [Value.slice.injEq] at hv
    obtain ⟨_, hv1, rfl⟩ := hv
    rw [List.length_map] at h1
    exact h1
  have e2 : ((X.map bs).map (·.data.toList)) = X := by rw [List.map_map]; exact List.map_id X
  have h := Tryz.strings_Join b off c (X.map bs) (bs sep) w (fun j x hj => by
    rw [List.getElem?_map] at hj
    obtain ⟨m, hm, rfl⟩ := Option.map_eq_some_iff.1 hj
    have := hc j [Value.string (bs m)] (by rw [List.getElem?_map, hm]; rfl) 0 _ rfl
    simpa using this) hblt (by rw [List.length_map]; exact hn) (by rw [List.length_map]; exact hcap) (by
    rw [e2, show (bs sep).data.toList = sep from rfl]; exact hb)
  rw [e2, show (bs sep).data.toList = sep from rfl, List.length_map] at h
  exact h
theorem info_u8W : (Tryz.prog.info? 5).map (fun i => (i.zero, i.size, i.bytes)) = some (some (.int .u8 0), 1, 1) := by kernel_rfl
set_option maxHeartbeats 2000000 in
set_option maxRecDepth 100000 in
theorem cfLine_any {w : World} {g B : Nat} {v : Value} {l : List UInt8} (h : Wr w g B v l) (hB : B ≤ w.heap.size) (X : List (List UInt8)) (A : Option Addr) (c : Nat) (hS : SlR w 1 (.slice A X.length c) (X.map fun x => [Value.string (bs x)])) (hn : X.length ≤ 1000) (hb : l.length + (ln X).length ≤ 140737488355328) :
    Calls Tryz.prog 59 #[.pointer (some ⟨g, 0, none⟩), .slice A X.length c] w (WrOut g B v (l ++ ln X) w) := by
  have l32 : (⟨#[32]⟩ : ByteArray) = bs [32] := rfl
  have hjl : l.length + (Lib.join X [32]).length + 1 ≤ 140737488355328 := by unfold ln at hb; simp at hb; omega
  have HJ := Stow.mk (fun W (hbw : Below w.heap.size w W) => join_lib X [32] A c W (hS.keep hbw) (by omega) (by omega))
  obtain ⟨J, hJ⟩ : ∃ J, Lib.join X [32] = J := ⟨_, rfl⟩
  rw [hJ] at HJ hjl
  have HLN : Stow (ln X = J ++ [10]) := ⟨by unfold ln; rw [hJ]⟩
  have HW := Stow.mk h
  have a0 := h.hd.cell (i := 0) rfl
  clear hJ h hS hb
  go_enter Tryz.func59, Tryz.ntmps59
  go_upto_region 0 with fail
  go_region_law (first
    | (rw [if_pos (by rfl)]; go_simp; refine (HJ.out _ (Below.drew (Below.self w))).mono ?_; rintro e w1 ⟨rfl, hb1⟩; have H1 := Stow.mk ((Below.drew (Below.self w)).trans hb1); have a1 := (HW.out.hd.kept H1.out).cell (i := 0) rfl)
    | (refine step_append_text rfl (.tmp 8) (.tmp 10) 102 9 rfl B 5 Tryz.underlying102 Tryz.underlying9 info_u8W v l rfl (own_kept HW.out.row H1.out) J rfl (by omega) (Nat.le_trans hB H1.out.size) ?_; intro v2 w2 hr2 hg2 hl2; obtain ⟨A2, k2, rfl⟩ := own_form hr2; have HL2 := Stow.mk hl2; have H2 := Stow.mk (And.intro hr2 hg2); have HH2 := Stow.mk (held_grown (HW.out.hd.kept H1.out) hg2 (brow_off HW.out.row HW.out.gB)); have a2 := HH2.out.cell (i := 0) rfl; have f2 := HH2.out.free 0; clear hr2 hg2 hl2))
  all_goals
    have HTN : Stow (Turn (fun k => k = g ∨ v.ownBlock = some k) w (w2.setCell ⟨g, 0, none⟩ (.slice A2 (l.length + J.length) k2))) := ⟨((Turn.of_below H1.out).trans (Turn.of_grownO H2.out.2) (fun i hi => .inl (.inr hi))).trans (turn_setW w2 g 0 _) (fun i hi => .inl (.inl hi))⟩
    have hrow : BRow w2 B 5 (.slice A2 (l.length + J.length) k2) (l ++ J) := by
      have := H2.out.1
      rwa [List.length_append] at this
    have HW3 : Stow (Wr (w2.setCell ⟨g, 0, none⟩ (.slice A2 (l.length + J.length) k2)) g B (.slice A2 (l.length + J.length) k2) (l ++ J)) := ⟨HH2.out.set 0 _, own_undr hrow (Only.set g w2 0 _) HW.out.gB, HW.out.gB⟩
    have hB3 : B ≤ (w2.setCell ⟨g, 0, none⟩ (.slice A2 (l.length + J.length) k2)).heap.size := Nat.le_trans hB HTN.out.size
    obtain ⟨W3, hW3⟩ : ∃ W, w2.setCell ⟨g, 0, none⟩ (.slice A2 (l.length + J.length) k2) = W := ⟨_, rfl⟩
    rw [hW3] at HTN HW3 hB3 ⊢
    have HNEW : Stow (∀ i, (Value.slice A2 (l.length + J.length) k2).ownBlock = some i → (i = g ∨ v.ownBlock = some i) ∨ w.heap.size ≤ i) := ⟨fun i hi => by
      have hi' : (Value.slice A2 (l ++ J).length k2).ownBlock = some i := by rw [List.length_append]; exact hi
      rcases HL2.out with h | h
      · exact .inl (.inr (by rw [← h]; exact hi'))
      · exact .inr (Nat.le_trans H1.out.size (h i hi'))⟩
    clear hW3 HH2 H2 H1 a2 f2 a0 HJ HL2
    clear hrow
    have b0 := HW3.out.hd.cell (i := 0) rfl
    have hlt3 := HW3.out.hd.lt
    have hne3 : (W3.heap.size == g) = false := by simp; omega
    have HLL : Stow ((l ++ J).length + 1 ≤ 140737488355328) := ⟨by simp; omega⟩
    have HBX := Stow.mk (Below.alloc' (Below.self W3) (.cells #[.int .u8 10] 5))
    go_wp2_with (at_builtin; refine wpList_append_byte HW3.out.row 10 rfl rfl (.tmp 18) (.tmp 19) 102 rfl Tryz.underlying102 info_u8W rfl rfl HLL.out hB3 ?_; intro v5 w5 hr5 hg5 hb5 hs5; obtain ⟨A5, k5, rfl⟩ := own_form hr5; have H5 := Stow.mk (And.intro hr5 hg5); have HH5 := Stow.mk (held_grown (HW3.out.hd.kept HBX.out) hg5 (brow_off HW3.out.row HW3.out.gB)); have a5 := HH5.out.cell (i := 0) rfl; have f5 := HH5.out.free 0; clear hr5 hg5 hb5 hs5)
    have HWE : Stow (Wr (w5.setCell ⟨g, 0, none⟩ (.slice A5 (l ++ J ++ [10]).length k5)) g B (.slice A5 (l ++ J ++ [10]).length k5) (l ++ J ++ [10])) := ⟨HH5.out.set 0 _, own_undr H5.out.1 (Only.set g w5 0 _) HW.out.gB, HW.out.gB⟩
    have hwl : (l ++ J ++ [10]).length = l.length + (J.length + 1) := by simp
    rw [hwl] at HWE
    have HOF : Stow (∀ i, (Value.slice A2 (l.length + J.length) k2).ownBlock = some i → (i = g ∨ v.ownBlock = some i) ∨ w.heap.size ≤ i) := ⟨fun i hi => HNEW.out i hi⟩
    have HTE : Stow (Turn (fun k => k = g ∨ v.ownBlock = some k) w (w5.setCell ⟨g, 0, none⟩ (.slice A5 (l.length + (J.length + 1)) k5))) := ⟨((HTN.out.trans (Turn.of_below (F := fun k => k = g) HBX.out) (fun i hi => .inl (.inl hi))).trans (Turn.of_grownO H5.out.2) (fun i hi => HOF.out i hi)).trans (turn_setW w5 g 0 _) (fun i hi => .inl (.inl hi))⟩
    clear hwl HBX H5 HH5 a5 f5 b0
    go_end0
    rw [HLN.out, ← List.append_assoc]
    exact ⟨rfl, _, HWE.out, HTE.out⟩
end Go.Proofs.YtfbhdkkmcfnghaaGreatDoor
