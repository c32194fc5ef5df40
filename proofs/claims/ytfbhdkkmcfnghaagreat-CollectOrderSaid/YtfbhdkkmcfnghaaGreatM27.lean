/- Walks of slices.Grow, Concat at ints (two slices), tree.Walk, Nodes. Conditions: a slice's own.; Walk of tree.Nodes. Conditions: a slice's own.; Walks of slices.Grow at nil, Concat of two slices of ints. Conditions: a slice's own.; Walk of tree.Lost. Conditions: a slice's own. -/
import Derived.Test.YtfbhdkkmcfnghaaGreatM26
import Derived.Test.YtfbhdkkmcfnghaaGreatM23
import Derived.Lib.AppendZeros
import Derived.Laws.AppendOwnNone

section
namespace Go.Proofs.YtfbhdkkmcfnghaaGreat
open Go.RowKit
set_option linter.unusedVariables false

theorem IRow.alloc {w : World} {B : Nat} {v : Value} {L : List Nat} (h : IRow w B v L) (o : Obj) : IRow (w.alloc o) B v L := World.ownsRow.alloc h o
theorem IRow.keep {w w' : World} {B : Nat} {v : Value} {L : List Nat} (h : IRow w B v L) (hb : Below w.heap.size w w') : IRow w' B v L := own_kept h hb
theorem IRow.lower {w : World} {B B' : Nat} {v : Value} {L : List Nat} (h : IRow w B' v L) (hle : B ≤ B') : IRow w B v L := own_lower h hle
theorem wpList_append_int {P : Program} {ops : Array Oper} {rest : List Oper} {o : Oper} {a : Act} {Q : Exit → Act → World → Prop}
    {wr : World} {eo : TypeId} {B : Nat} {v : Value} {L : List Nat} (hown : IRow wr B v L) (n : Nat)
    (hgd : o.guard = none) (s y : Operand) (t : TypeId)
    (ho : o.op = Op.call { callee := Callee.builtin Builtin.append, args := #[s, y], argTypes := #[t, t] })
    (ht : P.underlying t = some (.slice 3))
    (hinfo : (P.info? 3).map (fun i => (i.zero, i.size, i.bytes)) = some (some (.int .i64 0), 1, 8))
    (hs : a.eval s = v) (g : Nat) (hy : a.eval y = .slice (some ⟨g, 0, none⟩) 1 1) (hgs : g = wr.heap.size)
    (hbytes : (L.length + 1) * 8 ≤ 140737488355328) (hB : B ≤ wr.heap.size)
    (h : ∀ A cap w', IRow w' B (.slice A (L.length + 1) cap) (L ++ [n]) → (wr.alloc (.cells #[.int .i64 (n : Int)] eo)).grownBy w' v.ownBlock → Below B wr w' → wr.heap.size < w'.heap.size →
      wpList P ops Q rest (a.put o.dst (.slice A (L.length + 1) cap)) w') :
    wpList P ops Q (o :: rest) a (wr.alloc (.cells #[.int .i64 (n : Int)] eo)) := by
  subst hgs
  refine wpList_append_num hown n rfl hgd s y t ho ht 8 hinfo hs hy hbytes (by decide) hB ?_
  intro v' w' h1 h2 h3 h4
  obtain ⟨A, cap, rfl⟩ := own_form h1
  have e : (L ++ [n]).length = L.length + 1 := by simp
  rw [e] at h1 ⊢
  exact h A cap w' h1 h2 h3 h4
theorem IRow.form {w : World} {B : Nat} {v : Value} {L : List Nat} (h : IRow w B v L) : ∃ A cap, v = .slice A L.length cap := own_form h
theorem IRow.at_ {w : World} {B : Nat} {A : Option Addr} {n cap i : Nat} {L : List Nat} (h : IRow w B (.slice A n cap) L) (hi : i < L.length) : ∃ g, A = some ⟨g, 0, none⟩ ∧ g < w.heap.size ∧ B ≤ g ∧ w.cell? ⟨g, i, none⟩ = some (.int .i64 (L[i] : Nat)) := by
  rcases h.2 with ⟨_, h1⟩ | ⟨g, cp, cur, hv, hb, hg, _⟩
  · omega
  · simp only [Value.slice.injEq] at hv
    obtain ⟨rfl, rfl, rfl⟩ := hv
    exact ⟨g, rfl, (IRow.lt h).2, (IRow.lt h).1, IRow.cell h (List.getElem?_eq_getElem hi)⟩
theorem SRow.at_ {w : World} {B : Nat} {A : Option Addr} {n cap i : Nat} {L : List (Nat × Nat)} (h : SRow w B (.slice A n cap) L) (hi : i < L.length) : ∃ g, A = some ⟨g, 0, none⟩ ∧ g < w.heap.size ∧ B ≤ g ∧ w.cell? ⟨g, i * 2, none⟩ = some (.int .i64 (L[i].1 : Nat)) ∧ w.cell? ⟨g, i * 2 + 1, none⟩ = some (.int .i64 (L[i].2 : Nat)) := by
  rcases h.2 with ⟨_, h1⟩ | ⟨g, cp, cur, hv, hb, hg, _⟩
  · omega
  · simp only [Value.slice.injEq] at hv
    obtain ⟨rfl, rfl, rfl⟩ := hv
    have hx : (L.map stc)[i]? = some (stc L[i]) := by rw [List.getElem?_map, List.getElem?_eq_getElem hi]; rfl
    have hf := flat_at (c := 2) (L := L.map stc) (fun y hy => by obtain ⟨m, _, rfl⟩ := List.mem_map.1 hy; rfl) i _ hx
    rw [← List.flatMap_def] at hf
    have c1 := World.ownsRow.cells h rfl (i * 2 + 0) _ (hf 0 _ rfl)
    have c2 := World.ownsRow.cells h rfl (i * 2 + 1) _ (hf 1 _ rfl)
    rw [Addr.add_lit, Nat.zero_add] at c1 c2
    exact ⟨g, rfl, (World.ownsRow.lt h g rfl).2, (World.ownsRow.lt h g rfl).1, c1, c2⟩

set_option maxHeartbeats 2000000 in
set_option maxRecDepth 100000 in
theorem trWalk_any (A : Option Addr) (cap : Nat) (L : List Sp) (n : Nat) (w : World) (hS : SpR w A cap L) (hn : L.length ≤ 1000000) :
    Calls Tryz.prog 117 #[.slice A L.length cap, .int .i64 (n : Int)] w fun e w' => ∃ v, e = .returned v ∧ SRow w' w.heap.size v (Tr.walk L n) ∧ Below w.heap.size w w' := by
  by_cases h : n < L.length
  · exact trWalk_yes A cap L n w hS hn h
  · have hk : Tr.walk L n = [] := by unfold Tr.walk; rw [if_neg h]
    refine (trWalk_no A cap L n w hn (.inr (by omega))).mono fun e w' ⟨he, hb⟩ => ⟨_, he, ?_, ?_⟩
    · rw [hk]; exact World.ownsRow_nil _ _ _ _
    · subst hb; exact Below.self _

set_option maxHeartbeats 2000000 in
set_option maxRecDepth 100000 in
theorem trWalkW_of (A : Option Addr) (cap : Nat) (L : List Sp) (n : Int) (R : List (Nat × Nat)) (w : World) (HK : Stow (Calls Tryz.prog 117 #[.slice A L.length cap, .int .i64 n] w fun e w' => ∃ v, e = .returned v ∧ SRow w' w.heap.size v R ∧ Below w.heap.size w w')) (HRL : Stow (R.length ≤ L.length)) (hn : L.length ≤ 1000000) :
    Calls Tryz.prog 140 #[.slice A L.length cap, .int .i64 n] w fun e w' => ∃ v, e = .returned v ∧ IRow w' w.heap.size v (R.map Prod.fst) ∧ Below w.heap.size w w' := by
  go_enter Tryz.func140, Tryz.ntmps140
  go_wp2_with fail
  refine HK.out.mono ?_
  rintro e w1 ⟨v, rfl, hr, hb⟩
  obtain ⟨Av, cv_, rfl⟩ := own_form hr
  have HR := Stow.mk hr
  have HB := Stow.mk hb
  clear hr hb
  go_wp2_with fail
  go_loopw [5, 12] (fun v u wr => ∃ i : Nat, u = .int .i64 (i : Int) ∧ i ≤ R.length ∧ Stow (IRow wr w1.heap.size v ((R.take i).map Prod.fst)) ∧ Below w1.heap.size w1 wr) (fun _ u _ => R.length - (intOf u).toNat)
  case atStart => exact ⟨0, rfl, by omega, ⟨NRow.nil _ _ _ _⟩, Below.self _⟩
  case round =>
    obtain ⟨i, rfl, hi, HO, hbr⟩ := hrel
    have HBR := Stow.mk hbr
    clear hbr
    obtain ⟨Qq, hQ⟩ : ∃ Qq, (R.take i).map Prod.fst = Qq := ⟨_, rfl⟩
    have HQ := Stow.mk hQ
    rw [hQ] at HO
    clear hQ
    obtain ⟨Ao, co, rfl⟩ := own_form HO.out
    by_cases hlt : i < R.length
    · obtain ⟨g, rfl, hgl, _, q0, q1⟩ := SRow.at_ (own_kept HR.out HBR.out) hlt
      obtain ⟨x, hx⟩ : ∃ x, R[i] = x := ⟨_, rfl⟩
      rw [hx] at q0 q1
      have HTK : Stow ((R.take (i + 1)).map Prod.fst = Qq ++ [x.1]) := ⟨by rw [List.take_succ_eq_append_getElem hlt, hx, List.map_append, HQ.out]; rfl⟩
      obtain ⟨a, d⟩ := x
      simp only at q0 q1 HTK
      have hii : (i : Int) < R.length := by omega
      have hrl := HRL.out
      have HOA := Stow.mk (IRow.alloc HO.out (.cells #[.int .i64 (a : Nat), .int .i64 (d : Nat)] 157))
      have HBA : Stow (Below w1.heap.size w1 (wr.alloc (.cells #[.int .i64 (a : Nat), .int .i64 (d : Nat)] 157))) := ⟨HBR.out.alloc HBR.out.size _⟩
      have K8 : Stow ((Qq.length + 1) * 8 ≤ 140737488355328) := ⟨by have := HRL.out; rw [← HQ.out]; simp only [List.length_map, List.length_take]; omega⟩
      clear hx
      go_wp2_with (at_builtin; refine wpList_append_int HOA.out a rfl (.tmp 16) (.tmp 19) 105 rfl Tryz.underlying105 info_int rfl _ rfl (by simp) K8.out HBA.out.size ?_; intro A9 c9 w2 hown2 _ hb2 hs2)
      exact ⟨⟨i + 1, rfl, by omega, ⟨by rw [HTK.out]; exact hown2⟩, HBA.out.trans hb2⟩, by simp [intOf]; omega⟩
    · obtain rfl : i = R.length := by omega
      have hni : ¬ (R.length : Int) < R.length := by omega
      go_wp2_with fail
      go_ret
      refine ⟨_, rfl, ?_, HB.out.trans (HBR.out.mono HB.out.size)⟩
      have h := HQ.out
      rw [List.take_length] at h
      rw [h]
      exact own_lower HO.out HB.out.size

theorem trWalkW_any (A : Option Addr) (cap : Nat) (L : List Sp) (n : Nat) (w : World) (hS : SpR w A cap L) (hn : L.length ≤ 1000000) :
    Calls Tryz.prog 140 #[.slice A L.length cap, .int .i64 (n : Int)] w fun e w' => ∃ v, e = .returned v ∧ IRow w' w.heap.size v ((Tr.walk L n).map Prod.fst) ∧ Below w.heap.size w w' :=
  trWalkW_of A cap L n _ w ⟨trWalk_any A cap L n w hS hn⟩ ⟨Tr.walk_len L n⟩ hn
/-- What one comes to from any place, be it none. -/
def Tr.walkI (L : List Sp) (a : Int) : List (Nat × Nat) := if a < 0 then [] else Tr.walk L a.toNat
theorem Tr.walkI_no {L : List Sp} {a : Int} (h : a < 0 ∨ (L.length : Int) ≤ a) : Tr.walkI L a = [] := by
  unfold Tr.walkI Tr.walk
  split
  · rfl
  · rw [if_neg (by omega)]
theorem Tr.walkI_yes (L : List Sp) (n : Nat) : Tr.walkI L n = Tr.walk L n := by
  unfold Tr.walkI
  rw [if_neg (by omega)]
  rfl
theorem Tr.walkI_out (L : List Sp) (a : Int) : Tr.Out L.length (Tr.walkI L a) := by
  unfold Tr.walkI
  split
  · exact ⟨by simp, by simp⟩
  · exact Tr.walk_out L _
theorem trWalk_at (A : Option Addr) (cap : Nat) (L : List Sp) (a : Int) (w : World) (hS : SpR w A cap L) (hn : L.length ≤ 1000000) :
    Calls Tryz.prog 117 #[.slice A L.length cap, .int .i64 a] w fun e w' => ∃ v, e = .returned v ∧ SRow w' w.heap.size v (Tr.walkI L a) ∧ Below w.heap.size w w' := by
  by_cases h : a < 0 ∨ (L.length : Int) ≤ a
  · rw [Tr.walkI_no h]
    exact (trWalk_no A cap L a w hn h).mono fun e w' ⟨he, hb⟩ => ⟨_, he, World.ownsRow_nil _ _ _ _, by subst hb; exact Below.self _⟩
  · obtain ⟨n, rfl⟩ : ∃ n : Nat, a = n := ⟨a.toNat, by omega⟩
    rw [Tr.walkI_yes]
    exact trWalk_any A cap L n w hS hn
theorem trWalkW_at (A : Option Addr) (cap : Nat) (L : List Sp) (a : Int) (w : World) (hS : SpR w A cap L) (hn : L.length ≤ 1000000) :
    Calls Tryz.prog 140 #[.slice A L.length cap, .int .i64 a] w fun e w' => ∃ v, e = .returned v ∧ IRow w' w.heap.size v ((Tr.walkI L a).map Prod.fst) ∧ Below w.heap.size w w' :=
  trWalkW_of A cap L a _ w ⟨trWalk_at A cap L a w hS hn⟩ ⟨(Tr.walkI_out L a).len⟩ hn
end Go.Proofs.YtfbhdkkmcfnghaaGreat
end

section
namespace Go.Proofs.YtfbhdkkmcfnghaaGreat
open Go.RowKit
set_option linter.unusedVariables false

/-- A node: its depth, and the span. -/
def ndc (L : List Sp) (p : Nat × Nat) : List Value := [.int .i64 (p.2 : Nat), .string (bs (Tr.sp L p.1).name), .int .i64 (Tr.sp L p.1).st, .bool (Tr.sp L p.1).sh]
theorem info_node : (Tryz.prog.info? 67).map (fun i => (i.zero, i.size, i.bytes)) = some (some (.agg #[.int .i64 0, .string ⟨#[]⟩, .int .i64 0, .bool false]), 4, 40) := by kernel_rfl
/-- Nodes of the call's own. -/
abbrev DRow (L : List Sp) (w : World) (B : Nat) (v : Value) (R : List (Nat × Nat)) : Prop := w.ownsRow B 67 4 v R.length (R.flatMap (ndc L))
theorem ndc_one (L : List Sp) (p : Nat × Nat) : ∀ u ∈ ndc L p, u.oneCell' = true := by
  intro u hu
  simp [ndc] at hu
  rcases hu with rfl | rfl | rfl | rfl <;> rfl

set_option maxHeartbeats 4000000 in
set_option maxRecDepth 100000 in
theorem trNodes_of (A : Option Addr) (cap : Nat) (L : List Sp) (n : Int) (R : List (Nat × Nat)) (w : World) (HS : Stow (SpR w A cap L)) (HK : Stow (Calls Tryz.prog 117 #[.slice A L.length cap, .int .i64 n] w fun e w' => ∃ v, e = .returned v ∧ SRow w' w.heap.size v R ∧ Below w.heap.size w w')) (HRL : Stow (R.length ≤ L.length)) (HLT : Stow (∀ x ∈ R.map Prod.fst, x < L.length)) (hn : L.length ≤ 1000000) :
    Calls Tryz.prog 80 #[.slice A L.length cap, .int .i64 n] w fun e w' => ∃ v, e = .returned v ∧ DRow L w' w.heap.size v R ∧ Below w.heap.size w w' := by
  go_enter Tryz.func80, Tryz.ntmps80
  go_wp2_with fail
  refine HK.out.mono ?_
  rintro e w1 ⟨v, rfl, hr, hb⟩
  obtain ⟨Av, cv_, rfl⟩ := own_form hr
  have HR := Stow.mk hr
  have HB := Stow.mk hb
  clear hr hb
  go_wp2_with fail
  go_loopw [5, 13] (fun v u wr => ∃ i : Nat, u = .int .i64 (i : Int) ∧ i ≤ R.length ∧ Stow (DRow L wr w1.heap.size v (R.take i)) ∧ Below w1.heap.size w1 wr) (fun _ u _ => R.length - (intOf u).toNat)
  case atStart => exact ⟨0, rfl, by omega, ⟨World.ownsRow_nil _ _ _ _⟩, Below.self _⟩
  case round =>
    obtain ⟨i, rfl, hi, HO, hbr⟩ := hrel
    have HBR := Stow.mk hbr
    clear hbr
    have hlq : (R.take i).length = i := by rw [List.length_take]; omega
    have hO := HO.out
    unfold DRow at hO
    rw [hlq] at hO
    obtain ⟨Ao, co, rfl⟩ := own_form hO
    have HOO := Stow.mk hO
    clear hO hlq
    by_cases hlt : i < R.length
    · obtain ⟨g, rfl, hgl, _, q0, q1⟩ := SRow.at_ (own_kept HR.out HBR.out) hlt
      obtain ⟨x, hx⟩ : ∃ x, R[i] = x := ⟨_, rfl⟩
      have hxN : x.1 < L.length := HLT.out x.1 (List.mem_map_of_mem (hx ▸ List.getElem_mem hlt))
      rw [hx] at q0 q1
      have HTK : Stow ((R.take (i + 1)).flatMap (ndc L) = (R.take i).flatMap (ndc L) ++ ndc L x ∧ (R.take (i + 1)).length = i + 1) := ⟨by rw [List.take_succ_eq_append_getElem hlt, hx, List.flatMap_append]; simp, by rw [List.length_take]; omega⟩
      obtain ⟨a, d⟩ := x
      simp only at q0 q1 hxN
      have hSr := HS.out.keep (HB.out.trans (HBR.out.mono HB.out.size))
      obtain ⟨b, off, rfl, _, _⟩ := hSr.open (by simp; omega)
      have hsp := span_at hSr hxN
      obtain ⟨s, hs⟩ : ∃ s, L[a] = s := ⟨_, rfl⟩
      have HND : Stow (ndc L (a, d) = [.int .i64 (d : Nat), .string (bs s.name), .int .i64 s.st, .bool s.sh]) := ⟨by unfold ndc; simp only; rw [Tr.sp_get hxN, hs]⟩
      rw [hs] at hsp
      obtain ⟨hltb, p0, p1, p2, p3, p4, p5, p6, p7, p8, p9, p10⟩ := hsp
      have hii : (i : Int) < R.length := by omega
      have hai : (a : Int) < L.length := by omega
      have hrl := HRL.out
      have hbA := Below.alloc' (Below.alloc' (Below.self wr) (.cells #[.int .i64 (a : Nat), .int .i64 (d : Nat)] 157)) (.cells s.cells.toArray 64)
      have HOA := Stow.mk (own_kept HOO.out hbA)
      have HBA : Stow (Below w1.heap.size w1 ((wr.alloc (.cells #[.int .i64 (a : Nat), .int .i64 (d : Nat)] 157)).alloc (.cells s.cells.toArray 64))) := ⟨HBR.out.trans (hbA.mono HBR.out.size)⟩
      have K8 : Stow ((i + 1) * 40 ≤ 140737488355328 ∧ i + 1 ≤ maxLen) := ⟨by omega, by unfold maxLen; omega⟩
      clear hx hs hSr hbA
      go_wp2_with (at_builtin; refine wpList_append_elem_form _ [.int .i64 (d : Nat), .string (bs s.name), .int .i64 s.st, .bool s.sh] _ rfl (.tmp 22) (.tmp 32) 58 rfl w1.heap.size 67 _ 4 40 Tryz.underlying58 info_node _ _ _ HOA.out rfl _ rfl (by simp) rfl (by decide) rfl (by rw [← HND.out]; exact ndc_one L (a, d)) K8.out.1 K8.out.2 HBA.out.size ?_; intro A4 cap4 w4 hown4 hg4 hb4 hs4)
      exact ⟨⟨i + 1, rfl, by omega, ⟨by unfold DRow; rw [HTK.out.1, HTK.out.2, HND.out]; exact hown4⟩, HBA.out.trans hb4⟩, by simp [intOf]; omega⟩
    · obtain rfl : i = R.length := by omega
      have hni : ¬ (R.length : Int) < R.length := by omega
      go_wp2_with fail
      go_ret
      refine ⟨_, rfl, ?_, HB.out.trans (HBR.out.mono HB.out.size)⟩
      have := HO.out
      rw [List.take_length] at this
      exact own_lower this HB.out.size

theorem trNodes_any (A : Option Addr) (cap : Nat) (L : List Sp) (n : Nat) (w : World) (hS : SpR w A cap L) (hn : L.length ≤ 1000000) :
    Calls Tryz.prog 80 #[.slice A L.length cap, .int .i64 (n : Int)] w fun e w' => ∃ v, e = .returned v ∧ DRow L w' w.heap.size v (Tr.walk L n) ∧ Below w.heap.size w w' :=
  trNodes_of A cap L n _ w ⟨hS⟩ ⟨trWalk_any A cap L n w hS hn⟩ ⟨Tr.walk_len L n⟩ ⟨(Tr.walk_out L n).lt⟩ hn
theorem trNodes_at (A : Option Addr) (cap : Nat) (L : List Sp) (a : Int) (w : World) (hS : SpR w A cap L) (hn : L.length ≤ 1000000) :
    Calls Tryz.prog 80 #[.slice A L.length cap, .int .i64 a] w fun e w' => ∃ v, e = .returned v ∧ DRow L w' w.heap.size v (Tr.walkI L a) ∧ Below w.heap.size w w' :=
  trNodes_of A cap L a _ w ⟨hS⟩ ⟨trWalk_at A cap L a w hS hn⟩ ⟨(Tr.walkI_out L a).len⟩ ⟨(Tr.walkI_out L a).lt⟩ hn
end Go.Proofs.YtfbhdkkmcfnghaaGreat
end

section
namespace Go.Proofs.YtfbhdkkmcfnghaaGreat
open Go.RowKit
set_option linter.unusedVariables false

set_option maxHeartbeats 2000000 in
set_option maxRecDepth 100000 in
theorem grow_any (n : Nat) (w : World) (hn : n ≤ 2000000) : Calls Tryz.prog 163 #[.slice none 0 0, .int .i64 (n : Int)] w fun e w' => ∃ v, e = .returned v ∧ IRow w' w.heap.size v [] ∧ Below w.heap.size w w' := by
  by_cases h0 : n = 0
  · subst h0
    go_enter Tryz.func163, Tryz.ntmps163
    go_wp2_with fail
    go_ret
    exact ⟨_, rfl, NRow.nil _ _ _ _, Below.self _⟩
  · obtain ⟨i, hi, hz, hsz, hby⟩ := info_parts info_int
    have hr := Lib.run_append_nil_zeros (P := Tryz.prog) w 105 3 105 3 i (.int .i64 0) .i64 .i64 Tryz.underlying105 Tryz.underlying3 hi hz n (by omega) (by rw [hsz]; decide) (by omega) (by rw [hby]; omega)
    have HR := Stow.mk hr
    have hd : decide ((n : Int) < 0) = false := by simp
    have hn0 : (0 : Int) < n := by omega
    clear hr hi
    go_enter Tryz.func163, Tryz.ntmps163
    go_wp2_with (at_builtin; refine Lib.wpList_append_run _ rfl (.tmp 20) (.tmp 21) 105 3 rfl _ _ rfl rfl _ _ HR.out ?_)
    go_ret
    refine ⟨_, rfl, ?_, Below.drew (Below.alloc' (Below.self w) _)⟩
    exact World.ownsRow.drew (World.ownsRow_made w _ _ (Nat.le_refl _) (grownCap_le_maxLen w n 0 _ (by unfold maxLen; omega)) (by
      have := grownCap_ge w n 0 3
      rw [Array.size_append, size_zeroCells, size_zeroCells]
      simp
      omega))

set_option maxRecDepth 100000 in
theorem wpList_append_irow {w : World} {ops : Array Oper} {rest : List Oper} {o : Oper} {a : Act} {Q : Exit → Act → World → Prop} {B B2 : Nat} {v v2 : Value} {L L2 : List Nat} (hown : IRow w B v L) (hsrc : IRow w B2 v2 L2)
    (hgd : o.guard = none) (s x : Operand) (ho : o.op = .call { callee := .builtin .append, args := #[s, x], argTypes := #[105, 105] }) (hs : a.eval s = v) (hx : a.eval x = v2)
    (hbytes : (L.length + L2.length) * 8 ≤ 140737488355328) (hB : B ≤ w.heap.size)
    (h : ∀ A cap w', IRow w' B (.slice A (L ++ L2).length cap) (L ++ L2) → w.grownBy w' v.ownBlock → Below B w w' → wpList Tryz.prog ops Q rest (a.put o.dst (.slice A (L ++ L2).length cap)) w') : wpList Tryz.prog ops Q (o :: rest) a w := by
  obtain ⟨i, hi, hz, hsz, hby⟩ := info_parts info_int
  have hsrc0 := hsrc
  rcases hsrc.2 with ⟨rfl, h0⟩ | ⟨g, cap, cur, rfl, _⟩
  · have hL2 : L2 = [] := List.eq_nil_of_length_eq_zero h0
    subst hL2
    refine wpList_append_own_none hgd s x 105 ho B 3 i 1 Tryz.underlying105 hi v L.length _ hs hown hx ?_
    obtain ⟨A, cap, rfl⟩ := own_form hown
    have := h A cap w (by rw [List.append_nil]; exact hown) (World.grownBy.refl w _) (Below.refl _ _)
    rwa [List.append_nil] at this
  · refine wpList_append_own _ hgd s x 105 ho B 3 i _ 1 8 Tryz.underlying105 hi hz hsz hby rfl (by decide) v L.length _ hs hown ⟨g, 0, none⟩ L2.length cap (L2.map fun n : Nat => Value.int .i64 (n : Int)) hx (by simp) (fun j u hj => World.ownsRow.cells hsrc0 rfl j u hj) (by intro u hu; obtain ⟨m, _, rfl⟩ := List.mem_map.1 hu; rfl) (by unfold maxLen; omega) hbytes hB ?_
    intro v' w' h1 h2 _
    obtain ⟨A, c, rfl⟩ := own_form h1
    have e : L.length + L2.length = (L ++ L2).length := by simp
    rw [e] at h1 ⊢
    refine h A c w' ?_ h2 ((Below.refl _ _).grown h2 hB fun k hk => (World.ownsRow.lt hown k hk).1)
    unfold IRow NRow
    rw [List.map_append]
    exact h1

set_option maxHeartbeats 4000000 in
set_option maxRecDepth 100000 in
theorem concat_any (q B1 B2 : Nat) (A1 A2 : Option Addr) (c1 c2 : Nat) (L1 L2 : List Nat) (w : World) (hq : Held w q [.slice A1 L1.length c1, .slice A2 L2.length c2]) (h1 : IRow w B1 (.slice A1 L1.length c1) L1) (h2 : IRow w B2 (.slice A2 L2.length c2) L2) (hn1 : L1.length ≤ 1000000) (hn2 : L2.length ≤ 1000000) :
    Calls Tryz.prog 139 #[.slice (some ⟨q, 0, none⟩) 2 2] w fun e w' => ∃ v, e = .returned v ∧ IRow w' w.heap.size v (L1 ++ L2) ∧ Below w.heap.size w w' := by
  have q0 := hq.cell (i := 0) rfl
  have q1 := hq.cell (i := 1) rfl
  have HQ := Stow.mk hq
  have H1 := Stow.mk h1
  have H2 := Stow.mk h2
  have HG := Stow.mk (fun W => grow_any (L1.length + L2.length) W (by omega))
  have hqlt := hq.lt
  clear hq h1 h2
  go_enter Tryz.func139, Tryz.ntmps139
  go_wp2_with fail
  go_loop [3, 11] (fun u v => (u = .int .i64 0 ∧ v = .int .i64 0) ∨ (u = .int .i64 (L1.length : Int) ∧ v = .int .i64 1) ∨ (u = .int .i64 ((L1.length : Int) + L2.length) ∧ v = .int .i64 2)) (fun _ v => 2 - (intOf v).toNat)
  case atStart => exact .inl ⟨rfl, rfl⟩
  case round =>
    rcases hrel with ⟨rfl, rfl⟩ | ⟨rfl, rfl⟩ | ⟨rfl, rfl⟩
    · go_wp2_with fail
      exact ⟨.inr (.inl ⟨by simp, rfl⟩), by simp [intOf]⟩
    · go_wp2_with fail
      exact ⟨.inr (.inr ⟨by simp, rfl⟩), by simp [intOf]⟩
    · have hcast : ((L1.length + L2.length : Nat) : Int) = (L1.length : Int) + L2.length := by omega
      rw [hcast] at HG
      go_wp2_with fail
      refine (HG.out _).mono ?_
      rintro e w1 ⟨v, rfl, hr, hb⟩
      have HR := Stow.mk hr
      have HB := Stow.mk hb
      obtain ⟨Ar, cr, rfl⟩ := own_form hr
      clear hr hb hcast
      go_wp2_with fail
      go_loopw [6, 27] (fun u v wr => Below w.heap.size w wr ∧ ((Stow (IRow wr w.heap.size u []) ∧ v = .int .i64 0) ∨ (Stow (IRow wr w.heap.size u L1) ∧ v = .int .i64 1) ∨ (Stow (IRow wr w.heap.size u (L1 ++ L2)) ∧ v = .int .i64 2))) (fun _ v _ => 2 - (intOf v).toNat)
      case atStart => exact ⟨HB.out, .inl ⟨HR, rfl⟩⟩
      case round =>
        obtain ⟨hbr, h⟩ := hrel
        have HBR := Stow.mk hbr
        have q0 := (HQ.out.kept hbr).cell (i := 0) rfl
        have q1 := (HQ.out.kept hbr).cell (i := 1) rfl
        clear hbr
        rcases h with ⟨HO, rfl⟩ | ⟨HO, rfl⟩ | ⟨HO, rfl⟩
        · obtain ⟨Ao, co, rfl⟩ := own_form HO.out
          have HS1 := Stow.mk (IRow.keep H1.out HBR.out)
          have K8 : Stow ((([] : List Nat).length + L1.length) * 8 ≤ 140737488355328) := ⟨by simp; omega⟩
          go_wp2_with (at_builtin; refine wpList_append_irow HO.out HS1.out rfl (.tmp 31) (.tmp 32) rfl rfl rfl K8.out HBR.out.size ?_; intro A9 c9 w2 hown2 hg2 hb2; rw [List.nil_append] at hown2)
          exact ⟨⟨HBR.out.trans hb2, .inr (.inl ⟨⟨by simpa using hown2⟩, rfl⟩)⟩, by simp [intOf]⟩
        · obtain ⟨Ao, co, rfl⟩ := own_form HO.out
          have HS1 := Stow.mk (IRow.keep H2.out HBR.out)
          have K8 : Stow ((L1.length + L2.length) * 8 ≤ 140737488355328) := ⟨by omega⟩
          go_wp2_with (at_builtin; refine wpList_append_irow HO.out HS1.out rfl (.tmp 31) (.tmp 32) rfl rfl rfl K8.out HBR.out.size ?_; intro A9 c9 w2 hown2 hg2 hb2)
          exact ⟨⟨HBR.out.trans hb2, .inr (.inr ⟨⟨by simpa using hown2⟩, rfl⟩)⟩, by simp [intOf]⟩
        · obtain ⟨Ao, co, rfl⟩ := own_form HO.out
          go_wp2_with fail
          go_ret
          exact ⟨_, rfl, HO.out, HBR.out⟩
end Go.Proofs.YtfbhdkkmcfnghaaGreat
end

section
namespace Go.Proofs.YtfbhdkkmcfnghaaGreat
open Go.RowKit
set_option linter.unusedVariables false

/-- Marks of places in a row of the call's own. -/
abbrev KRow (w : World) (B g N : Nat) (S : List Nat) : Prop := w.ownsRow B 4 1 (.slice (some ⟨g, 0, none⟩) N N) N ((List.range N).map fun i => .bool (decide (i ∈ S)))
theorem KRow.mark {w : World} {B g N : Nat} {S : List Nat} (h : KRow w B g N S) {x : Nat} (hx : x < N) : KRow (w.setCell ⟨g, x, none⟩ (.bool true)) B g N (S ++ [x]) := by
  have := (World.ownsRow.stored h x (.bool true)).1
  have e : ((List.range N).map fun i => Value.bool (decide (i ∈ S))).set x (.bool true) = (List.range N).map fun i => Value.bool (decide (i ∈ S ++ [x])) := by
    apply List.ext_getElem?
    intro i
    rw [List.getElem?_set, List.getElem?_map, List.getElem?_map]
    by_cases hi : x = i
    · subst hi
      simp [hx]
    · rw [if_neg hi]
      rcases Nat.lt_or_ge i N with h1 | h1
      · simp [List.getElem?_range h1]
        intro e
        exact absurd e.symm hi
      · rw [List.getElem?_eq_none (by simpa using h1)]; rfl
  unfold KRow
  rw [← e]
  exact this
theorem KRow.cell {w : World} {B g N : Nat} {S : List Nat} (h : KRow w B g N S) {x : Nat} (hx : x < N) : w.cell? ⟨g, x, none⟩ = some (.bool (decide (x ∈ S))) ∧ w.frozen? ⟨g, x, none⟩ = false ∧ g < w.heap.size ∧ B ≤ g := by
  have c := World.ownsRow.cells h rfl x (.bool (decide (x ∈ S))) (by rw [List.getElem?_map, List.getElem?_range hx]; rfl)
  rw [Addr.add_lit, Nat.zero_add] at c
  exact ⟨c, World.ownsRow.frozenAt h x, (World.ownsRow.lt h g rfl).2, (World.ownsRow.lt h g rfl).1⟩
namespace Tr
def no (S : List Nat) (j : Nat) : List Nat := (List.range j).filter fun i => !S.contains i
theorem no_yes {S : List Nat} {j : Nat} (h : j ∈ S) : no S (j + 1) = no S j := by
  unfold no
  rw [List.range_succ, List.filter_append]
  simp [h]
theorem no_no {S : List Nat} {j : Nat} (h : j ∉ S) : no S (j + 1) = no S j ++ [j] := by
  unfold no
  rw [List.range_succ, List.filter_append]
  simp [h]
theorem no_len (S : List Nat) (j : Nat) : (no S j).length ≤ j := by
  have := List.length_filter_le (fun i => !S.contains i) (List.range j)
  simpa [no] using this
def tops (L : List Sp) : List Nat := roots L ++ orphans L
def met (L : List Sp) (T : List Nat) : List Nat := T.flatMap fun t => (walk L t).map Prod.fst
theorem lost_eq (L : List Sp) : lost L = no (met L (tops L)) L.length := rfl
end Tr

set_option maxHeartbeats 8000000 in
set_option maxRecDepth 100000 in
theorem trLost_any (A : Option Addr) (cap : Nat) (L : List Sp) (w : World) (hS : SpR w A cap L) (hn : L.length ≤ 1000000) :
    Calls Tryz.prog 106 #[.slice A L.length cap] w fun e w' => ∃ v, e = .returned v ∧ IRow w' w.heap.size v (Tr.lost L) ∧ Below w.heap.size w w' := by
  have HS := Stow.mk hS
  clear hS
  obtain ⟨i0, hi0, hz, hsz, hby⟩ := info_parts info_bool
  go_enter Tryz.func106, Tryz.ntmps106
  go_wp2_with (refine wpList_make_full _ rfl (.tmp 12) (.tmp 12) 181 rfl w.heap.size 4 i0 (.bool false) 1 Tryz.underlying181 hi0 hz hsz .i64 .i64 _ _ L.length rfl rfl rfl rfl (by rw [hby]; omega) (by unfold maxLen; omega) (Nat.le_refl _) ?_; intro w1 hown1 hgrow1)
  have hb1 : Below w.heap.size w w1 := (Below.self w).grown hgrow1 (Nat.le_refl _) (by intro k hk; cases hk)
  have hk1 : KRow w1 w.heap.size w.heap.size L.length [] := by
    have hm : (madeCells (Value.bool false).cells (L.length * 1)).toList = (List.range L.length).map fun i => Value.bool (decide (i ∈ ([] : List Nat))) := by
      apply List.ext_getElem
      · simp [madeCells]
      · intro j h1 h2; simp [madeCells, Value.cells, Nat.mod_one]
    rw [hm] at hown1
    exact hown1
  have hg1 : w.heap.size < w1.heap.size := (World.ownsRow.lt hk1 w.heap.size rfl).2
  have HB1 := Stow.mk hb1
  have HK1 := Stow.mk hk1
  clear hown1 hgrow1 hi0 hz hsz hby hb1 hk1
  refine (trRoots_any A cap L w1 (HS.out.keep HB1.out) hn).mono ?_
  rintro e w2 ⟨v2, rfl, hr2, hb2⟩
  obtain ⟨A2, c2, rfl⟩ := own_form hr2
  have HR2 := Stow.mk hr2
  have HB2 := Stow.mk hb2
  have HL2 := Stow.mk (Tr.places_len L fun s => s.up == 0)
  clear hr2 hb2
  go_wp2_with fail
  refine (trOrphans_any A cap L w2 (HS.out.keep (HB1.out.trans (HB2.out.mono HB1.out.size))) hn).mono ?_
  rintro e w3 ⟨v3, rfl, hr3, hb3⟩
  obtain ⟨A3, c3, rfl⟩ := own_form hr3
  have HL3 := Stow.mk (Tr.places_len L (Tr.lost_ L))
  have hM3 := Below.alloc' hb3 (.cells #[.slice A2 (Tr.roots L).length c2, .slice A3 (Tr.orphans L).length c3] 105)
  have HC := Stow.mk (concat_any w3.heap.size _ _ A2 A3 c2 c3 (Tr.roots L) (Tr.orphans L) (w3.alloc (.cells #[.slice A2 (Tr.roots L).length c2, .slice A3 (Tr.orphans L).length c3] 105)) (Held.made w3 [.slice A2 (Tr.roots L).length c2, .slice A3 (Tr.orphans L).length c3] _) (IRow.keep HR2.out hM3) (IRow.alloc hr3 _) (Nat.le_trans HL2.out hn) (Nat.le_trans HL3.out hn))
  have HB3 : Stow (Below w1.heap.size w1 (w3.alloc (.cells #[.slice A2 (Tr.roots L).length c2, .slice A3 (Tr.orphans L).length c3] 105))) := ⟨HB2.out.trans (hM3.mono HB2.out.size)⟩
  have HT : Stow (Tr.roots L ++ Tr.orphans L = Tr.tops L) := ⟨rfl⟩
  rw [HT.out] at HC
  clear hr3 hb3 hM3 HR2 HB2
  go_wp2_with fail
  refine HC.out.mono ?_
  rintro e w4 ⟨v4, rfl, hr4, hb4⟩
  have hlt3 := HB3.out.size
  have HB4 : Stow (Below w1.heap.size w1 w4) := ⟨HB3.out.trans (hb4.mono HB3.out.size)⟩
  have HK4 : Stow (KRow w4 w.heap.size w.heap.size L.length []) := ⟨own_kept HK1.out HB4.out⟩
  have hTT : (Tr.tops L).length ≤ 2 * L.length := by
    unfold Tr.tops
    have h1 := HL2.out
    have h2 := HL3.out
    rw [List.length_append]
    show (Tr.places L _).length + (Tr.places L _).length ≤ _
    omega
  obtain ⟨T, hT⟩ : ∃ T, Tr.tops L = T := ⟨_, rfl⟩
  have HTT := Stow.mk hT
  rw [hT] at hr4 hTT
  obtain ⟨A4, c4, rfl⟩ := own_form hr4
  have HR4 : Stow (IRow w4 w1.heap.size (.slice A4 T.length c4) T) := ⟨IRow.lower hr4 hlt3⟩
  have HBW4 : Stow (Below w.heap.size w w4) := ⟨HB1.out.trans (HB4.out.mono HB1.out.size)⟩
  have hw4 := HB4.out.size
  clear hr4 hb4 HC HK1 HB3 HL2 HL3 HT hT hlt3
  go_wp2_with fail
  go_loopw [21] (fun u wr => ∃ i : Nat, u = .int .i64 (i : Int) ∧ i ≤ T.length ∧ Stow (KRow wr w.heap.size w.heap.size L.length (Tr.met L (T.take i))) ∧ Only w.heap.size w4 wr) (fun u _ => T.length - (intOf u).toNat)
  case atStart => exact ⟨0, rfl, by omega, HK4, Only.refl _ _⟩
  case round =>
    obtain ⟨i, rfl, hi, HKR, ho⟩ := hrel
    have HO := Stow.mk ho
    have HBR : Stow (Below w.heap.size w wr) := ⟨HBW4.out.trans (ho.below (Nat.le_refl _) HBW4.out.size)⟩
    have HRR : Stow (IRow wr w1.heap.size (.slice A4 T.length c4) T) := ⟨apart_kept HR4.out ho (fun k hk e => by have := (World.ownsRow.lt HR4.out k hk).1; cases e; omega)⟩
    clear ho
    by_cases hlt : i < T.length
    · obtain ⟨gt, rfl, _, hgt, q0⟩ := IRow.at_ HRR.out hlt
      obtain ⟨t, ht⟩ : ∃ t, T[i] = t := ⟨_, rfl⟩
      rw [ht] at q0
      obtain ⟨W, hW⟩ : ∃ W, (Tr.walk L t).map Prod.fst = W := ⟨_, rfl⟩
      have HWL : Stow (W.length ≤ L.length ∧ ∀ x ∈ W, x < L.length) := ⟨by rw [← hW, List.length_map]; exact Tr.walk_len L t, by rw [← hW]; exact (Tr.walk_out L t).lt⟩
      have HMT : Stow (Tr.met L (T.take (i + 1)) = Tr.met L (T.take i) ++ W) := ⟨by unfold Tr.met; rw [List.take_succ_eq_append_getElem hlt, ht, List.flatMap_append]; simp [hW]⟩
      have KW := trWalkW_any A cap L t wr (HS.out.keep HBR.out) hn
      rw [hW] at KW
      have HKW := Stow.mk KW
      have hii : (i : Int) < T.length := by omega
      clear KW hW ht
      go_wp2_with fail
      refine HKW.out.mono ?_
      rintro e w5 ⟨v5, rfl, hr5, hb5⟩
      obtain ⟨A5, c5, rfl⟩ := own_form hr5
      have hgr : w.heap.size < wr.heap.size := by have := HO.out.size; omega
      obtain ⟨H, hH⟩ : ∃ H, wr.heap.size = H := ⟨_, rfl⟩
      have HR5 : Stow (IRow w5 H (.slice A5 W.length c5) W) := ⟨hH ▸ hr5⟩
      rw [hH] at hgr
      have HK5 : Stow (KRow w5 w.heap.size w.heap.size L.length (Tr.met L (T.take i) ++ W.take 0)) := ⟨by rw [List.take_zero, List.append_nil]; exact own_kept HKR.out hb5⟩
      have HO5 : Stow (Only w.heap.size w4 w5) := ⟨HO.out.trans (Only.of_below hb5)⟩
      obtain ⟨S, hS⟩ : ∃ S, Tr.met L (T.take i) = S := ⟨_, rfl⟩
      rw [hS] at HK5 HMT
      clear hr5 hb5 HKR HKW hS hH
      go_wp2_with fail
      go_loopw [29] (fun u wi => ∃ j : Nat, u = .int .i64 (j : Int) ∧ j ≤ W.length ∧ Stow (KRow wi w.heap.size w.heap.size L.length (S ++ W.take j)) ∧ Only w.heap.size w5 wi) (fun u _ => W.length - (intOf u).toNat)
      case atStart => exact ⟨0, rfl, by omega, HK5, Only.refl _ _⟩
      case round =>
        obtain ⟨j, rfl, hj, HKI, ho⟩ := hrel
        have HOI := Stow.mk ho
        clear ho
        by_cases hjl : j < W.length
        · obtain ⟨gw, rfl, _, hgw, p0⟩ := IRow.at_ (show IRow _ H _ W from apart_kept HR5.out HOI.out (fun k hk e => by have := (World.ownsRow.lt HR5.out k hk).1; cases e; omega)) hjl
          have hxN := HWL.out.2 _ (List.getElem_mem hjl)
          obtain ⟨x, hx⟩ : ∃ x, W[j] = x := ⟨_, rfl⟩
          rw [hx] at p0 hxN
          obtain ⟨k0, k1, k2, _⟩ := KRow.cell HKI.out hxN
          have HNX := Stow.mk (KRow.mark HKI.out hxN)
          have HTJ : Stow (S ++ W.take (j + 1) = S ++ W.take j ++ [x]) := ⟨by rw [List.take_succ_eq_append_getElem hjl, hx, ← List.append_assoc]⟩
          have hji : (j : Int) < W.length := by omega
          have hxi : (x : Int) < L.length := by omega
          have hwl := HWL.out.1
          clear hx
          go_wp2_with fail
          exact ⟨⟨j + 1, rfl, by omega, ⟨by rw [HTJ.out]; exact HNX.out⟩, HOI.out.trans (Only.set _ _ _ _)⟩, by simp [intOf]; omega⟩
        · obtain rfl : j = W.length := by omega
          have hji : ¬ (W.length : Int) < W.length := by omega
          have HKE := HKI.out
          rw [List.take_length, ← HMT.out] at HKE
          have HKE' := Stow.mk HKE
          clear HKE
          go_wp2_with fail
          exact ⟨⟨i + 1, rfl, by omega, HKE', HO5.out.trans HOI.out⟩, by simp [intOf]; omega⟩
    · obtain rfl : i = T.length := by omega
      have hii : ¬ (T.length : Int) < T.length := by omega
      have hk := HKR.out
      rw [List.take_length] at hk
      obtain ⟨S, hSe⟩ : ∃ S, Tr.met L T = S := ⟨_, rfl⟩
      rw [hSe] at hk
      have HLE : Stow (Tr.lost L = Tr.no S L.length) := ⟨by rw [Tr.lost_eq, HTT.out, hSe]⟩
      have HKF := Stow.mk hk
      clear hk hSe HKR
      go_wp2_with fail
      go_loopw [8, 40] (fun v u wi => ∃ j : Nat, u = .int .i64 (j : Int) ∧ j ≤ L.length ∧ Stow (IRow wi wr.heap.size v (Tr.no S j)) ∧ Below wr.heap.size wr wi) (fun _ u _ => L.length - (intOf u).toNat)
      case atStart => exact ⟨0, rfl, by omega, ⟨NRow.nil _ _ _ _⟩, Below.self _⟩
      case round =>
        obtain ⟨j, rfl, hj, HOR, hbi⟩ := hrel
        have HBI := Stow.mk hbi
        clear hbi
        obtain ⟨Ao, co, rfl⟩ := own_form HOR.out
        by_cases hjl : j < L.length
        · obtain ⟨k0, _, k2, _⟩ := KRow.cell (show KRow _ _ _ _ _ from own_kept HKF.out HBI.out) hjl
          have hji : (j : Int) < L.length := by omega
          by_cases hin : j ∈ S
          · have hdt : decide (j ∈ S) = true := by simpa using hin
            rw [hdt] at k0
            have HN := Stow.mk (Tr.no_yes hin)
            clear hin hdt
            go_wp2_with fail
            exact ⟨⟨j + 1, rfl, by omega, ⟨by rw [HN.out]; exact HOR.out⟩, HBI.out⟩, by simp [intOf]; omega⟩
          · have hdt : decide (j ∈ S) = false := by simpa using hin
            rw [hdt] at k0
            have HN := Stow.mk (Tr.no_no hin)
            have hnl := Tr.no_len S j
            have K8 : Stow (((Tr.no S j).length + 1) * 8 ≤ 140737488355328) := ⟨by omega⟩
            clear hin hdt hnl
            go_wp2_with (at_builtin; refine wpList_append_int HOR.out j rfl (.tmp 47) (.tmp 49) 105 rfl Tryz.underlying105 info_int rfl _ rfl rfl K8.out HBI.out.size ?_; intro A9 c9 w9 hown9 _ hb9 hs9)
            exact ⟨⟨j + 1, rfl, by omega, ⟨by rw [HN.out]; exact hown9⟩, HBI.out.trans hb9⟩, by simp [intOf]; omega⟩
        · obtain rfl : j = L.length := by omega
          have hji : ¬ (L.length : Int) < L.length := by omega
          go_wp2_with fail
          go_ret
          exact ⟨_, rfl, by rw [HLE.out]; exact IRow.lower HOR.out HBR.out.size, HBR.out.trans (HBI.out.mono HBR.out.size)⟩
end Go.Proofs.YtfbhdkkmcfnghaaGreat
end
