/- Walks of slices.Grow, Concat at ints (two slices), tree.Walk, Nodes. Conditions: a slice's own. -/
import Derived.Test.YthbpcdoddcacdaaTrWalk
import Derived.Test.YthbpcdoddcacdaaTrMath
namespace Go.Proofs.Ythbpcdoddcacdaa
open Go.RowKit
set_option linter.unusedVariables false

theorem IRow.alloc {w : World} {B : Nat} {v : Value} {L : List Nat} (h : IRow w B v L) (o : Obj) : IRow (w.alloc o) B v L := World.ownsRow.alloc h o
theorem IRow.keep {w w' : World} {B : Nat} {v : Value} {L : List Nat} (h : IRow w B v L) (hb : Below w.heap.size w w') : IRow w' B v L := own_kept h hb
theorem IRow.lower {w : World} {B B' : Nat} {v : Value} {L : List Nat} (h : IRow w B' v L) (hle : B ≤ B') : IRow w B v L := own_lower h hle
theorem wpList_append_int {P : Program} {ops : Array Oper} {rest : List Oper} {o : Oper} {a : Act} {Q : Exit → Act → World → Prop}
    {wr : World} {eo : TypeId} {B : Nat} {v : Value} {L : List Nat} (hown : IRow wr B v L) (n : Nat)
    (hgd : o.guard = none) (s y : Operand) (t : TypeId)
    (ho : o.op = Op.call { callee := Callee.builtin Builtin.append, args := #[s, y], argTypes := #[t, t] })
    (ht : P.underlying t = some (.slice 3))
    (hinfo : (P.info? 3).map (fun i => (i.zero, i.size, i.bytes)) = some (some (.int .i64 0), 1, 8))
    (hs : a.eval s = v) (g : Nat) (hy : a.eval y = .slice (some ⟨g, 0, none⟩) 1 1) (hgs : g = wr.heap.size)
    (hbytes : (L.length + 1) * 8 ≤ 140737488355328) (hB : B ≤ wr.heap.size)
    (h : ∀ A cap w', IRow w' B (.slice A (L.length + 1) cap) (L ++ [n]) → (wr.alloc (.cells #[.int .i64 (n : Int)] eo)).grownBy w' v.ownBlock → Below B wr w' → wr.heap.size < w'.heap.size →
      wpList P ops Q rest (a.put o.dst (.slice A (L.length + 1) cap)) w') :
    wpList P ops Q (o :: rest) a (wr.alloc (.cells #[.int .i64 (n : Int)] eo)) := by
  subst hgs
  refine wpList_append_num hown n rfl hgd s y t ho ht 8 hinfo hs hy hbytes (by decide) hB ?_
  intro v' w' h1 h2 h3 h4
  obtain ⟨A, cap, rfl⟩ := own_form h1
  have e : (L ++ [n]).length = L.length + 1 := by simp
  rw [e] at h1 ⊢
  exact h A cap w' h1 h2 h3 h4
theorem IRow.form {w : World} {B : Nat} {v : Value} {L : List Nat} (h : IRow w B v L) : ∃ A cap, v = .slice A L.length cap := own_form h
theorem IRow.at_ {w : World} {B : Nat} {A : Option Addr} {n cap i : Nat} {L : List Nat} (h : IRow w B (.slice A n cap) L) (hi : i < L.length) : ∃ g, A = some ⟨g, 0, none⟩ ∧ g < w.heap.size ∧ B ≤ g ∧ w.cell? ⟨g, i, none⟩ = some (.int .i64 (L[i] : Nat)) := by
  rcases h.2 with ⟨_, h1⟩ | ⟨g, cp, cur, hv, hb, hg, _⟩
  · omega
  · simp only [Value.slice.injEq] at hv
    obtain ⟨rfl, rfl, rfl⟩ := hv
    exact ⟨g, rfl, (IRow.lt h).2, (IRow.lt h).1, IRow.cell h (List.getElem?_eq_getElem hi)⟩
theorem SRow.at_ {w : World} {B : Nat} {A : Option Addr} {n cap i : Nat} {L : List (Nat × Nat)} (h : SRow w B (.slice A n cap) L) (hi : i < L.length) : ∃ g, A = some ⟨g, 0, none⟩ ∧ g < w.heap.size ∧ B ≤ g ∧ w.cell? ⟨g, i * 2, none⟩ = some (.int .i64 (L[i].1 : Nat)) ∧ w.cell? ⟨g, i * 2 + 1, none⟩ = some (.int .i64 (L[i].2 : Nat)) := by
  rcases h.2 with ⟨_, h1⟩ | ⟨g, cp, cur, hv, hb, hg, _⟩
  · omega
  · simp only [Value.slice.injEq] at hv
    obtain ⟨rfl, rfl, rfl⟩ := hv
    have hx : (L.map stc)[i]? = some (stc L[i]) := by rw [List.getElem?_map, List.getElem?_eq_getElem hi]; rfl
    have hf := flat_at (c := 2) (L := L.map stc) (fun y hy => by obtain ⟨m, _, rfl⟩ := List.mem_map.1 hy; rfl) i _ hx
    rw [← List.flatMap_def] at hf
    have c1 := World.ownsRow.cells h rfl (i * 2 + 0) _ (hf 0 _ rfl)
    have c2 := World.ownsRow.cells h rfl (i * 2 + 1) _ (hf 1 _ rfl)
    rw [Addr.add_lit, Nat.zero_add] at c1 c2
    exact ⟨g, rfl, (World.ownsRow.lt h g rfl).2, (World.ownsRow.lt h g rfl).1, c1, c2⟩

set_option maxHeartbeats 2000000 in
set_option maxRecDepth 100000 in
theorem trWalk_any (A : Option Addr) (cap : Nat) (L : List Sp) (n : Nat) (w : World) (hS : SpR w A cap L) (hn : L.length ≤ 1000000) :
    Calls Try.prog 77 #[.slice A L.length cap, .int .i64 (n : Int)] w fun e w' => ∃ v, e = .returned v ∧ SRow w' w.heap.size v (Tr.walk L n) ∧ Below w.heap.size w w' := by
  by_cases h : n < L.length
  · exact trWalk_yes A cap L n w hS hn h
  · have hk : Tr.walk L n = [] := by unfold Tr.walk; rw [if_neg h]
    refine (trWalk_no A cap L n w hn (.inr (by omega))).mono fun e w' ⟨he, hb⟩ => ⟨_, he, ?_, ?_⟩
    · rw [hk]; exact World.ownsRow_nil _ _ _ _
    · subst hb; exact Below.self _

set_option maxHeartbeats 2000000 in
set_option maxRecDepth 100000 in
theorem trWalkW_of (A : Option Addr) (cap : Nat) (L : List Sp) (n : Int) (R : List (Nat × Nat)) (w : World) (HK : Stow (Calls Try.prog 77 #[.slice A L.length cap, .int .i64 n] w fun e w' => ∃ v, e = .returned v ∧ SRow w' w.heap.size v R ∧ Below w.heap.size w w')) (HRL : Stow (R.length ≤ L.length)) (hn : L.length ≤ 1000000) :
    Calls Try.prog 30 #[.slice A L.length cap, .int .i64 n] w fun e w' => ∃ v, e = .returned v ∧ IRow w' w.heap.size v (R.map Prod.fst) ∧ Below w.heap.size w w' := by
  go_enter Try.func30, Try.ntmps30
  go_wp2_with fail
  refine HK.out.mono ?_
  rintro e w1 ⟨v, rfl, hr, hb⟩
  obtain ⟨Av, cv_, rfl⟩ := own_form hr
  have HR := Stow.mk hr
  have HB := Stow.mk hb
  clear hr hb
  go_wp2_with fail
  go_loopw [5, 12] (fun v u wr => ∃ i : Nat, u = .int .i64 (i : Int) ∧ i ≤ R.length ∧ Stow (IRow wr w1.heap.size v ((R.take i).map Prod.fst)) ∧ Below w1.heap.size w1 wr) (fun _ u _ => R.length - (intOf u).toNat)
  case atStart => exact ⟨0, rfl, by omega, ⟨NRow.nil _ _ _ _⟩, Below.self _⟩
  case round =>
    obtain ⟨i, rfl, hi, HO, hbr⟩ := hrel
    have HBR := Stow.mk hbr
    clear hbr
    obtain ⟨Qq, hQ⟩ : ∃ Qq, (R.take i).map Prod.fst = Qq := ⟨_, rfl⟩
    have HQ := Stow.mk hQ
    rw [hQ] at HO
    clear hQ
    obtain ⟨Ao, co, rfl⟩ := own_form HO.out
    by_cases hlt : i < R.length
    · obtain ⟨g, rfl, hgl, _, q0, q1⟩ := SRow.at_ (own_kept HR.out HBR.out) hlt
      obtain ⟨x, hx⟩ : ∃ x, R[i] = x := ⟨_, rfl⟩
      rw [hx] at q0 q1
      have HTK : Stow ((R.take (i + 1)).map Prod.fst = Qq ++ [x.1]) := ⟨by rw [List.take_succ_eq_append_getElem hlt, hx, List.map_append, HQ.out]; rfl⟩
      obtain ⟨a, d⟩ := x
      simp only at q0 q1 HTK
      have hii : (i : Int) < R.length := by omega
      have hrl := HRL.out
      have HOA := Stow.mk (IRow.alloc HO.out (.cells #[.int .i64 (a : Nat), .int .i64 (d : Nat)] 122))
      have HBA : Stow (Below w1.heap.size w1 (wr.alloc (.cells #[.int .i64 (a : Nat), .int .i64 (d : Nat)] 122))) := ⟨HBR.out.alloc HBR.out.size _⟩
      have K8 : Stow ((Qq.length + 1) * 8 ≤ 140737488355328) := ⟨by have := HRL.out; rw [← HQ.out]; simp only [List.length_map, List.length_take]; omega⟩
      clear hx
      go_wp2_with (at_builtin; refine wpList_append_int HOA.out a rfl (.tmp 16) (.tmp 19) 44 rfl Try.underlying44 info_int rfl _ rfl (by simp) K8.out HBA.out.size ?_; intro A9 c9 w2 hown2 _ hb2 hs2)
      exact ⟨⟨i + 1, rfl, by omega, ⟨by rw [HTK.out]; exact hown2⟩, HBA.out.trans hb2⟩, by simp [intOf]; omega⟩
    · obtain rfl : i = R.length := by omega
      have hni : ¬ (R.length : Int) < R.length := by omega
      go_wp2_with fail
      go_ret
      refine ⟨_, rfl, ?_, HB.out.trans (HBR.out.mono HB.out.size)⟩
      have h := HQ.out
      rw [List.take_length] at h
      rw [h]
      exact own_lower HO.out HB.out.size

theorem trWalkW_any (A : Option Addr) (cap : Nat) (L : List Sp) (n : Nat) (w : World) (hS : SpR w A cap L) (hn : L.length ≤ 1000000) :
    Calls Try.prog 30 #[.slice A L.length cap, .int .i64 (n : Int)] w fun e w' => ∃ v, e = .returned v ∧ IRow w' w.heap.size v ((Tr.walk L n).map Prod.fst) ∧ Below w.heap.size w w' :=
  trWalkW_of A cap L n _ w ⟨trWalk_any A cap L n w hS hn⟩ ⟨Tr.walk_len L n⟩ hn
/-- What one comes to from any place, be it none. -/
def Tr.walkI (L : List Sp) (a : Int) : List (Nat × Nat) := if a < 0 then [] else Tr.walk L a.toNat
theorem Tr.walkI_no {L : List Sp} {a : Int} (h : a < 0 ∨ (L.length : Int) ≤ a) : Tr.walkI L a = [] := by
  unfold Tr.walkI Tr.walk
  split
  · rfl
  · rw [if_neg (by omega)]
theorem Tr.walkI_yes (L : List Sp) (n : Nat) : Tr.walkI L n = Tr.walk L n := by
  unfold Tr.walkI
  rw [if_neg (by omega)]
  rfl
theorem Tr.walkI_out (L : List Sp) (a : Int) : Tr.Out L.length (Tr.walkI L a) := by
  unfold Tr.walkI
  split
  · exact ⟨by simp, by simp⟩
  · exact Tr.walk_out L _
theorem trWalk_at (A : Option Addr) (cap : Nat) (L : List Sp) (a : Int) (w : World) (hS : SpR w A cap L) (hn : L.length ≤ 1000000) :
    Calls Try.prog 77 #[.slice A L.length cap, .int .i64 a] w fun e w' => ∃ v, e = .returned v ∧ SRow w' w.heap.size v (Tr.walkI L a) ∧ Below w.heap.size w w' := by
  by_cases h : a < 0 ∨ (L.length : Int) ≤ a
  · rw [Tr.walkI_no h]
    exact (trWalk_no A cap L a w hn h).mono fun e w' ⟨he, hb⟩ => ⟨_, he, World.ownsRow_nil _ _ _ _, by subst hb; exact Below.self _⟩
  · obtain ⟨n, rfl⟩ : ∃ n : Nat, a = n := ⟨a.toNat, by omega⟩
    rw [Tr.walkI_yes]
    exact trWalk_any A cap L n w hS hn
theorem trWalkW_at (A : Option Addr) (cap : Nat) (L : List Sp) (a : Int) (w : World) (hS : SpR w A cap L) (hn : L.length ≤ 1000000) :
    Calls Try.prog 30 #[.slice A L.length cap, .int .i64 a] w fun e w' => ∃ v, e = .returned v ∧ IRow w' w.heap.size v ((Tr.walkI L a).map Prod.fst) ∧ Below w.heap.size w w' :=
  trWalkW_of A cap L a _ w ⟨trWalk_at A cap L a w hS hn⟩ ⟨(Tr.walkI_out L a).len⟩ hn
end Go.Proofs.Ythbpcdoddcacdaa
