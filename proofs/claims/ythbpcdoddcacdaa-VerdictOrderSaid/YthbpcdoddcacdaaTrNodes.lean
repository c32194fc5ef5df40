/- Walk of tree.Nodes. Conditions: a slice's own. -/
import Derived.Test.YthbpcdoddcacdaaTrCat
namespace Go.Proofs.Ythbpcdoddcacdaa
open Go.RowKit
set_option linter.unusedVariables false

/-- A node: its depth, and the span. -/
def ndc (L : List Sp) (p : Nat × Nat) : List Value := [.int .i64 (p.2 : Nat), .string (bs (Tr.sp L p.1).name), .int .i64 (Tr.sp L p.1).st, .bool (Tr.sp L p.1).sh]
theorem info_node : (Try.prog.info? 53).map (fun i => (i.zero, i.size, i.bytes)) = some (some (.agg #[.int .i64 0, .string ⟨#[]⟩, .int .i64 0, .bool false]), 4, 40) := by kernel_rfl
/-- Nodes of the call's own. -/
abbrev DRow (L : List Sp) (w : World) (B : Nat) (v : Value) (R : List (Nat × Nat)) : Prop := w.ownsRow B 53 4 v R.length (R.flatMap (ndc L))
theorem ndc_one (L : List Sp) (p : Nat × Nat) : ∀ u ∈ ndc L p, u.oneCell' = true := by
  intro u hu
  simp [ndc] at hu
  rcases hu with rfl | rfl | rfl | rfl <;> rfl

set_option maxHeartbeats 4000000 in
set_option maxRecDepth 100000 in
theorem trNodes_of (A : Option Addr) (cap : Nat) (L : List Sp) (n : Int) (R : List (Nat × Nat)) (w : World) (HS : Stow (SpR w A cap L)) (HK : Stow (Calls Try.prog 77 #[.slice A L.length cap, .int .i64 n] w fun e w' => ∃ v, e = .returned v ∧ SRow w' w.heap.size v R ∧ Below w.heap.size w w')) (HRL : Stow (R.length ≤ L.length)) (HLT : Stow (∀ x ∈ R.map Prod.fst, x < L.length)) (hn : L.length ≤ 1000000) :
    Calls Try.prog 35 #[.slice A L.length cap, .int .i64 n] w fun e w' => ∃ v, e = .returned v ∧ DRow L w' w.heap.size v R ∧ Below w.heap.size w w' := by
  go_enter Try.func35, Try.ntmps35
  go_wp2_with fail
  refine HK.out.mono ?_
  rintro e w1 ⟨v, rfl, hr, hb⟩
  obtain ⟨Av, cv_, rfl⟩ := own_form hr
  have HR := Stow.mk hr
  have HB := Stow.mk hb
  clear hr hb
  go_wp2_with fail
  go_loopw [5, 13] (fun v u wr => ∃ i : Nat, u = .int .i64 (i : Int) ∧ i ≤ R.length ∧ Stow (DRow L wr w1.heap.size v (R.take i)) ∧ Below w1.heap.size w1 wr) (fun _ u _ => R.length - (intOf u).toNat)
  case atStart => exact ⟨0, rfl, by omega, ⟨World.ownsRow_nil _ _ _ _⟩, Below.self _⟩
  case round =>
    obtain ⟨i, rfl, hi, HO, hbr⟩ := hrel
    have HBR := Stow.mk hbr
    clear hbr
    have hlq : (R.take i).length = i := by rw [List.length_take]; omega
    have hO := HO.out
    unfold DRow at hO
    rw [hlq] at hO
    obtain ⟨Ao, co, rfl⟩ := own_form hO
    have HOO := Stow.mk hO
    clear hO hlq
    by_cases hlt : i < R.length
    · obtain ⟨g, rfl, hgl, _, q0, q1⟩ := SRow.at_ (own_kept HR.out HBR.out) hlt
      obtain ⟨x, hx⟩ : ∃ x, R[i] = x := ⟨_, rfl⟩
      have hxN : x.1 < L.length := HLT.out x.1 (List.mem_map_of_mem (hx ▸ List.getElem_mem hlt))
      rw [hx] at q0 q1
      have HTK : Stow ((R.take (i + 1)).flatMap (ndc L) = (R.take i).flatMap (ndc L) ++ ndc L x ∧ (R.take (i + 1)).length = i + 1) := ⟨by rw [List.take_succ_eq_append_getElem hlt, hx, List.flatMap_append]; simp, by rw [List.length_take]; omega⟩
      obtain ⟨a, d⟩ := x
      simp only at q0 q1 hxN
      have hSr := HS.out.keep (HB.out.trans (HBR.out.mono HB.out.size))
      obtain ⟨b, off, rfl, _, _⟩ := hSr.open (by simp; omega)
      have hsp := span_at hSr hxN
      obtain ⟨s, hs⟩ : ∃ s, L[a] = s := ⟨_, rfl⟩
      have HND : Stow (ndc L (a, d) = [.int .i64 (d : Nat), .string (bs s.name), .int .i64 s.st, .bool s.sh]) := ⟨by unfold ndc; simp only; rw [Tr.sp_get hxN, hs]⟩
      rw [hs] at hsp
      obtain ⟨hltb, p0, p1, p2, p3, p4, p5, p6, p7, p8, p9, p10⟩ := hsp
      have hii : (i : Int) < R.length := by omega
      have hai : (a : Int) < L.length := by omega
      have hrl := HRL.out
      have hbA := Below.alloc' (Below.alloc' (Below.self wr) (.cells #[.int .i64 (a : Nat), .int .i64 (d : Nat)] 122)) (.cells s.cells.toArray 66)
      have HOA := Stow.mk (own_kept HOO.out hbA)
      have HBA : Stow (Below w1.heap.size w1 ((wr.alloc (.cells #[.int .i64 (a : Nat), .int .i64 (d : Nat)] 122)).alloc (.cells s.cells.toArray 66))) := ⟨HBR.out.trans (hbA.mono HBR.out.size)⟩
      have K8 : Stow ((i + 1) * 40 ≤ 140737488355328 ∧ i + 1 ≤ maxLen) := ⟨by omega, by unfold maxLen; omega⟩
      clear hx hs hSr hbA
      go_wp2_with (at_builtin; refine wpList_append_elem_form _ [.int .i64 (d : Nat), .string (bs s.name), .int .i64 s.st, .bool s.sh] _ rfl (.tmp 22) (.tmp 32) 49 rfl w1.heap.size 53 _ 4 40 Try.underlying49 info_node _ _ _ HOA.out rfl _ rfl (by simp) rfl (by decide) rfl (by rw [← HND.out]; exact ndc_one L (a, d)) K8.out.1 K8.out.2 HBA.out.size ?_; intro A4 cap4 w4 hown4 hg4 hb4 hs4)
      exact ⟨⟨i + 1, rfl, by omega, ⟨by unfold DRow; rw [HTK.out.1, HTK.out.2, HND.out]; exact hown4⟩, HBA.out.trans hb4⟩, by simp [intOf]; omega⟩
    · obtain rfl : i = R.length := by omega
      have hni : ¬ (R.length : Int) < R.length := by omega
      go_wp2_with fail
      go_ret
      refine ⟨_, rfl, ?_, HB.out.trans (HBR.out.mono HB.out.size)⟩
      have := HO.out
      rw [List.take_length] at this
      exact own_lower this HB.out.size

theorem trNodes_any (A : Option Addr) (cap : Nat) (L : List Sp) (n : Nat) (w : World) (hS : SpR w A cap L) (hn : L.length ≤ 1000000) :
    Calls Try.prog 35 #[.slice A L.length cap, .int .i64 (n : Int)] w fun e w' => ∃ v, e = .returned v ∧ DRow L w' w.heap.size v (Tr.walk L n) ∧ Below w.heap.size w w' :=
  trNodes_of A cap L n _ w ⟨hS⟩ ⟨trWalk_any A cap L n w hS hn⟩ ⟨Tr.walk_len L n⟩ ⟨(Tr.walk_out L n).lt⟩ hn
theorem trNodes_at (A : Option Addr) (cap : Nat) (L : List Sp) (a : Int) (w : World) (hS : SpR w A cap L) (hn : L.length ≤ 1000000) :
    Calls Try.prog 35 #[.slice A L.length cap, .int .i64 a] w fun e w' => ∃ v, e = .returned v ∧ DRow L w' w.heap.size v (Tr.walkI L a) ∧ Below w.heap.size w w' :=
  trNodes_of A cap L a _ w ⟨hS⟩ ⟨trWalk_at A cap L a w hS hn⟩ ⟨(Tr.walkI_out L a).len⟩ ⟨(Tr.walkI_out L a).lt⟩ hn
end Go.Proofs.Ythbpcdoddcacdaa
