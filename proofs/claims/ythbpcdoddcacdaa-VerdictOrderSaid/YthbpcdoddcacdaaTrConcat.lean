/- Walks of slices.Grow at nil, Concat of two slices of ints. Conditions: a slice's own. -/
import Derived.Test.YthbpcdoddcacdaaTrNodes
import Derived.Lib.AppendZeros
import Derived.Laws.AppendOwnNone
namespace Go.Proofs.Ythbpcdoddcacdaa
open Go.RowKit
set_option linter.unusedVariables false

set_option maxHeartbeats 2000000 in
set_option maxRecDepth 100000 in
theorem grow_any (n : Nat) (w : World) (hn : n ≤ 2000000) : Calls Try.prog 104 #[.slice none 0 0, .int .i64 (n : Int)] w fun e w' => ∃ v, e = .returned v ∧ IRow w' w.heap.size v [] ∧ Below w.heap.size w w' := by
  by_cases h0 : n = 0
  · subst h0
    go_enter Try.func104, Try.ntmps104
    go_wp2_with fail
    go_ret
    exact ⟨_, rfl, NRow.nil _ _ _ _, Below.self _⟩
  · obtain ⟨i, hi, hz, hsz, hby⟩ := info_parts info_int
    have hr := Lib.run_append_nil_zeros (P := Try.prog) w 44 3 44 3 i (.int .i64 0) .i64 .i64 Try.underlying44 Try.underlying3 hi hz n (by omega) (by rw [hsz]; decide) (by omega) (by rw [hby]; omega)
    have HR := Stow.mk hr
    have hd : decide ((n : Int) < 0) = false := by simp
    have hn0 : (0 : Int) < n := by omega
    clear hr hi
    go_enter Try.func104, Try.ntmps104
    go_wp2_with (at_builtin; refine Lib.wpList_append_run _ rfl (.tmp 20) (.tmp 21) 44 3 rfl _ _ rfl rfl _ _ HR.out ?_)
    go_ret
    refine ⟨_, rfl, ?_, Below.drew (Below.alloc' (Below.self w) _)⟩
    exact World.ownsRow.drew (World.ownsRow_made w _ _ (Nat.le_refl _) (grownCap_le_maxLen w n 0 _ (by unfold maxLen; omega)) (by
      have := grownCap_ge w n 0 3
      rw [Array.size_append, size_zeroCells, size_zeroCells]
      simp
      omega))

set_option maxRecDepth 100000 in
theorem wpList_append_irow {w : World} {ops : Array Oper} {rest : List Oper} {o : Oper} {a : Act} {Q : Exit → Act → World → Prop} {B B2 : Nat} {v v2 : Value} {L L2 : List Nat} (hown : IRow w B v L) (hsrc : IRow w B2 v2 L2)
    (hgd : o.guard = none) (s x : Operand) (ho : o.op = .call { callee := .builtin .append, args := #[s, x], argTypes := #[44, 44] }) (hs : a.eval s = v) (hx : a.eval x = v2)
    (hbytes : (L.length + L2.length) * 8 ≤ 140737488355328) (hB : B ≤ w.heap.size)
    (h : ∀ A cap w', IRow w' B (.slice A (L ++ L2).length cap) (L ++ L2) → w.grownBy w' v.ownBlock → Below B w w' → wpList Try.prog ops Q rest (a.put o.dst (.slice A (L ++ L2).length cap)) w') : wpList Try.prog ops Q (o :: rest) a w := by
  obtain ⟨i, hi, hz, hsz, hby⟩ := info_parts info_int
  have hsrc0 := hsrc
  rcases hsrc.2 with ⟨rfl, h0⟩ | ⟨g, cap, cur, rfl, _⟩
  · have hL2 : L2 = [] := List.eq_nil_of_length_eq_zero h0
    subst hL2
    refine wpList_append_own_none hgd s x 44 ho B 3 i 1 Try.underlying44 hi v L.length _ hs hown hx ?_
    obtain ⟨A, cap, rfl⟩ := own_form hown
    have := h A cap w (by rw [List.append_nil]; exact hown) (World.grownBy.refl w _) (Below.refl _ _)
    rwa [List.append_nil] at this
  · refine wpList_append_own _ hgd s x 44 ho B 3 i _ 1 8 Try.underlying44 hi hz hsz hby rfl (by decide) v L.length _ hs hown ⟨g, 0, none⟩ L2.length cap (L2.map fun n : Nat => Value.int .i64 (n : Int)) hx (by simp) (fun j u hj => World.ownsRow.cells hsrc0 rfl j u hj) (by intro u hu; obtain ⟨m, _, rfl⟩ := List.mem_map.1 hu; rfl) (by unfold maxLen; omega) hbytes hB ?_
    intro v' w' h1 h2 _
    obtain ⟨A, c, rfl⟩ := own_form h1
    have e : L.length + L2.length = (L ++ L2).length := by simp
    rw [e] at h1 ⊢
    refine h A c w' ?_ h2 ((Below.refl _ _).grown h2 hB fun k hk => (World.ownsRow.lt hown k hk).1)
    unfold IRow NRow
    rw [List.map_append]
    exact h1

set_option maxHeartbeats 4000000 in
set_option maxRecDepth 100000 in
theorem concat_any (q B1 B2 : Nat) (A1 A2 : Option Addr) (c1 c2 : Nat) (L1 L2 : List Nat) (w : World) (hq : Held w q [.slice A1 L1.length c1, .slice A2 L2.length c2]) (h1 : IRow w B1 (.slice A1 L1.length c1) L1) (h2 : IRow w B2 (.slice A2 L2.length c2) L2) (hn1 : L1.length ≤ 1000000) (hn2 : L2.length ≤ 1000000) :
    Calls Try.prog 79 #[.slice (some ⟨q, 0, none⟩) 2 2] w fun e w' => ∃ v, e = .returned v ∧ IRow w' w.heap.size v (L1 ++ L2) ∧ Below w.heap.size w w' := by
  have q0 := hq.cell (i := 0) rfl
  have q1 := hq.cell (i := 1) rfl
  have HQ := Stow.mk hq
  have H1 := Stow.mk h1
  have H2 := Stow.mk h2
  have HG := Stow.mk (fun W => grow_any (L1.length + L2.length) W (by omega))
  have hqlt := hq.lt
  clear hq h1 h2
  go_enter Try.func79, Try.ntmps79
  go_wp2_with fail
  go_loop [3, 11] (fun u v => (u = .int .i64 0 ∧ v = .int .i64 0) ∨ (u = .int .i64 (L1.length : Int) ∧ v = .int .i64 1) ∨ (u = .int .i64 ((L1.length : Int) + L2.length) ∧ v = .int .i64 2)) (fun _ v => 2 - (intOf v).toNat)
  case atStart => exact .inl ⟨rfl, rfl⟩
  case round =>
    rcases hrel with ⟨rfl, rfl⟩ | ⟨rfl, rfl⟩ | ⟨rfl, rfl⟩
    · go_wp2_with fail
      exact ⟨.inr (.inl ⟨by simp, rfl⟩), by simp [intOf]⟩
    · go_wp2_with fail
      exact ⟨.inr (.inr ⟨by simp, rfl⟩), by simp [intOf]⟩
    · have hcast : ((L1.length + L2.length : Nat) : Int) = (L1.length : Int) + L2.length := by omega
      rw [hcast] at HG
      go_wp2_with fail
      refine (HG.out _).mono ?_
      rintro e w1 ⟨v, rfl, hr, hb⟩
      have HR := Stow.mk hr
      have HB := Stow.mk hb
      obtain ⟨Ar, cr, rfl⟩ := own_form hr
      clear hr hb hcast
      go_wp2_with fail
      go_loopw [6, 27] (fun u v wr => Below w.heap.size w wr ∧ ((Stow (IRow wr w.heap.size u []) ∧ v = .int .i64 0) ∨ (Stow (IRow wr w.heap.size u L1) ∧ v = .int .i64 1) ∨ (Stow (IRow wr w.heap.size u (L1 ++ L2)) ∧ v = .int .i64 2))) (fun _ v _ => 2 - (intOf v).toNat)
      case atStart => exact ⟨HB.out, .inl ⟨HR, rfl⟩⟩
      case round =>
        obtain ⟨hbr, h⟩ := hrel
        have HBR := Stow.mk hbr
        have q0 := (HQ.out.kept hbr).cell (i := 0) rfl
        have q1 := (HQ.out.kept hbr).cell (i := 1) rfl
        clear hbr
        rcases h with ⟨HO, rfl⟩ | ⟨HO, rfl⟩ | ⟨HO, rfl⟩
        · obtain ⟨Ao, co, rfl⟩ := own_form HO.out
          have HS1 := Stow.mk (IRow.keep H1.out HBR.out)
          have K8 : Stow ((([] : List Nat).length + L1.length) * 8 ≤ 140737488355328) := ⟨by simp; omega⟩
          go_wp2_with (at_builtin; refine wpList_append_irow HO.out HS1.out rfl (.tmp 31) (.tmp 32) rfl rfl rfl K8.out HBR.out.size ?_; intro A9 c9 w2 hown2 hg2 hb2; rw [List.nil_append] at hown2)
          exact ⟨⟨HBR.out.trans hb2, .inr (.inl ⟨⟨by simpa using hown2⟩, rfl⟩)⟩, by simp [intOf]⟩
        · obtain ⟨Ao, co, rfl⟩ := own_form HO.out
          have HS1 := Stow.mk (IRow.keep H2.out HBR.out)
          have K8 : Stow ((L1.length + L2.length) * 8 ≤ 140737488355328) := ⟨by omega⟩
          go_wp2_with (at_builtin; refine wpList_append_irow HO.out HS1.out rfl (.tmp 31) (.tmp 32) rfl rfl rfl K8.out HBR.out.size ?_; intro A9 c9 w2 hown2 hg2 hb2)
          exact ⟨⟨HBR.out.trans hb2, .inr (.inr ⟨⟨by simpa using hown2⟩, rfl⟩)⟩, by simp [intOf]⟩
        · obtain ⟨Ao, co, rfl⟩ := own_form HO.out
          go_wp2_with fail
          go_ret
          exact ⟨_, rfl, HO.out, HBR.out⟩
end Go.Proofs.Ythbpcdoddcacdaa
