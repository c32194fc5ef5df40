/- Walk of tree.Kids. Conditions: a slice's own.; Walk of slices.Reverse at ints. Condition: a row of the call's own.; What tree.walk holds between two steps: rows of its own, each in its own block. No condition. -/
import Derived.Test.YtfbhdkkmcfnghaaGreatM07
import Derived.Deep.AppendLies

section
namespace Go.Proofs.YtfbhdkkmcfnghaaGreat
open Go.RowKit
set_option linter.unusedVariables false

/-- What tree.Kids' first closure captured. -/
def KG (L : List Sp) (A : Option Addr) (cap q q2 at_ : Nat) (W : World) : Prop := LG L A cap q W ∧ W.cell? ⟨q2, 0, none⟩ = some (.int .i64 (at_ : Int))
theorem KG.keep {L : List Sp} {A : Option Addr} {cap q q2 at_ : Nat} {W W' : World} (h : KG L A cap q q2 at_ W) (hb : Below W.heap.size W W') : KG L A cap q q2 at_ W' :=
  ⟨h.1.keep hb, (hb.cell (p := ⟨q2, 0, none⟩) (World.block_lt_of_cell? W ⟨q2, 0, none⟩ h.2)).trans h.2⟩
theorem enters_kids : ∀ (args : Array Value) (w : World), (callFunc 164 args).run Tryz.prog w = .ok (.enter 164 args) w := enters_of Tryz.func164 (by kernel_rfl) rfl

set_option maxHeartbeats 1000000 in
set_option maxRecDepth 100000 in
theorem kidsF_any (s : Sp) (q q2 at_ : Nat) (A : Option Addr) (cap : Nat) (L : List Sp) (w : World) (hg : KG L A cap q q2 at_ w) (hat : at_ < L.length) (hn : L.length ≤ 1000000) : Calls Tryz.prog 164 #[s.val, .pointer (some ⟨q, 0, none⟩), .pointer (some ⟨q2, 0, none⟩)] w fun e w' => e = .returned (.bool (s.up == (Tr.sp L at_).id)) ∧ Below w.heap.size w w' := by
  have HM := Stow.mk (Below.alloc' (Below.self w) (.cells s.cells.toArray 64))
  have hq := hg.1.1
  have hq2 := hg.2
  have hlt : q < w.heap.size := World.block_lt_of_cell? w ⟨q, 0, none⟩ hq
  have hlt2 : q2 < w.heap.size := World.block_lt_of_cell? w ⟨q2, 0, none⟩ hq2
  obtain ⟨b, off, rfl, hblt, _⟩ := hg.1.2.open (by simp; omega)
  have hsp := (span_at hg.1.2 hat).c2
  rw [← Tr.sp_get hat] at hsp
  obtain ⟨id, hid⟩ : ∃ id, (Tr.sp L at_).id = id := ⟨_, rfl⟩
  rw [hid] at hsp ⊢
  obtain ⟨r, hr⟩ : ∃ r, (s.up == id) = r := ⟨_, rfl⟩
  have hri : ((s.up : Int) == (id : Int)) = r := by rw [← hr, Bool.eq_iff_iff]; simp; omega
  have hati : (at_ : Int) < L.length := by omega
  rw [hr]
  clear hr hid hg
  unfold Sp.val
  go_enter Tryz.func164, Tryz.ntmps164
  go_wp2_with fail
  go_quiet (fail)
  go_wp2_with fail
  go_ret
  exact ⟨rfl, Below.drewN' HM.out _⟩

set_option maxHeartbeats 1000000 in
set_option maxRecDepth 100000 in
theorem kidsCmp_any (q : Nat) (A : Option Addr) (cap : Nat) (L : List Sp) (w : World) (hg : LG L A cap q w) (x y : Nat) (hx : x < L.length) (hy : y < L.length) (hn : L.length ≤ 1000000) :
    Calls Tryz.prog 166 #[.int .i64 (x : Int), .int .i64 (y : Int), .pointer (some ⟨q, 0, none⟩)] w fun e w' => e = .returned (.int .i64 (cv (Tr.sp L x).sq (Tr.sp L y).sq)) ∧ ∃ n, w' = w.drewN n := by
  have hq := hg.1
  obtain ⟨b, off, rfl, hblt, _⟩ := hg.2.open (by simp; omega)
  have hs1 := (span_at hg.2 hx).c6
  have hs2 := (span_at hg.2 hy).c6
  rw [← Tr.sp_get hx] at hs1
  rw [← Tr.sp_get hy] at hs2
  obtain ⟨s1, hs1e⟩ : ∃ s, (Tr.sp L x).sq = s := ⟨_, rfl⟩
  obtain ⟨s2, hs2e⟩ : ∃ s, (Tr.sp L y).sq = s := ⟨_, rfl⟩
  rw [hs1e] at hs1 ⊢
  rw [hs2e] at hs2 ⊢
  have hxi : (x : Int) < L.length := by omega
  have hyi : (y : Int) < L.length := by omega
  have HK := Stow.mk (fun W => cmpNil_any s1 s2 W)
  clear hg hs1e hs2e
  go_enter Tryz.func166, Tryz.ntmps166
  go_wp2_with fail
  go_quiet ((go_at_call 167; exact Calls.quiet_of_same (HK.out _)))
  go_wp2_with fail
  go_ret
  exact ⟨rfl, _, rfl⟩

theorem cmpOK (T : List Sp) (A : Option Addr) (cap q b off g : Nat) (hA : A = some ⟨b, off, none⟩) (hqg : q ≠ g) (hbg : b ≠ g) (hn : T.length ≤ 1000000) : CmpOK T (.pointer (some ⟨q, 0, none⟩)) g (LG T A cap q) where
  keep := fun W W' h ho => by
    subst hA
    refine ⟨(World.grownBy.cell ho h.1 (by simp; omega)), ?_⟩
    obtain ⟨A', cap', hv, h1, h2, h3⟩ := h.2
    refine ⟨A', cap', hv, h1, h2, fun hL => ?_⟩
    obtain ⟨b', off', hA', hlt, hc⟩ := h3 hL
    simp only [Value.slice.injEq] at hv
    have e := hv.1.trans hA'
    simp only [Option.some.injEq, Addr.mk.injEq] at e
    obtain ⟨rfl, rfl, _⟩ := e
    exact ⟨b, off, hA', Nat.lt_of_lt_of_le hlt ho.size, fun i x hx j u hu => World.grownBy.cell ho (hc i x hx j u hu) (by simp; omega)⟩
  call := fun W h x y hx hy => kidsCmp_any q A cap T W h x y hx hy hn

set_option maxHeartbeats 1000000 in
set_option maxRecDepth 100000 in
theorem insNil_any (f : Value) (w : World) : Calls Tryz.prog 179 #[.slice none 0 0, .int .i64 0, .int .i64 0, f] w fun e w' => e = .returned (.tuple #[]) ∧ w' = w := by
  go_enter Tryz.func179, Tryz.ntmps179
  go_wp2_with fail
  go_loopw [8, 9] (fun u v wr => u = .int .i64 1 ∧ wr = w) (fun _ _ _ => 0)
  case atStart => exact ⟨rfl, rfl⟩
  case round =>
    obtain ⟨rfl, rfl⟩ := hrel
    go_wp2_with fail
    first | go_end0 | refine bodyPost_ret (results_none rfl _ _ _) rfl ?_
    exact ⟨rfl, rfl⟩
set_option maxHeartbeats 1000000 in
set_option maxRecDepth 100000 in
theorem stableNil_any (f : Value) (w : World) : Calls Tryz.prog 176 #[.slice none 0 0, .int .i64 0, f] w fun e w' => e = .returned (.tuple #[]) ∧ w' = w := by
  go_enter Tryz.func176, Tryz.ntmps176
  go_wp2_with fail
  go_loopw [7, 8] (fun u v wr => u = .int .i64 0 ∧ v = .int .i64 20 ∧ wr = w) (fun _ _ _ => 0)
  case atStart => exact ⟨rfl, rfl, rfl⟩
  case round =>
    obtain ⟨rfl, rfl, rfl⟩ := hrel
    go_wp2_with fail
    refine (insNil_any f _).mono ?_
    rintro e w1 ⟨rfl, rfl⟩
    go_wp2_with fail
    go_loopw [6] (fun u wr => u = .int .i64 20 ∧ wr = w1) (fun _ _ => 0)
    case atStart => exact ⟨rfl, rfl⟩
    case round =>
      obtain ⟨rfl, rfl⟩ := hrel
      go_wp2_with fail
      first | go_end0 | refine bodyPost_ret (results_none rfl _ _ _) rfl ?_
      exact ⟨rfl, rfl⟩
set_option maxHeartbeats 1000000 in
set_option maxRecDepth 100000 in
theorem sortNil_any (f : Value) (w : World) : Calls Tryz.prog 165 #[.slice none 0 0, f] w fun e w' => e = .returned (.tuple #[]) ∧ w' = w := by
  go_enter Tryz.func165, Tryz.ntmps165
  go_wp2_with (go_at_call 176; refine (stableNil_any f _).mono ?_; rintro e w1 ⟨rfl, rfl⟩)
  first | go_end0 | refine bodyPost_ret (results_none rfl _ _ _) rfl ?_
  exact ⟨rfl, rfl⟩

set_option maxHeartbeats 2000000 in
set_option maxRecDepth 100000 in
theorem trKids_no (A : Option Addr) (cap : Nat) (L : List Sp) (at_ : Int) (w : World) (hS : SpR w A cap L) (hn : L.length ≤ 1000000) (h : at_ < 0 ∨ (L.length : Int) ≤ at_ ∨ ∃ n : Nat, at_ = n ∧ n < L.length ∧ (Tr.sp L n).id = 0) :
    Calls Tryz.prog 141 #[.slice A L.length cap, .int .i64 at_] w fun e w' => e = .returned (.slice none 0 0) ∧ Below w.heap.size w w' := by
  have HM := Stow.mk (Below.alloc' (Below.alloc' (Below.self w) (.cells #[.slice A L.length cap] 38)) (.cells #[.int .i64 at_] 3))
  rcases h with h | h | ⟨n, rfl, hl, hid⟩
  · have hd : decide (at_ < 0) = true := by simp; exact h
    go_enter Tryz.func141, Tryz.ntmps141
    go_wp2_with fail
    go_ret
    exact ⟨rfl, HM.out⟩
  · have hd : decide (at_ < 0) = false := by simp; omega
    have hd2 : decide ((L.length : Int) ≤ at_) = true := by simp; exact h
    go_enter Tryz.func141, Tryz.ntmps141
    go_wp2_with fail
    go_ret
    exact ⟨rfl, HM.out⟩
  · obtain ⟨b, off, rfl, hblt, _⟩ := hS.open (by simp; omega)
    have hsp := (span_at ((hS.alloc (.cells #[.slice (some ⟨b, off, none⟩) L.length cap] 38)).alloc (.cells #[.int .i64 (n : Int)] 3)) hl).c2
    have hsp0 := (span_at hS hl).c2
    rw [← Tr.sp_get hl, hid] at hsp hsp0
    have hd : decide ((n : Int) < 0) = false := by simp
    have hd2 : decide (L.length ≤ n) = false := by simp; omega
    have hni : (n : Int) < L.length := by omega
    clear hS
    go_enter Tryz.func141, Tryz.ntmps141
    go_wp2_with fail
    go_ret
    exact ⟨rfl, HM.out⟩

set_option maxHeartbeats 4000000 in
set_option maxRecDepth 100000 in
theorem trKids_yes (A : Option Addr) (cap : Nat) (L : List Sp) (n : Nat) (w : World) (hS : SpR w A cap L) (hn : L.length ≤ 1000000) (hl : n < L.length) (hid : (Tr.sp L n).id ≠ 0) :
    Calls Tryz.prog 141 #[.slice A L.length cap, .int .i64 (n : Int)] w fun e w' => ∃ v, e = .returned v ∧ IRow w' w.heap.size v (Tr.kids L n) ∧ Below w.heap.size w w' := by
  have hmf : ∀ (fn : Fn) (first cap : Array Value) (w : World), (Instr.makeFunc fn first cap).run Tryz.prog w = .ok (.func fn first cap) w := fun _ _ _ _ => rfl
  have hM := Below.alloc' (Below.alloc' (Below.self w) (.cells #[.slice A L.length cap] 38)) (.cells #[.int .i64 (n : Int)] 3)
  obtain ⟨b, off, rfl, hblt, _⟩ := hS.open (by simp; omega)
  have hS2 := (hS.alloc (.cells #[.slice (some ⟨b, off, none⟩) L.length cap] 38)).alloc (.cells #[.int .i64 (n : Int)] 3)
  have hsp := (span_at hS2 hl).c2
  have hsp0 := (span_at hS hl).c2
  rw [← Tr.sp_get hl] at hsp hsp0
  have hg : KG L (some ⟨b, off, none⟩) cap w.heap.size (w.heap.size + 1) n ((w.alloc (.cells #[.slice (some ⟨b, off, none⟩) L.length cap] 38)).alloc (.cells #[.int .i64 (n : Int)] 3)) := ⟨⟨by simp, hS2⟩, by simp⟩
  have HK := Stow.mk (places_any 164 #[.pointer (some ⟨w.heap.size, 0, none⟩), .pointer (some ⟨w.heap.size + 1, 0, none⟩)] enters_kids (fun s => s.up == (Tr.sp L n).id) (some ⟨b, off, none⟩) cap L (KG L (some ⟨b, off, none⟩) cap w.heap.size (w.heap.size + 1) n) _ (fun _ _ h hb => h.keep hb) (fun W s h _ => kidsF_any s w.heap.size (w.heap.size + 1) n _ cap L W h hl hn) hg hS2 hn)
  have HE : Stow (Tr.kids L n = Tr.sort L (Tr.raw L n)) := ⟨by unfold Tr.kids; rw [if_pos ⟨hl, hid⟩]⟩
  have HRAW : Stow (Tr.places L (fun s => s.up == (Tr.sp L n).id) = Tr.raw L n) := ⟨rfl⟩
  have HRS := Stow.mk (And.intro (Tr.raw_sorted L n) (fun x (hx : x ∈ Tr.raw L n) => (Tr.places_mem.1 hx).1))
  have HRL := Stow.mk (Tr.places_len L (fun s => s.up == (Tr.sp L n).id))
  have HM := Stow.mk hM
  have HG := Stow.mk hg
  obtain ⟨id, hide⟩ : ∃ id, (Tr.sp L n).id = id := ⟨_, rfl⟩
  rw [hide] at hsp hsp0 hid
  rw [HRAW.out] at HK HRL
  rw [HE.out]
  have hidi : ((id : Int) == 0) = false := by rw [beq_eq_false_iff_ne]; omega
  have hd : decide ((n : Int) < 0) = false := by simp
  have hd2 : decide (L.length ≤ n) = false := by simp; omega
  have hni : (n : Int) < L.length := by omega
  clear hS hS2 hM hg hide hid
  go_enter Tryz.func141, Tryz.ntmps141
  go_wp2_with fail
  refine HK.out.mono ?_
  rintro e w1 ⟨v, rfl, hr, hb⟩
  have HG1 := Stow.mk (HG.out.keep hb)
  have HB1 : Stow (Below w.heap.size w w1) := ⟨Below.call HM.out hb⟩
  rcases hr.2 with ⟨rfl, h0⟩ | ⟨g, cp, cur, rfl, hgB, hgh, _⟩
  · have HZ : Stow (Tr.sort L (Tr.raw L n) = []) := ⟨by
      have : Tr.raw L n = [] := List.eq_nil_of_length_eq_zero h0
      rw [this]; rfl⟩
    clear hr hb
    go_wp2_with fail
    refine (sortNil_any _ _).mono ?_
    rintro e w2 ⟨rfl, rfl⟩
    go_wp2_with fail
    go_ret
    exact ⟨_, rfl, by rw [HZ.out]; exact NRow.nil _ _ _ _, HB1.out⟩
  · have hgl : g < w1.heap.size := (Array.getElem?_eq_some_iff.1 hgh).1
    have hgw : w.heap.size + 2 ≤ g := by simp at hgB; omega
    have HSR := Stow.mk (sortStable_any L (.pointer (some ⟨w.heap.size, 0, none⟩)) (LG L (some ⟨b, off, none⟩) cap w.heap.size) (Tr.raw L n) _ g _ cp w1 (cmpOK L (some ⟨b, off, none⟩) cap w.heap.size b off g rfl (by omega) (by omega) hn) HG1.out.1 hr HRS.out.1 HRS.out.2 (by have := HRL.out; omega))
    have hq := HG1.out.1.1
    have hb2 := HM.out.size
    have hHR := Stow.mk hgB
    clear hr hb hgh hgB
    go_wp2_with fail
    refine HSR.out.mono ?_
    rintro e w2 ⟨rfl, hr2, ho2⟩
    have HR2 := Stow.mk (And.intro (own_lower hr2 hb2) (HB1.out.trans (ho2.below (by omega) HB1.out.size)))
    have hLL : (Tr.sort L (Tr.raw L n)).length = (Tr.raw L n).length := (Tr.sort_sorted HRS.out.1).2.length_eq
    clear hr2 ho2
    go_wp2_with fail
    go_ret
    exact ⟨_, rfl, HR2.out.1, HR2.out.2⟩

set_option maxHeartbeats 1000000 in
theorem trKids_any (A : Option Addr) (cap : Nat) (L : List Sp) (n : Nat) (w : World) (hS : SpR w A cap L) (hn : L.length ≤ 1000000) :
    Calls Tryz.prog 141 #[.slice A L.length cap, .int .i64 (n : Int)] w fun e w' => ∃ v, e = .returned v ∧ IRow w' w.heap.size v (Tr.kids L n) ∧ Below w.heap.size w w' := by
  by_cases h : n < L.length ∧ (Tr.sp L n).id ≠ 0
  · exact trKids_yes A cap L n w hS hn h.1 h.2
  · have hk : Tr.kids L n = [] := by unfold Tr.kids; rw [if_neg h]
    refine (trKids_no A cap L n w hS hn ?_).mono fun e w' ⟨he, hb⟩ => ⟨_, he, by rw [hk]; exact NRow.nil _ _ _ _, hb⟩
    by_cases h1 : n < L.length
    · exact .inr (.inr ⟨n, rfl, h1, by by_cases h2 : (Tr.sp L n).id = 0; exact h2; exact absurd ⟨h1, h2⟩ h⟩)
    · exact .inr (.inl (by omega))
end Go.Proofs.YtfbhdkkmcfnghaaGreat
end

section
namespace Go.Proofs.YtfbhdkkmcfnghaaGreat
open Go.RowKit
set_option linter.unusedVariables false

namespace Tr
/-- A list that is turned round, so far. -/
def RevInv (L : List Nat) (i : Nat) (cur : List Nat) : Prop := ∃ A M C : List Nat, L = A ++ M ++ C ∧ A.length = i ∧ C.length = i ∧ cur = C.reverse ++ M ++ A.reverse
theorem rev_zero (L : List Nat) : RevInv L 0 L := ⟨[], L, [], by simp, rfl, rfl, by simp⟩
theorem rev_end {L cur : List Nat} {i : Nat} (h : RevInv L i cur) (hi : L.length ≤ 2 * i + 1) : cur = L.reverse := by
  obtain ⟨A, M, C, hL, hA, hC, hc⟩ := h
  have hm : M.length ≤ 1 := by have := congrArg List.length hL; simp only [List.length_append] at this; omega
  have hr : M.reverse = M := by
    match M, hm with
    | [], _ => rfl
    | [x], _ => rfl
  rw [hc, hL, List.reverse_append, List.reverse_append, hr]
  simp
theorem rev_step {L cur : List Nat} {i j : Nat} (h : RevInv L i cur) (hj : i + j + 1 = L.length) (hij : i < j) : ∃ x y, cur[i]? = some x ∧ cur[j]? = some y ∧ RevInv L (i + 1) ((cur.set i y).set j x) := by
  obtain ⟨A, M, C, hL, hA, hC, hc⟩ := h
  have hm : M.length = j - i + 1 := by have := congrArg List.length hL; simp only [List.length_append] at this; omega
  obtain ⟨x, M1, hM1⟩ : ∃ x M1, M = x :: M1 := by
    match M, hm with
    | x :: M1, _ => exact ⟨x, M1, rfl⟩
  have hm1 : M1 ≠ [] := by intro h; rw [hM1, h] at hm; simp at hm; omega
  have hM2 : M1 = M1.dropLast ++ [M1.getLast hm1] := (List.dropLast_concat_getLast hm1).symm
  have hdl : M1.dropLast.length = j - i - 1 := by rw [List.length_dropLast]; rw [hM1] at hm; simp at hm; omega
  obtain ⟨h1, h2, h3⟩ := So.swap_two (A := C.reverse) (B := M1.dropLast) (C := A.reverse) (x := x) (y := M1.getLast hm1) (i := i) (j := j) (L := cur) (by simp [hC]) (by omega) (by
    rw [hc, hM1]
    conv => lhs; rw [hM2]
    simp only [List.append_assoc, List.cons_append, List.nil_append])
  refine ⟨x, M1.getLast hm1, h1, h2, A ++ [x], M1.dropLast, M1.getLast hm1 :: C, ?_, by simp [hA], by simp [hC], ?_⟩
  · rw [hL, hM1]
    conv => lhs; rw [hM2]
    simp only [List.append_assoc, List.cons_append, List.nil_append]
  · rw [h3]
    simp
end Tr

set_option maxHeartbeats 2000000 in
set_option maxRecDepth 100000 in
theorem reverse_any (L : List Nat) (B g N cap : Nat) (w : World) (hR : IRow w B (.slice (some ⟨g, 0, none⟩) N cap) L) :
    Calls Tryz.prog 147 #[.slice (some ⟨g, 0, none⟩) N cap] w fun e w' => e = .returned (.tuple #[]) ∧ IRow w' B (.slice (some ⟨g, 0, none⟩) N cap) L.reverse ∧ Only g w w' := by
  have hmax := hR.max
  have hN := hR.len
  have HR := Stow.mk hR
  have HI := Stow.mk (Tr.rev_zero L)
  have HN := Stow.mk hN
  have hNm : N ≤ 9223372036854775807 := by omega
  clear hR hmax hN
  by_cases h0 : N = 0
  · have HE : Stow (L.reverse = L) := ⟨by rw [show L = [] from List.eq_nil_of_length_eq_zero (by have := HN.out; omega)]; rfl⟩
    subst h0
    rw [HE.out]
    go_enter Tryz.func147, Tryz.ntmps147
    go_wp2_with fail
    go_loopw [2, 3] (fun u v wr => u = .int .i64 0 ∧ v = .int .i64 (-1) ∧ wr = w) (fun _ _ _ => 0)
    case atStart => exact ⟨rfl, rfl, rfl⟩
    case round =>
      obtain ⟨rfl, rfl, rfl⟩ := hrel
      go_wp2_with fail
      first | go_end0 | refine bodyPost_ret (results_none rfl _ _ _) rfl ?_
      exact ⟨rfl, HR.out, Only.refl _ _⟩
  have hN1 : (N : Int) - 1 = ((N - 1 : Nat) : Int) := by omega
  go_enter Tryz.func147, Tryz.ntmps147
  go_wp2_with fail
  go_loopw [2, 3] (fun u v wr => ∃ (i : Nat) (L' : List Nat), u = .int .i64 (i : Int) ∧ v = .int .i64 ((N : Int) - 1 - i) ∧ 2 * i ≤ N ∧ Stow (Tr.RevInv L i L') ∧ Stow (IRow wr B (.slice (some ⟨g, 0, none⟩) N cap) L') ∧ Only g w wr) (fun u _ _ => N - (intOf u).toNat)
  case atStart => exact ⟨0, L, rfl, by simp; omega, by omega, HI, HR, Only.refl _ _⟩
  case round =>
    obtain ⟨i, L', rfl, rfl, hi, HJ, HW, ho⟩ := hrel
    have HO := Stow.mk ho
    clear ho
    by_cases hlt : 2 * i + 1 < N
    · have hij : (i : Int) < (N : Int) - 1 - i := by omega
      obtain ⟨j, hj⟩ : ∃ j, N - 1 - i = j := ⟨_, rfl⟩
      have hje : ((N - 1 : Nat) : Int) - (i : Int) = (j : Int) := by omega
      have hje' : (N : Int) - 1 - (i : Int) = (j : Int) := by omega
      rw [hje'] at hij ⊢
      obtain ⟨x, y, h1, h2, h3⟩ := Tr.rev_step HJ.out (j := j) (by have := HN.out; omega) (by omega)
      have c1 := HW.out.cell h1
      have c2 := HW.out.cell h2
      have f1 := HW.out.free i
      have f2 := HW.out.free j
      have HS := Stow.mk h3
      have hjN : j < N := by omega
      have HJE := Stow.mk (And.intro hj hje')
      clear h1 h2 h3 hj hje'
      go_wp2_with fail
      go_region
      go_wp2_with fail
      have hj2 := HJE.out.1
      exact ⟨⟨i + 1, _, rfl, by have := HJE.out.2; congr 1; omega, by omega, HS, ⟨((HW.out.store _ _).store _ _).drew⟩, (HO.out.trans ((Only.set g _ _ _).trans (Only.set g _ _ _))).trans (Only.drewN g _ 1)⟩, by simp [intOf]; omega⟩
    · have hij : ¬ (i : Int) < (N : Int) - 1 - i := by omega
      have HE : Stow (L' = L.reverse) := ⟨Tr.rev_end HJ.out (by have := HN.out; omega)⟩
      have hW := HW.out
      rw [HE.out] at hW
      have HWE := Stow.mk hW
      clear hW
      obtain ⟨j, hj⟩ : ∃ j : Int, (N : Int) - 1 - i = j := ⟨_, rfl⟩
      rw [hj] at hij ⊢
      clear hj
      go_wp2_with fail
      first | go_end0 | refine bodyPost_ret (results_none rfl _ _ _) rfl ?_
      exact ⟨rfl, HWE.out, HO.out⟩
set_option maxHeartbeats 2000000 in
set_option maxRecDepth 100000 in
theorem reverseNil_any (w : World) : Calls Tryz.prog 147 #[.slice none 0 0] w fun e w' => e = .returned (.tuple #[]) ∧ w' = w := by
  go_enter Tryz.func147, Tryz.ntmps147
  go_wp2_with fail
  go_loopw [2, 3] (fun u v wr => u = .int .i64 0 ∧ v = .int .i64 (-1) ∧ wr = w) (fun _ _ _ => 0)
  case atStart => exact ⟨rfl, rfl, rfl⟩
  case round =>
    obtain ⟨rfl, rfl, rfl⟩ := hrel
    go_wp2_with fail
    first | go_end0 | refine bodyPost_ret (results_none rfl _ _ _) rfl ?_
    exact ⟨rfl, rfl⟩
end Go.Proofs.YtfbhdkkmcfnghaaGreat
end

section
namespace Go.Proofs.YtfbhdkkmcfnghaaGreat
open Go.RowKit
set_option linter.unusedVariables false

def stc (p : Nat × Nat) : List Value := [.int .i64 (p.1 : Nat), .int .i64 (p.2 : Nat)]
theorem stc_len (L : List (Nat × Nat)) : (L.flatMap stc).length = L.length * 2 := by
  induction L with
  | nil => rfl
  | cons p t ih => simp only [List.flatMap_cons, List.length_append, ih, List.length_cons, stc, List.length_nil]; omega
theorem info_step : (Tryz.prog.info? 157).map (fun i => (i.zero, i.size, i.bytes)) = some (some (.agg #[.int .i64 0, .int .i64 0]), 2, 16) := by kernel_rfl
theorem info_bool : (Tryz.prog.info? 4).map (fun i => (i.zero, i.size, i.bytes)) = some (some (.bool false), 1, 1) := by kernel_rfl
/-- Steps of the call's own. -/
abbrev SRow (w : World) (B : Nat) (v : Value) (L : List (Nat × Nat)) : Prop := w.ownsRow B 157 2 v L.length (L.flatMap stc)
/-- Which places stand already. -/
abbrev MRow (w : World) (B g N : Nat) (out : List (Nat × Nat)) : Prop := w.ownsRow B 4 1 (.slice (some ⟨g, 0, none⟩) N N) N ((List.range N).map fun i => .bool (decide (i ∈ out.map Prod.fst)))
theorem apart_kept {w w' : World} {B : Nat} {e : TypeId} {size n : Nat} {v : Value} {xs : List Value} {row : Option Nat} (h : w.ownsRow B e size v n xs) (hg : w.grownBy w' row) (hne : ∀ k, v.ownBlock = some k → row ≠ some k) : w'.ownsRow B e size v n xs := by
  refine h.kept hg ?_
  cases hv : v.ownBlock with
  | none => exact .inl rfl
  | some k => exact .inr fun e => hne k hv e.symm

structure WS (N B : Nat) (w : World) (v5 v7 : Value) (g6 : Nat) (out td : List (Nat × Nat)) : Prop where
  o : SRow w B v5 out
  t : SRow w B v7 td
  m : MRow w B g6 N out
  ot : ∀ k, v5.ownBlock = some k → v7.ownBlock ≠ some k
  om : v5.ownBlock ≠ some g6
  tm : v7.ownBlock ≠ some g6
section
variable {N B g6 : Nat} {w w' : World} {v5 v7 : Value} {out td : List (Nat × Nat)}
theorem WS.keep (h : WS N B w v5 v7 g6 out td) (hb : Below w.heap.size w w') : WS N B w' v5 v7 g6 out td := ⟨own_kept h.o hb, own_kept h.t hb, own_kept h.m hb, h.ot, h.om, h.tm⟩
theorem row_cut {A : Option Addr} {n cap k : Nat} {L : List (Nat × Nat)} (h : SRow w B (.slice A n cap) L) (hk : k ≤ L.length) (h0 : 0 < L.length) : SRow w B (.slice A k cap) (L.take k) ∧ ∃ g, A = some ⟨g, 0, none⟩ ∧ n = L.length := by
  obtain ⟨h1, h2⟩ := h
  rcases h2 with ⟨_, h3⟩ | ⟨g, cap', cur, hv, hg, hh, hn, hc, hs, ht⟩
  · omega
  · simp only [Value.slice.injEq] at hv
    obtain ⟨rfl, rfl, rfl⟩ := hv
    have e1 : (L.take k).length = k := by rw [List.length_take]; omega
    refine ⟨⟨by rw [stc_len], .inr ⟨g, cap, cur, by rw [e1], hg, hh, by rw [e1]; omega, hc, hs, ?_⟩⟩, g, rfl, rfl⟩
    rw [e1]
    have e2 : (L.take k).flatMap stc = (L.flatMap stc).take (k * 2) := by
      have e3 : L.flatMap stc = (L.take k).flatMap stc ++ (L.drop k).flatMap stc := by rw [← List.flatMap_append, List.take_append_drop]
      have e4 : ((L.take k).flatMap stc).length = k * 2 := by rw [stc_len, e1]
      rw [e3, ← e4, List.take_left]
    rw [e2, ← ht, List.take_take]
    congr 1
    omega
/-- The last one is taken off. -/
theorem WS.pop {A : Option Addr} {n cap : Nat} {x : Nat × Nat} (h : WS N B w v5 (.slice A n cap) g6 out (td ++ [x])) : WS N B w v5 (.slice A td.length cap) g6 out td ∧ ∃ g, A = some ⟨g, 0, none⟩ ∧ n = td.length + 1 ∧ g < w.heap.size ∧ w.cell? ⟨g, td.length * 2, none⟩ = some (.int .i64 (x.1 : Nat)) ∧ w.cell? ⟨g, td.length * 2 + 1, none⟩ = some (.int .i64 (x.2 : Nat)) := by
  obtain ⟨h1, g, rfl, hn⟩ := row_cut h.t (k := td.length) (by simp) (by simp)
  rw [List.take_left] at h1
  have hf : (td ++ [x]).flatMap stc = td.flatMap stc ++ stc x := by rw [List.flatMap_append]; simp
  have c1 := World.ownsRow.cells h.t rfl (td.length * 2) (.int .i64 (x.1 : Nat)) (by rw [hf, List.getElem?_append_right (by rw [stc_len]; exact Nat.le_refl _), stc_len, Nat.sub_self]; rfl)
  have c2 := World.ownsRow.cells h.t rfl (td.length * 2 + 1) (.int .i64 (x.2 : Nat)) (by rw [hf, List.getElem?_append_right (by rw [stc_len]; omega), stc_len, show td.length * 2 + 1 - td.length * 2 = 1 by omega]; rfl)
  rw [Addr.add_lit, Nat.zero_add] at c1 c2
  refine ⟨⟨h.o, h1, h.m, fun k hk => h.ot k hk, h.om, h.tm⟩, g, rfl, by rw [hn]; simp, (World.ownsRow.lt h.t g rfl).2, c1, c2⟩
/-- Whether a place stands already. -/
theorem WS.met (h : WS N B w v5 v7 g6 out td) {x : Nat} (hx : x < N) : w.cell? ⟨g6, x, none⟩ = some (.bool (decide (x ∈ out.map Prod.fst))) ∧ w.frozen? ⟨g6, x, none⟩ = false ∧ g6 < w.heap.size := by
  have c := World.ownsRow.cells h.m rfl x (.bool (decide (x ∈ out.map Prod.fst))) (by rw [List.getElem?_map, List.getElem?_range hx]; rfl)
  rw [Addr.add_lit, Nat.zero_add] at c
  exact ⟨c, World.ownsRow.frozenAt h.m x, (World.ownsRow.lt h.m g6 rfl).2⟩
/-- A step more stands there: the mark, then the row. -/
theorem WS.mark (h : WS N B w v5 v7 g6 out td) {x d : Nat} (hx : x < N) : SRow (w.setCell ⟨g6, x, none⟩ (.bool true)) B v5 out ∧ SRow (w.setCell ⟨g6, x, none⟩ (.bool true)) B v7 td ∧ MRow (w.setCell ⟨g6, x, none⟩ (.bool true)) B g6 N (out ++ [(x, d)]) := by
  refine ⟨apart_kept h.o (Only.set g6 w x _) (fun k hk e => h.om (by rw [hk]; exact e.symm)), apart_kept h.t (Only.set g6 w x _) (fun k hk e => h.tm (by rw [hk]; exact e.symm)), ?_⟩
  have := (World.ownsRow.stored h.m x (.bool true)).1
  have e : ((List.range N).map fun i => Value.bool (decide (i ∈ out.map Prod.fst))).set x (.bool true) = (List.range N).map fun i => Value.bool (decide (i ∈ (out ++ [(x, d)]).map Prod.fst)) := by
    apply List.ext_getElem?
    intro i
    rw [List.getElem?_set, List.getElem?_map, List.getElem?_map]
    by_cases hi : x = i
    · subst hi
      simp [hx]
    · rw [if_neg hi]
      rcases Nat.lt_or_ge i N with h1 | h1
      · simp [List.getElem?_range h1]
        intro e
        exact absurd e.symm hi
      · rw [List.getElem?_eq_none (by simpa using h1)]; rfl
  unfold MRow
  rw [← e]
  exact this
/-- The row has one more. -/
theorem WS.put {v5' : Value} {out' : List (Nat × Nat)} {g' : Nat} (ht : SRow w B v7 td) (hm : MRow w B g6 N out') (hot : ∀ k, v5.ownBlock = some k → v7.ownBlock ≠ some k) (hom : v5.ownBlock ≠ some g6) (htm : v7.ownBlock ≠ some g6)
    (hg : w.grownBy w' v5.ownBlock) (hr : SRow w' B v5' out') (hv : v5'.ownBlock = some g') (hl : v5.ownBlock = some g' ∨ g' = w.heap.size) : WS N B w' v5' v7 g6 out' td := by
  have h6 := (World.ownsRow.lt hm g6 rfl).2
  refine ⟨hr, apart_kept ht hg (fun k hk e => hot k e hk), apart_kept hm hg (fun k hk e => by simp [Value.ownBlock] at hk; subst hk; exact hom e), fun k hk e => ?_, fun e => ?_, htm⟩
  · rw [hv] at hk
    obtain rfl := Option.some.inj hk
    rcases hl with hl | hl
    · exact hot _ hl e
    · have := (World.ownsRow.lt ht _ e).2; omega
  · rw [hv] at e
    obtain rfl := Option.some.inj e
    rcases hl with hl | hl
    · exact hom hl
    · omega
theorem WS.push {v7' : Value} {td' : List (Nat × Nat)} {g' : Nat} (h : WS N B w v5 v7 g6 out td) (hg : w.grownBy w' v7.ownBlock) (hr : SRow w' B v7' td') (hv : v7'.ownBlock = some g') (hl : v7.ownBlock = some g' ∨ g' = w.heap.size) : WS N B w' v5 v7' g6 out td' := by
  have h6 := (World.ownsRow.lt h.m g6 rfl).2
  refine ⟨apart_kept h.o hg (fun k hk e => h.ot k hk e), hr, apart_kept h.m hg (fun k hk e => by simp [Value.ownBlock] at hk; subst hk; exact h.tm e), fun k hk e => ?_, h.om, fun e => ?_⟩
  · rw [hv] at e
    obtain rfl := Option.some.inj e
    rcases hl with hl | hl
    · exact h.ot _ hk hl
    · have := (World.ownsRow.lt h.o _ hk).2; omega
  · rw [hv] at e
    obtain rfl := Option.some.inj e
    rcases hl with hl | hl
    · exact h.tm hl
    · omega
end
end Go.Proofs.YtfbhdkkmcfnghaaGreat
end
