/- Walk of tree.Kids. Conditions: a slice's own. -/
import Derived.Test.YthbpcdoddcacdaaTrOrph
namespace Go.Proofs.Ythbpcdoddcacdaa
open Go.RowKit
set_option linter.unusedVariables false

/-- What tree.Kids' first closure captured. -/
def KG (L : List Sp) (A : Option Addr) (cap q q2 at_ : Nat) (W : World) : Prop := LG L A cap q W ∧ W.cell? ⟨q2, 0, none⟩ = some (.int .i64 (at_ : Int))
theorem KG.keep {L : List Sp} {A : Option Addr} {cap q q2 at_ : Nat} {W W' : World} (h : KG L A cap q q2 at_ W) (hb : Below W.heap.size W W') : KG L A cap q q2 at_ W' :=
  ⟨h.1.keep hb, (hb.cell (p := ⟨q2, 0, none⟩) (World.block_lt_of_cell? W ⟨q2, 0, none⟩ h.2)).trans h.2⟩
theorem enters_kids : ∀ (args : Array Value) (w : World), (callFunc 73 args).run Try.prog w = .ok (.enter 73 args) w := enters_of Try.func73 (by kernel_rfl) rfl

set_option maxHeartbeats 1000000 in
set_option maxRecDepth 100000 in
theorem kidsF_any (s : Sp) (q q2 at_ : Nat) (A : Option Addr) (cap : Nat) (L : List Sp) (w : World) (hg : KG L A cap q q2 at_ w) (hat : at_ < L.length) (hn : L.length ≤ 1000000) : Calls Try.prog 73 #[s.val, .pointer (some ⟨q, 0, none⟩), .pointer (some ⟨q2, 0, none⟩)] w fun e w' => e = .returned (.bool (s.up == (Tr.sp L at_).id)) ∧ Below w.heap.size w w' := by
  have HM := Stow.mk (Below.alloc' (Below.self w) (.cells s.cells.toArray 66))
  have hq := hg.1.1
  have hq2 := hg.2
  have hlt : q < w.heap.size := World.block_lt_of_cell? w ⟨q, 0, none⟩ hq
  have hlt2 : q2 < w.heap.size := World.block_lt_of_cell? w ⟨q2, 0, none⟩ hq2
  obtain ⟨b, off, rfl, hblt, _⟩ := hg.1.2.open (by simp; omega)
  have hsp := (span_at hg.1.2 hat).c2
  rw [← Tr.sp_get hat] at hsp
  obtain ⟨id, hid⟩ : ∃ id, (Tr.sp L at_).id = id := ⟨_, rfl⟩
  rw [hid] at hsp ⊢
  obtain ⟨r, hr⟩ : ∃ r, (s.up == id) = r := ⟨_, rfl⟩
  have hri : ((s.up : Int) == (id : Int)) = r := by rw [← hr, Bool.eq_iff_iff]; simp; omega
  have hati : (at_ : Int) < L.length := by omega
  rw [hr]
  clear hr hid hg
  unfold Sp.val
  go_enter Try.func73, Try.ntmps73
  go_wp2_with fail
  go_quiet (fail)
  go_wp2_with fail
  go_ret
  exact ⟨rfl, Below.drewN' HM.out _⟩

set_option maxHeartbeats 1000000 in
set_option maxRecDepth 100000 in
theorem kidsCmp_any (q : Nat) (A : Option Addr) (cap : Nat) (L : List Sp) (w : World) (hg : LG L A cap q w) (x y : Nat) (hx : x < L.length) (hy : y < L.length) (hn : L.length ≤ 1000000) :
    Calls Try.prog 75 #[.int .i64 (x : Int), .int .i64 (y : Int), .pointer (some ⟨q, 0, none⟩)] w fun e w' => e = .returned (.int .i64 (cv (Tr.sp L x).sq (Tr.sp L y).sq)) ∧ ∃ n, w' = w.drewN n := by
  have hq := hg.1
  obtain ⟨b, off, rfl, hblt, _⟩ := hg.2.open (by simp; omega)
  have hs1 := (span_at hg.2 hx).c6
  have hs2 := (span_at hg.2 hy).c6
  rw [← Tr.sp_get hx] at hs1
  rw [← Tr.sp_get hy] at hs2
  obtain ⟨s1, hs1e⟩ : ∃ s, (Tr.sp L x).sq = s := ⟨_, rfl⟩
  obtain ⟨s2, hs2e⟩ : ∃ s, (Tr.sp L y).sq = s := ⟨_, rfl⟩
  rw [hs1e] at hs1 ⊢
  rw [hs2e] at hs2 ⊢
  have hxi : (x : Int) < L.length := by omega
  have hyi : (y : Int) < L.length := by omega
  have HK := Stow.mk (fun W => cmpNil_any s1 s2 W)
  clear hg hs1e hs2e
  go_enter Try.func75, Try.ntmps75
  go_wp2_with fail
  go_quiet ((go_at_call 76; exact Calls.quiet_of_same (HK.out _)))
  go_wp2_with fail
  go_ret
  exact ⟨rfl, _, rfl⟩

theorem cmpOK (T : List Sp) (A : Option Addr) (cap q b off g : Nat) (hA : A = some ⟨b, off, none⟩) (hqg : q ≠ g) (hbg : b ≠ g) (hn : T.length ≤ 1000000) : CmpOK T (.pointer (some ⟨q, 0, none⟩)) g (LG T A cap q) where
  keep := fun W W' h ho => by
    subst hA
    refine ⟨(World.grownBy.cell ho h.1 (by simp; omega)), ?_⟩
    obtain ⟨A', cap', hv, h1, h2, h3⟩ := h.2
    refine ⟨A', cap', hv, h1, h2, fun hL => ?_⟩
    obtain ⟨b', off', hA', hlt, hc⟩ := h3 hL
    simp only [Value.slice.injEq] at hv
    have e := hv.1.trans hA'
    simp only [Option.some.injEq, Addr.mk.injEq] at e
    obtain ⟨rfl, rfl, _⟩ := e
    exact ⟨b, off, hA', Nat.lt_of_lt_of_le hlt ho.size, fun i x hx j u hu => World.grownBy.cell ho (hc i x hx j u hu) (by simp; omega)⟩
  call := fun W h x y hx hy => kidsCmp_any q A cap T W h x y hx hy hn

set_option maxHeartbeats 1000000 in
set_option maxRecDepth 100000 in
theorem insNil_any (f : Value) (w : World) : Calls Try.prog 116 #[.slice none 0 0, .int .i64 0, .int .i64 0, f] w fun e w' => e = .returned (.tuple #[]) ∧ w' = w := by
  go_enter Try.func116, Try.ntmps116
  go_wp2_with fail
  go_loopw [8, 9] (fun u v wr => u = .int .i64 1 ∧ wr = w) (fun _ _ _ => 0)
  case atStart => exact ⟨rfl, rfl⟩
  case round =>
    obtain ⟨rfl, rfl⟩ := hrel
    go_wp2_with fail
    first | go_end0 | refine bodyPost_ret (results_none rfl _ _ _) rfl ?_
    exact ⟨rfl, rfl⟩
set_option maxHeartbeats 1000000 in
set_option maxRecDepth 100000 in
theorem stableNil_any (f : Value) (w : World) : Calls Try.prog 101 #[.slice none 0 0, .int .i64 0, f] w fun e w' => e = .returned (.tuple #[]) ∧ w' = w := by
  go_enter Try.func101, Try.ntmps101
  go_wp2_with fail
  go_loopw [7, 8] (fun u v wr => u = .int .i64 0 ∧ v = .int .i64 20 ∧ wr = w) (fun _ _ _ => 0)
  case atStart => exact ⟨rfl, rfl, rfl⟩
  case round =>
    obtain ⟨rfl, rfl, rfl⟩ := hrel
    go_wp2_with fail
    refine (insNil_any f _).mono ?_
    rintro e w1 ⟨rfl, rfl⟩
    go_wp2_with fail
    go_loopw [6] (fun u wr => u = .int .i64 20 ∧ wr = w1) (fun _ _ => 0)
    case atStart => exact ⟨rfl, rfl⟩
    case round =>
      obtain ⟨rfl, rfl⟩ := hrel
      go_wp2_with fail
      first | go_end0 | refine bodyPost_ret (results_none rfl _ _ _) rfl ?_
      exact ⟨rfl, rfl⟩
set_option maxHeartbeats 1000000 in
set_option maxRecDepth 100000 in
theorem sortNil_any (f : Value) (w : World) : Calls Try.prog 74 #[.slice none 0 0, f] w fun e w' => e = .returned (.tuple #[]) ∧ w' = w := by
  go_enter Try.func74, Try.ntmps74
  go_wp2_with (go_at_call 101; refine (stableNil_any f _).mono ?_; rintro e w1 ⟨rfl, rfl⟩)
  first | go_end0 | refine bodyPost_ret (results_none rfl _ _ _) rfl ?_
  exact ⟨rfl, rfl⟩

set_option maxHeartbeats 2000000 in
set_option maxRecDepth 100000 in
theorem trKids_no (A : Option Addr) (cap : Nat) (L : List Sp) (at_ : Int) (w : World) (hS : SpR w A cap L) (hn : L.length ≤ 1000000) (h : at_ < 0 ∨ (L.length : Int) ≤ at_ ∨ ∃ n : Nat, at_ = n ∧ n < L.length ∧ (Tr.sp L n).id = 0) :
    Calls Try.prog 28 #[.slice A L.length cap, .int .i64 at_] w fun e w' => e = .returned (.slice none 0 0) ∧ Below w.heap.size w w' := by
  have HM := Stow.mk (Below.alloc' (Below.alloc' (Below.self w) (.cells #[.slice A L.length cap] 42)) (.cells #[.int .i64 at_] 3))
  rcases h with h | h | ⟨n, rfl, hl, hid⟩
  · have hd : decide (at_ < 0) = true := by simp; exact h
    go_enter Try.func28, Try.ntmps28
    go_wp2_with fail
    go_ret
    exact ⟨rfl, HM.out⟩
  · have hd : decide (at_ < 0) = false := by simp; omega
    have hd2 : decide ((L.length : Int) ≤ at_) = true := by simp; exact h
    go_enter Try.func28, Try.ntmps28
    go_wp2_with fail
    go_ret
    exact ⟨rfl, HM.out⟩
  · obtain ⟨b, off, rfl, hblt, _⟩ := hS.open (by simp; omega)
    have hsp := (span_at ((hS.alloc (.cells #[.slice (some ⟨b, off, none⟩) L.length cap] 42)).alloc (.cells #[.int .i64 (n : Int)] 3)) hl).c2
    have hsp0 := (span_at hS hl).c2
    rw [← Tr.sp_get hl, hid] at hsp hsp0
    have hd : decide ((n : Int) < 0) = false := by simp
    have hd2 : decide (L.length ≤ n) = false := by simp; omega
    have hni : (n : Int) < L.length := by omega
    clear hS
    go_enter Try.func28, Try.ntmps28
    go_wp2_with fail
    go_ret
    exact ⟨rfl, HM.out⟩

set_option maxHeartbeats 4000000 in
set_option maxRecDepth 100000 in
theorem trKids_yes (A : Option Addr) (cap : Nat) (L : List Sp) (n : Nat) (w : World) (hS : SpR w A cap L) (hn : L.length ≤ 1000000) (hl : n < L.length) (hid : (Tr.sp L n).id ≠ 0) :
    Calls Try.prog 28 #[.slice A L.length cap, .int .i64 (n : Int)] w fun e w' => ∃ v, e = .returned v ∧ IRow w' w.heap.size v (Tr.kids L n) ∧ Below w.heap.size w w' := by
  have hmf : ∀ (fn : Fn) (first cap : Array Value) (w : World), (Instr.makeFunc fn first cap).run Try.prog w = .ok (.func fn first cap) w := fun _ _ _ _ => rfl
  have hM := Below.alloc' (Below.alloc' (Below.self w) (.cells #[.slice A L.length cap] 42)) (.cells #[.int .i64 (n : Int)] 3)
  obtain ⟨b, off, rfl, hblt, _⟩ := hS.open (by simp; omega)
  have hS2 := (hS.alloc (.cells #[.slice (some ⟨b, off, none⟩) L.length cap] 42)).alloc (.cells #[.int .i64 (n : Int)] 3)
  have hsp := (span_at hS2 hl).c2
  have hsp0 := (span_at hS hl).c2
  rw [← Tr.sp_get hl] at hsp hsp0
  have hg : KG L (some ⟨b, off, none⟩) cap w.heap.size (w.heap.size + 1) n ((w.alloc (.cells #[.slice (some ⟨b, off, none⟩) L.length cap] 42)).alloc (.cells #[.int .i64 (n : Int)] 3)) := ⟨⟨by simp, hS2⟩, by simp⟩
  have HK := Stow.mk (places_any 73 #[.pointer (some ⟨w.heap.size, 0, none⟩), .pointer (some ⟨w.heap.size + 1, 0, none⟩)] enters_kids (fun s => s.up == (Tr.sp L n).id) (some ⟨b, off, none⟩) cap L (KG L (some ⟨b, off, none⟩) cap w.heap.size (w.heap.size + 1) n) _ (fun _ _ h hb => h.keep hb) (fun W s h _ => kidsF_any s w.heap.size (w.heap.size + 1) n _ cap L W h hl hn) hg hS2 hn)
  have HE : Stow (Tr.kids L n = Tr.sort L (Tr.raw L n)) := ⟨by unfold Tr.kids; rw [if_pos ⟨hl, hid⟩]⟩
  have HRAW : Stow (Tr.places L (fun s => s.up == (Tr.sp L n).id) = Tr.raw L n) := ⟨rfl⟩
  have HRS := Stow.mk (And.intro (Tr.raw_sorted L n) (fun x (hx : x ∈ Tr.raw L n) => (Tr.places_mem.1 hx).1))
  have HRL := Stow.mk (Tr.places_len L (fun s => s.up == (Tr.sp L n).id))
  have HM := Stow.mk hM
  have HG := Stow.mk hg
  obtain ⟨id, hide⟩ : ∃ id, (Tr.sp L n).id = id := ⟨_, rfl⟩
  rw [hide] at hsp hsp0 hid
  rw [HRAW.out] at HK HRL
  rw [HE.out]
  have hidi : ((id : Int) == 0) = false := by rw [beq_eq_false_iff_ne]; omega
  have hd : decide ((n : Int) < 0) = false := by simp
  have hd2 : decide (L.length ≤ n) = false := by simp; omega
  have hni : (n : Int) < L.length := by omega
  clear hS hS2 hM hg hide hid
  go_enter Try.func28, Try.ntmps28
  go_wp2_with fail
  refine HK.out.mono ?_
  rintro e w1 ⟨v, rfl, hr, hb⟩
  have HG1 := Stow.mk (HG.out.keep hb)
  have HB1 : Stow (Below w.heap.size w w1) := ⟨Below.call HM.out hb⟩
  rcases hr.2 with ⟨rfl, h0⟩ | ⟨g, cp, cur, rfl, hgB, hgh, _⟩
  · have HZ : Stow (Tr.sort L (Tr.raw L n) = []) := ⟨by
      have : Tr.raw L n = [] := List.eq_nil_of_length_eq_zero h0
      rw [this]; rfl⟩
    clear hr hb
    go_wp2_with fail
    refine (sortNil_any _ _).mono ?_
    rintro e w2 ⟨rfl, rfl⟩
    go_wp2_with fail
    go_ret
    exact ⟨_, rfl, by rw [HZ.out]; exact NRow.nil _ _ _ _, HB1.out⟩
  · have hgl : g < w1.heap.size := (Array.getElem?_eq_some_iff.1 hgh).1
    have hgw : w.heap.size + 2 ≤ g := by simp at hgB; omega
    have HSR := Stow.mk (sortStable_any L (.pointer (some ⟨w.heap.size, 0, none⟩)) (LG L (some ⟨b, off, none⟩) cap w.heap.size) (Tr.raw L n) _ g _ cp w1 (cmpOK L (some ⟨b, off, none⟩) cap w.heap.size b off g rfl (by omega) (by omega) hn) HG1.out.1 hr HRS.out.1 HRS.out.2 (by have := HRL.out; omega))
    have hq := HG1.out.1.1
    have hb2 := HM.out.size
    have hHR := Stow.mk hgB
    clear hr hb hgh hgB
    go_wp2_with fail
    refine HSR.out.mono ?_
    rintro e w2 ⟨rfl, hr2, ho2⟩
    have HR2 := Stow.mk (And.intro (own_lower hr2 hb2) (HB1.out.trans (ho2.below (by omega) HB1.out.size)))
    have hLL : (Tr.sort L (Tr.raw L n)).length = (Tr.raw L n).length := (Tr.sort_sorted HRS.out.1).2.length_eq
    clear hr2 ho2
    go_wp2_with fail
    go_ret
    exact ⟨_, rfl, HR2.out.1, HR2.out.2⟩

set_option maxHeartbeats 1000000 in
theorem trKids_any (A : Option Addr) (cap : Nat) (L : List Sp) (n : Nat) (w : World) (hS : SpR w A cap L) (hn : L.length ≤ 1000000) :
    Calls Try.prog 28 #[.slice A L.length cap, .int .i64 (n : Int)] w fun e w' => ∃ v, e = .returned v ∧ IRow w' w.heap.size v (Tr.kids L n) ∧ Below w.heap.size w w' := by
  by_cases h : n < L.length ∧ (Tr.sp L n).id ≠ 0
  · exact trKids_yes A cap L n w hS hn h.1 h.2
  · have hk : Tr.kids L n = [] := by unfold Tr.kids; rw [if_neg h]
    refine (trKids_no A cap L n w hS hn ?_).mono fun e w' ⟨he, hb⟩ => ⟨_, he, by rw [hk]; exact NRow.nil _ _ _ _, hb⟩
    by_cases h1 : n < L.length
    · exact .inr (.inr ⟨n, rfl, h1, by by_cases h2 : (Tr.sp L n).id = 0; exact h2; exact absurd ⟨h1, h2⟩ h⟩)
    · exact .inr (.inl (by omega))
end Go.Proofs.Ythbpcdoddcacdaa
