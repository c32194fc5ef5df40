/- Walks of tree.places, Roots, Orphans, Kids. Conditions: a slice's own; spans' numbers fit their types. -/
import Derived.Test.YthbpcdoddcacdaaTrSort
namespace Go.Proofs.Ythbpcdoddcacdaa
open Go.RowKit
set_option linter.unusedVariables false

theorem info_int : (Try.prog.info? 3).map (fun i => (i.zero, i.size, i.bytes)) = some (some (.int .i64 0), 1, 8) := by kernel_rfl
/-- Spans in memory. -/
abbrev SpR (w : World) (A : Option Addr) (cap : Nat) (L : List Sp) : Prop := SlR w 11 (.slice A L.length cap) (L.map Sp.cells)
namespace Tr
def pl (L : List Sp) (p : Sp → Bool) (i : Nat) : List Nat := (List.range i).filter fun j => p (sp L j)
theorem pl_all (L : List Sp) (p : Sp → Bool) : pl L p L.length = places L p := rfl
theorem pl_yes {L : List Sp} {p : Sp → Bool} {i : Nat} (h : p (sp L i) = true) : pl L p (i + 1) = pl L p i ++ [i] := by
  unfold pl
  rw [List.range_succ, List.filter_append]
  simp [h]
theorem pl_no {L : List Sp} {p : Sp → Bool} {i : Nat} (h : p (sp L i) = false) : pl L p (i + 1) = pl L p i := by
  unfold pl
  rw [List.range_succ, List.filter_append]
  simp [h]
theorem pl_len (L : List Sp) (p : Sp → Bool) (i : Nat) : (pl L p i).length ≤ i := by
  have := List.length_filter_le (fun j => p (sp L j)) (List.range i)
  simpa [pl] using this
theorem sp_get {L : List Sp} {i : Nat} (h : i < L.length) : sp L i = L[i] := by
  unfold sp
  rw [List.getD_eq_getElem?_getD, List.getElem?_eq_getElem h]; rfl
end Tr

set_option maxHeartbeats 2000000 in
set_option maxRecDepth 100000 in
theorem places_any (K : Nat) (caps : Array Value) (hcf : ∀ (args : Array Value) (w : World), (callFunc K args).run Try.prog w = .ok (.enter K args) w) (p : Sp → Bool) (A : Option Addr) (cap : Nat) (L : List Sp) (Good : World → Prop) (w : World)
    (hG : ∀ W W', Good W → Below W.heap.size W W' → Good W') (hf : ∀ W s, Good W → s ∈ L → Calls Try.prog K (#[s.val] ++ caps) W fun e w' => e = .returned (.bool (p s)) ∧ Below W.heap.size W w') (hgood : Good w) (hS : SpR w A cap L) (hn : L.length ≤ 1000000) :
    Calls Try.prog 68 #[.slice A L.length cap, .func (.func K) #[] caps] w fun e w' => ∃ v, e = .returned v ∧ IRow w' w.heap.size v (Tr.places L p) ∧ Below w.heap.size w w' := by
  have HS := Stow.mk hS
  have HF := Stow.mk (And.intro hf (And.intro hG hgood))
  clear hS hf hG hgood
  go_enter Try.func68, Try.ntmps68
  go_wp2_with fail
  go_loopw [5, 10] (fun v u wr => ∃ i : Nat, u = .int .i64 (i : Int) ∧ i ≤ L.length ∧ Stow (IRow wr w.heap.size v (Tr.pl L p i)) ∧ Below w.heap.size w wr) (fun _ u _ => L.length - (intOf u).toNat)
  case atStart => exact ⟨0, rfl, by omega, ⟨NRow.nil _ _ _ _⟩, Below.self _⟩
  case round =>
    obtain ⟨i, rfl, hi, HR, hbr⟩ := hrel
    have HBR := Stow.mk hbr
    clear hbr
    by_cases hlt : i < L.length
    · obtain ⟨b, off, rfl, hblt, _⟩ := HS.out.open (by simp; omega)
      have hsp := span_at (HS.out.keep HBR.out) hlt
      obtain ⟨s, hs⟩ : ∃ s, L[i] = s := ⟨_, rfl⟩
      have hsL : s ∈ L := hs ▸ List.getElem_mem hlt
      have HSI : Stow (Tr.sp L i = s) := ⟨(Tr.sp_get hlt).trans hs⟩
      rw [hs] at hsp
      obtain ⟨hltb, q0, q1, q2, q3, q4, q5, q6, q7, q8, q9, q10⟩ := hsp
      clear hs
      have hii : (i : Int) < L.length := by omega
      obtain ⟨Av, cv_, rfl⟩ := own_form HR.out
      have hpl := Tr.pl_len L p i
      have hO0 : Below w.heap.size w (wr.alloc (.cells s.cells.toArray 66)) := HBR.out.alloc HBR.out.size _
      have KF := HF.out.1 (wr.alloc (.cells s.cells.toArray 66)) s (HF.out.2.1 _ _ HF.out.2.2 hO0) hsL
      obtain ⟨r, hr⟩ : ∃ r, p s = r := ⟨_, rfl⟩
      rw [hr] at KF
      have HKF := Stow.mk KF
      have HO0 := Stow.mk hO0
      have HPS : Stow (p (Tr.sp L i) = r) := ⟨by rw [HSI.out]; exact hr⟩
      have HR0 := Stow.mk (World.ownsRow.alloc HR.out (.cells s.cells.toArray 66))
      have K8 : Stow (((Tr.pl L p i).length + 1) * 8 ≤ 140737488355328) := ⟨by omega⟩
      clear KF hO0 hr hpl
      cases r
      · have HPL : Stow (Tr.pl L p (i + 1) = Tr.pl L p i) := ⟨Tr.pl_no HPS.out⟩
        go_wp2_with fail
        refine HKF.out.mono ?_
        rintro e w1 ⟨rfl, hb1⟩
        have HR1 : Stow (IRow w1 w.heap.size (.slice Av (Tr.pl L p i).length cv_) (Tr.pl L p i)) := ⟨own_kept HR0.out hb1⟩
        have HB1 : Stow (Below w.heap.size w w1) := ⟨HO0.out.trans (hb1.mono HO0.out.size)⟩
        clear hb1
        go_wp2_with fail
        exact ⟨⟨i + 1, rfl, by omega, ⟨by rw [HPL.out]; exact HR1.out⟩, HB1.out⟩, by simp [intOf]; omega⟩
      · have HPL : Stow (Tr.pl L p (i + 1) = Tr.pl L p i ++ [i]) := ⟨Tr.pl_yes HPS.out⟩
        go_wp2_with fail
        refine HKF.out.mono ?_
        rintro e w1 ⟨rfl, hb1⟩
        have HR1 : Stow (IRow w1 w.heap.size (.slice Av (Tr.pl L p i).length cv_) (Tr.pl L p i)) := ⟨own_kept HR0.out hb1⟩
        have HB1 : Stow (Below w.heap.size w w1) := ⟨HO0.out.trans (hb1.mono HO0.out.size)⟩
        clear hb1
        go_wp2_with (at_builtin; refine wpList_append_num HR1.out i rfl rfl (.tmp 18) (.tmp 20) 44 rfl Try.underlying44 8 info_int rfl rfl K8.out (by omega) HB1.out.size ?_; intro v' w2 hown2 _ hb2 hs2)
        exact ⟨⟨i + 1, rfl, by omega, ⟨by rw [HPL.out]; exact hown2⟩, HB1.out.trans hb2⟩, by simp [intOf]; omega⟩
    · obtain rfl : i = L.length := by omega
      obtain ⟨Av, cv_, rfl⟩ := own_form HR.out
      have hni : ¬ (L.length : Int) < L.length := by omega
      go_wp2_with fail
      go_ret
      exact ⟨_, rfl, by rw [← Tr.pl_all]; exact HR.out, HBR.out⟩

set_option maxHeartbeats 1000000 in
set_option maxRecDepth 100000 in
theorem rootsF_any (s : Sp) (w : World) : Calls Try.prog 69 #[s.val] w fun e w' => e = .returned (.bool (s.up == 0)) ∧ Below w.heap.size w w' := by
  have HM := Stow.mk (Below.alloc' (Below.self w) (.cells s.cells.toArray 66))
  obtain ⟨r, hr⟩ : ∃ r, (s.up == 0) = r := ⟨_, rfl⟩
  have hri : ((s.up : Int) == 0) = r := by rw [← hr, Bool.eq_iff_iff]; simp
  rw [hr]
  clear hr
  unfold Sp.val
  go_enter Try.func69, Try.ntmps69
  go_wp2_with fail
  go_ret
  exact ⟨rfl, HM.out⟩

theorem enters_roots : ∀ (args : Array Value) (w : World), (callFunc 69 args).run Try.prog w = .ok (.enter 69 args) w := enters_of Try.func69 (by kernel_rfl) rfl
set_option maxHeartbeats 1000000 in
set_option maxRecDepth 100000 in
theorem trRoots_any (A : Option Addr) (cap : Nat) (L : List Sp) (w : World) (hS : SpR w A cap L) (hn : L.length ≤ 1000000) :
    Calls Try.prog 24 #[.slice A L.length cap] w fun e w' => ∃ v, e = .returned v ∧ IRow w' w.heap.size v (Tr.roots L) ∧ Below w.heap.size w w' := by
  have HK := Stow.mk (places_any 69 #[] enters_roots (fun s => s.up == 0) A cap L (fun _ => True) w (fun _ _ _ _ => trivial) (fun W s _ _ => by rw [Array.append_empty]; exact rootsF_any s W) trivial hS hn)
  clear hS
  go_enter Try.func24, Try.ntmps24
  go_wp2_with (go_at_call 68; refine HK.out.mono ?_; rintro e w1 ⟨v, rfl, hr, hb⟩)
  go_ret
  exact ⟨v, rfl, hr, hb⟩
end Go.Proofs.Ythbpcdoddcacdaa
