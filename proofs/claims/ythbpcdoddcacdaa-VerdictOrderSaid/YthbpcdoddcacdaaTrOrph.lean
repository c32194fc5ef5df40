/- Walks of slices.IndexFunc and ContainsFunc at spans, tree.Orphans. Conditions: a slice's own. -/
import Derived.Test.YthbpcdoddcacdaaTrPlaces
namespace Go.Proofs.Ythbpcdoddcacdaa
open Go.RowKit
set_option linter.unusedVariables false

theorem own_lower {w : World} {B B' : Nat} {e : TypeId} {size n : Nat} {v : Value} {xs : List Value} (h : w.ownsRow B' e size v n xs) (hle : B ≤ B') : w.ownsRow B e size v n xs := by
  refine ⟨h.1, ?_⟩
  rcases h.2 with h | ⟨g, cap, cur, hv, hb, r⟩
  · exact .inl h
  · exact .inr ⟨g, cap, cur, hv, by omega, r⟩
/-- A number that tells whether there is one. -/
def IxOf (r : Bool) (w : World) (e : Ending) (w' : World) : Prop := ∃ k : Int, e = .returned (.int .i64 k) ∧ decide (0 ≤ k) = r ∧ Below w.heap.size w w'
theorem any_next {L : List Sp} {p : Sp → Bool} {i : Nat} (h : i < L.length) (ha : (L.take i).any p = false) (hb : p L[i] = false) : (L.take (i + 1)).any p = false := by
  rw [List.take_succ_eq_append_getElem h, List.any_append, ha]; simp [hb]
theorem any_yes {L : List Sp} {p : Sp → Bool} {i : Nat} (h : i < L.length) (hb : p L[i] = true) : L.any p = true := List.any_eq_true.2 ⟨_, List.getElem_mem h, hb⟩

set_option maxHeartbeats 2000000 in
set_option maxRecDepth 100000 in
theorem indexF_any (K : Nat) (caps : Array Value) (hcf : ∀ (args : Array Value) (w : World), (callFunc K args).run Try.prog w = .ok (.enter K args) w) (p : Sp → Bool) (A : Option Addr) (cap : Nat) (L : List Sp) (Good : World → Prop) (w : World)
    (hG : ∀ W W', Good W → Below W.heap.size W W' → Good W') (hf : ∀ W s, Good W → s ∈ L → Calls Try.prog K (#[s.val] ++ caps) W fun e w' => e = .returned (.bool (p s)) ∧ Below W.heap.size W w') (hgood : Good w) (hS : SpR w A cap L) (hn : L.length ≤ 1000000) :
    Calls Try.prog 100 #[.slice A L.length cap, .func (.func K) #[] caps] w (IxOf (L.any p) w) := by
  have HS := Stow.mk hS
  have HF := Stow.mk (And.intro hf (And.intro hG hgood))
  clear hS hf hG hgood
  go_enter Try.func100, Try.ntmps100
  go_wp2_with fail
  go_loopw [8] (fun u wr => ∃ i : Nat, u = .int .i64 (i : Int) ∧ i ≤ L.length ∧ Stow ((L.take i).any p = false) ∧ Below w.heap.size w wr) (fun u _ => L.length - (intOf u).toNat)
  case atStart => exact ⟨0, rfl, by omega, ⟨rfl⟩, Below.self _⟩
  case round =>
    obtain ⟨i, rfl, hi, HN, hbr⟩ := hrel
    have HBR := Stow.mk hbr
    clear hbr
    by_cases hlt : i < L.length
    · obtain ⟨b, off, rfl, hblt, _⟩ := HS.out.open (by simp; omega)
      have hsp := span_at (HS.out.keep HBR.out) hlt
      obtain ⟨s, hs⟩ : ∃ s, L[i] = s := ⟨_, rfl⟩
      have hsL : s ∈ L := hs ▸ List.getElem_mem hlt
      rw [hs] at hsp
      obtain ⟨hltb, q0, q1, q2, q3, q4, q5, q6, q7, q8, q9, q10⟩ := hsp
      have hii : (i : Int) < L.length := by omega
      have KF := HF.out.1 wr s (HF.out.2.1 _ _ HF.out.2.2 HBR.out) hsL
      obtain ⟨r, hr⟩ : ∃ r, p s = r := ⟨_, rfl⟩
      rw [hr] at KF
      have HKF := Stow.mk KF
      have HPS : Stow (p (L[i]'hlt) = r) := ⟨by rw [hs]; exact hr⟩
      clear KF hr hs
      cases r
      · go_wp2_with fail
        refine HKF.out.mono ?_
        rintro e w1 ⟨rfl, hb1⟩
        have HB1 : Stow (Below w.heap.size w w1) := ⟨HBR.out.trans (hb1.mono HBR.out.size)⟩
        clear hb1
        go_wp2_with fail
        exact ⟨⟨i + 1, rfl, by omega, ⟨any_next hlt HN.out HPS.out⟩, HB1.out⟩, by simp [intOf]; omega⟩
      · have HE : Stow (∀ w1, Below wr.heap.size wr w1 → IxOf (L.any p) w (.returned (.int .i64 (i : Int))) w1) := ⟨fun w1 hb1 => ⟨i, rfl, by rw [any_yes hlt HPS.out]; simp, HBR.out.trans (hb1.mono HBR.out.size)⟩⟩
        go_wp2_with fail
        refine HKF.out.mono ?_
        rintro e w1 ⟨rfl, hb1⟩
        have HB1 := Stow.mk (HE.out w1 hb1)
        clear hb1
        go_wp2_with fail
        go_ret
        exact HB1.out
    · obtain rfl : i = L.length := by omega
      have hni : ¬ (L.length : Int) < L.length := by omega
      have HE : Stow (IxOf (L.any p) w (.returned (.int .i64 (-1))) wr) := ⟨⟨-1, rfl, by have := HN.out; rw [List.take_length] at this; rw [this]; rfl, HBR.out⟩⟩
      go_wp2_with fail
      go_ret
      exact HE.out

set_option maxHeartbeats 1000000 in
set_option maxRecDepth 100000 in
theorem containsF_any (K : Nat) (caps : Array Value) (hcf : ∀ (args : Array Value) (w : World), (callFunc K args).run Try.prog w = .ok (.enter K args) w) (p : Sp → Bool) (A : Option Addr) (cap : Nat) (L : List Sp) (Good : World → Prop) (w : World)
    (hG : ∀ W W', Good W → Below W.heap.size W W' → Good W') (hf : ∀ W s, Good W → s ∈ L → Calls Try.prog K (#[s.val] ++ caps) W fun e w' => e = .returned (.bool (p s)) ∧ Below W.heap.size W w') (hgood : Good w) (hS : SpR w A cap L) (hn : L.length ≤ 1000000) :
    Calls Try.prog 71 #[.slice A L.length cap, .func (.func K) #[] caps] w fun e w' => e = .returned (.bool (L.any p)) ∧ Below w.heap.size w w' := by
  have HK := Stow.mk (indexF_any K caps hcf p A cap L Good w hG hf hgood hS hn)
  obtain ⟨r, hr⟩ : ∃ r, L.any p = r := ⟨_, rfl⟩
  rw [hr] at HK ⊢
  clear hS hr hG hf hgood
  go_enter Try.func71, Try.ntmps71
  go_wp2_with (go_at_call 100; refine HK.out.mono ?_; unfold IxOf; rintro e w1 ⟨k, rfl, hk, hb⟩)
  go_ret
  first | exact ⟨by rw [hk], hb⟩ | exact ⟨rfl, hb⟩

set_option maxHeartbeats 1000000 in
set_option maxRecDepth 100000 in
theorem orphIn_any (s : Sp) (q : Nat) (up : Nat) (w : World) (hq : w.cell? ⟨q, 3, none⟩ = some (.int .u64 (up : Int))) : Calls Try.prog 72 #[s.val, .pointer (some ⟨q, 0, none⟩)] w fun e w' => e = .returned (.bool (s.id == up)) ∧ Below w.heap.size w w' := by
  have HM := Stow.mk (Below.alloc' (Below.self w) (.cells s.cells.toArray 66))
  obtain ⟨r, hr⟩ : ∃ r, (s.id == up) = r := ⟨_, rfl⟩
  have hri : ((s.id : Int) == (up : Int)) = r := by rw [← hr, Bool.eq_iff_iff]; simp; omega
  have hlt : q < w.heap.size := World.block_lt_of_cell? w ⟨q, 3, none⟩ hq
  rw [hr]
  clear hr
  unfold Sp.val
  go_enter Try.func72, Try.ntmps72
  go_wp2_with fail
  first | go_ret | (go_quiet (fail); go_wp2_with fail; go_ret)
  first | exact ⟨rfl, HM.out⟩ | exact ⟨rfl, Below.drewN' HM.out _⟩
theorem enters_orphIn : ∀ (args : Array Value) (w : World), (callFunc 72 args).run Try.prog w = .ok (.enter 72 args) w := enters_of Try.func72 (by kernel_rfl) rfl
theorem enters_orph : ∀ (args : Array Value) (w : World), (callFunc 70 args).run Try.prog w = .ok (.enter 70 args) w := enters_of Try.func70 (by kernel_rfl) rfl
/-- A slice of spans that a closure captured. -/
def LG (L : List Sp) (A : Option Addr) (cap q : Nat) (W : World) : Prop := W.cell? ⟨q, 0, none⟩ = some (.slice A L.length cap) ∧ SpR W A cap L
theorem LG.keep {L : List Sp} {A : Option Addr} {cap q : Nat} {W W' : World} (h : LG L A cap q W) (hb : Below W.heap.size W W') : LG L A cap q W' :=
  ⟨(hb.cell (p := ⟨q, 0, none⟩) (World.block_lt_of_cell? W ⟨q, 0, none⟩ h.1)).trans h.1, h.2.keep hb⟩

set_option maxHeartbeats 1000000 in
set_option maxRecDepth 100000 in
theorem orphF_any (s : Sp) (q : Nat) (A : Option Addr) (cap : Nat) (L : List Sp) (w : World) (hg : LG L A cap q w) (hn : L.length ≤ 1000000) : Calls Try.prog 70 #[s.val, .pointer (some ⟨q, 0, none⟩)] w fun e w' => e = .returned (.bool (Tr.lost_ L s)) ∧ Below w.heap.size w w' := by
  have hmf : ∀ (fn : Fn) (first cap : Array Value) (w : World), (Instr.makeFunc fn first cap).run Try.prog w = .ok (.func fn first cap) w := fun _ _ _ _ => rfl
  have hM := Below.alloc' (Below.self w) (.cells s.cells.toArray 66)
  have hc3 : (w.alloc (.cells s.cells.toArray 66)).cell? ⟨w.heap.size, 3, none⟩ = some (.int .u64 (s.up : Int)) := (Held.made w s.cells 66).cell rfl
  have HK := Stow.mk (containsF_any 72 #[.pointer (some ⟨w.heap.size, 0, none⟩)] enters_orphIn (fun x => x.id == s.up) A cap L (fun W => W.cell? ⟨w.heap.size, 3, none⟩ = some (.int .u64 (s.up : Int))) _
    (fun W W' h hb => (hb.cell (p := ⟨w.heap.size, 3, none⟩) (World.block_lt_of_cell? W ⟨w.heap.size, 3, none⟩ h)).trans h) (fun W x h _ => orphIn_any x w.heap.size s.up W h) hc3 (hg.keep hM).2 hn)
  have HM := Stow.mk hM
  have hq := hg.1
  have hlt : q < w.heap.size := World.block_lt_of_cell? w ⟨q, 0, none⟩ hq
  obtain ⟨r, hr⟩ : ∃ r, (L.any fun x => x.id == s.up) = r := ⟨_, rfl⟩
  obtain ⟨t, ht⟩ : ∃ t, (s.up != 0) = t := ⟨_, rfl⟩
  have HE : Stow (Tr.lost_ L s = (t && !r)) := ⟨by unfold Tr.lost_; rw [ht, hr]⟩
  have hti : ((s.up : Int) != 0) = t := by rw [← ht, Bool.eq_iff_iff]; simp
  rw [hr] at HK
  rw [HE.out]
  clear hr ht hc3 hM hg
  cases t
  · unfold Sp.val
    go_enter Try.func70, Try.ntmps70
    go_wp2_with fail
    go_ret
    exact ⟨rfl, HM.out⟩
  · unfold Sp.val
    go_enter Try.func70, Try.ntmps70
    go_wp2_with (go_at_call 71; refine HK.out.mono ?_; rintro e w1 ⟨rfl, hb⟩)
    go_ret
    exact ⟨by simp, Below.call HM.out hb⟩

set_option maxHeartbeats 1000000 in
set_option maxRecDepth 100000 in
theorem trOrphans_any (A : Option Addr) (cap : Nat) (L : List Sp) (w : World) (hS : SpR w A cap L) (hn : L.length ≤ 1000000) :
    Calls Try.prog 26 #[.slice A L.length cap] w fun e w' => ∃ v, e = .returned v ∧ IRow w' w.heap.size v (Tr.orphans L) ∧ Below w.heap.size w w' := by
  have hmf : ∀ (fn : Fn) (first cap : Array Value) (w : World), (Instr.makeFunc fn first cap).run Try.prog w = .ok (.func fn first cap) w := fun _ _ _ _ => rfl
  have hM := Below.alloc' (Below.self w) (.cells #[.slice A L.length cap] 42)
  have hg : LG L A cap w.heap.size (w.alloc (.cells #[.slice A L.length cap] 42)) := ⟨by simp, hS.keep hM⟩
  have HK := Stow.mk (places_any 70 #[.pointer (some ⟨w.heap.size, 0, none⟩)] enters_orph (Tr.lost_ L) A cap L (LG L A cap w.heap.size) _ (fun _ _ h hb => h.keep hb) (fun W s h _ => orphF_any s w.heap.size A cap L W h hn) hg (hS.keep hM) hn)
  have HM := Stow.mk hM
  clear hS hM hg
  go_enter Try.func26, Try.ntmps26
  go_wp2_with (go_at_call 68; refine HK.out.mono ?_; rintro e w1 ⟨v, rfl, hr, hb⟩)
  go_ret
  exact ⟨v, rfl, own_lower hr HM.out.size, Below.call HM.out hb⟩
end Go.Proofs.Ythbpcdoddcacdaa
