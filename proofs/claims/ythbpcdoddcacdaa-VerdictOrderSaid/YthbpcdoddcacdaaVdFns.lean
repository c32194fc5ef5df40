/- Walks of verdict's functions. Conditions: a slice's own; numbers of children are no giants. -/
import Derived.Test.YthbpcdoddcacdaaVdEvery
namespace Go.Proofs.Ythbpcdoddcacdaa
open Go.RowKit
set_option linter.unusedVariables false

/-- A trace that is kept: its value and its cells. -/
def ktc (hi lo : Nat) (A : Option Addr) (cap : Nat) (L : List Sp) (s c : Bool) : List Value := [.int .u64 (hi : Int), .int .u64 (lo : Int), .slice A L.length cap, .bool s, .bool c]
def ktv (hi lo : Nat) (A : Option Addr) (cap : Nat) (L : List Sp) (s c : Bool) : Value := .agg #[.int .u64 (hi : Int), .int .u64 (lo : Int), .slice A L.length cap, .bool s, .bool c]
/-- Numbers of children are no giants. -/
def KdOk (L : List Sp) : Prop := ∀ s ∈ L, -1099511627776 ≤ s.kd ∧ s.kd ≤ 1099511627776

set_option maxHeartbeats 2000000 in
set_option maxRecDepth 100000 in
theorem clF_any (A Ak : Option Addr) (cap ck q hi lo : Nat) (L : List Sp) (K : List Nat) (s : Sp) (x c : Bool) (w : World) (hH : Held w q (ktc hi lo A cap L x c)) (hS : SpR w A cap L) (hK : IR w Ak ck K) (hlt : ∀ k ∈ K, k < L.length) (hn : L.length ≤ 1000000) (hk : K.length ≤ 1000000) :
    Calls Try.prog 105 #[s.val, .slice Ak K.length ck, .pointer (some ⟨q, 0, none⟩)] w fun e w' => e = .returned (.bool (decide ((K.length : Int) ≤ s.kd) && Tr.fits s.kd (-1) (K.map fun k => (Tr.sp L k).sq))) ∧ Below w.heap.size w w' := by
  have hb : Below w.heap.size w (w.alloc (.cells s.cells.toArray 66)) := Below.alloc' (Below.self w) _
  have HM := Stow.mk hb
  have HC := Stow.mk (vdFits_any A Ak cap ck L K s _ (hS.keep hb) (SlR.keep hK hb) hlt hn hk)
  have q2 := hH.cell (i := 2) rfl
  have hqw := hH.lt
  obtain ⟨r, hr⟩ : ∃ r, Tr.fits s.kd (-1) (K.map fun k => (Tr.sp L k).sq) = r := ⟨_, rfl⟩
  rw [hr] at HC ⊢
  clear hb hH hS hK hlt hr
  by_cases h1 : (K.length : Int) ≤ s.kd
  · have d1 : decide ((K.length : Int) ≤ s.kd) = true := by simpa using h1
    rw [d1]
    clear h1
    unfold Sp.val
    go_enter Try.func105, Try.ntmps105
    go_wp2_with fail
    refine HC.out.mono ?_
    rintro e w1 ⟨rfl, hb1⟩
    have HB1 := Stow.mk (HM.out.trans (hb1.mono HM.out.size))
    clear hb1
    go_wp2_with fail
    go_ret
    exact ⟨by simp, HB1.out⟩
  · have d1 : decide ((K.length : Int) ≤ s.kd) = false := by simpa using h1
    rw [d1]
    clear h1
    unfold Sp.val
    go_enter Try.func105, Try.ntmps105
    go_wp2_with fail
    go_ret
    exact ⟨by simp, HM.out⟩

set_option maxHeartbeats 2000000 in
set_option maxRecDepth 100000 in
theorem laF_any (Ak : Option Addr) (ck n q : Nat) (s : Sp) (m : Int) (w : World) (hH : Held w q [.int .i64 m]) (hkd : -1099511627776 ≤ s.kd ∧ s.kd ≤ 1099511627776) (hn : n ≤ 1000000) (hm : 0 ≤ m ∧ m ≤ 4000000000000000000) :
    Calls Try.prog 84 #[s.val, .slice Ak n ck, .pointer (some ⟨q, 0, none⟩)] w fun e w' => e = .returned (.bool true) ∧ Held w' q [.int .i64 (m + max 0 (s.kd - n))] ∧ w.grownBy w' (some q) := by
  have hql := hH.lt
  have hqne : q ≠ w.heap.size := by omega
  obtain ⟨m', hm'⟩ : ∃ m', m + max 0 (s.kd - n) = m' := ⟨_, rfl⟩
  have HQ : Stow (Held ((w.setCell ⟨q, 0, none⟩ (.int .i64 m')).alloc (.cells s.cells.toArray 66)) q [.int .i64 m'] ∧ w.grownBy ((w.setCell ⟨q, 0, none⟩ (.int .i64 m')).alloc (.cells s.cells.toArray 66)) (some q)) :=
    ⟨Held.alloc' (hH.set 0 _) _, gb_trans (Only.set q w 0 _) (gb_of (Below.alloc' (Below.self _) _) _)⟩
  have q0 := hH.cell (i := 0) rfl
  have f0 := hH.free 0
  have e1 : IntKind.i64.wrap (s.kd - n) = s.kd - n := IntWalk.i64_in _ (by omega)
  rw [hm']
  clear hH
  by_cases hle : s.kd ≤ n
  · obtain rfl : m' = m := by omega
    have e2 : IntKind.i64.wrap m' = m' := IntWalk.i64_in _ (by omega)
    clear hm'
    unfold Sp.val
    go_enter Try.func84, Try.ntmps84
    go_wp2_with fail
    go_ret
    exact ⟨rfl, HQ.out.1, HQ.out.2⟩
  · have e2 : IntKind.i64.wrap (m + (s.kd - n)) = m' := by rw [IntWalk.i64_in _ (by omega)]; omega
    have hle2 : ¬ s.kd - n ≤ 0 := by omega
    clear hm'
    unfold Sp.val
    go_enter Try.func84, Try.ntmps84
    go_wp2_with fail
    go_ret
    exact ⟨rfl, HQ.out.1, HQ.out.2⟩

theorem enters_cl : ∀ (args : Array Value) (w : World), (callFunc 105 args).run Try.prog w = .ok (.enter 105 args) w := enters_of Try.func105 (by kernel_rfl) rfl
theorem enters_la : ∀ (args : Array Value) (w : World), (callFunc 84 args).run Try.prog w = .ok (.enter 84 args) w := enters_of Try.func84 (by kernel_rfl) rfl
theorem Tr.kids_in {L : List Sp} {i : Nat} : ∀ k ∈ Tr.kids L i, k < L.length := fun k hk => (Tr.kids_mem.1 hk).2.2.1

theorem everyCl (A : Option Addr) (cap q hi lo : Nat) (L : List Sp) (x c : Bool) (w : World) (hH : Held w q (ktc hi lo A cap L x c)) (hS : SpR w A cap L) (hn : L.length ≤ 1000000) :
    Calls Try.prog 83 #[.slice A L.length cap, .func (.func 105) #[] #[.pointer (some ⟨q, 0, none⟩)]] w fun e w' => e = .returned (.bool ((List.range L.length).all (Tr.okAt L))) ∧ Below w.heap.size w w' := by
  refine (every_any 105 #[.pointer (some ⟨q, 0, none⟩)] enters_cl A cap L (Tr.okAt L) (fun _ W => Held W q (ktc hi lo A cap L x c) ∧ SpR W A cap L) none w (fun _ _ h => h.2) (fun _ _ _ h hb => ⟨h.1.kept hb, h.2.keep hb⟩) (fun _ h => by cases h) ?_ ⟨hH, hS⟩ hn).mono ?_
  · intro i W vA vc hi' hg hk
    refine (clF_any A vA cap vc q hi lo L (Tr.kids L i) (Tr.sp L i) x c W hg.1 hg.2 hk Tr.kids_in hn (Nat.le_trans (Tr.kids_len L i) hn)).mono ?_
    rintro e w' ⟨rfl, hb⟩
    exact ⟨rfl, ⟨hg.1.kept hb, hg.2.keep hb⟩, gb_of hb _⟩
  · rintro e w' ⟨rfl, i, _, _, hg⟩
    exact ⟨rfl, gb_below hg (fun k h => by cases h) (Nat.le_refl _)⟩

theorem everyLa (A : Option Addr) (cap q : Nat) (L : List Sp) (w : World) (hH : Held w q [.int .i64 0]) (hS : SpR w A cap L) (hn : L.length ≤ 1000000) (hkd : KdOk L) (hnb : L ≠ [] → ∀ a : Addr, A = some a → a.block ≠ q) :
    Calls Try.prog 83 #[.slice A L.length cap, .func (.func 84) #[] #[.pointer (some ⟨q, 0, none⟩)]] w fun e w' => ∃ r, e = .returned (.bool r) ∧ Held w' q [.int .i64 (Tr.lacks L)] ∧ w.grownBy w' (some q) := by
  have hql := hH.lt
  refine (every_any 84 #[.pointer (some ⟨q, 0, none⟩)] enters_la A cap L (fun _ => true) (fun i W => Held W q [.int .i64 (Tr.lackTo L i)] ∧ SpR W A cap L ∧ i ≤ L.length) (some q) w (fun _ _ h => h.2.1) (fun _ _ _ h hb => ⟨h.1.kept hb, h.2.1.keep hb, h.2.2⟩) (fun _ h => by cases h; exact hql) ?_ ⟨hH, hS, Nat.zero_le _⟩ hn).mono ?_
  · intro i W vA vc hi' hg hk
    have hle := Tr.lackTo_le (L := L) (b := 1099511627776) (fun s hs => (hkd s hs).2) (by omega) i (by omega)
    have h0 := Tr.lackTo_nonneg L i
    refine (laF_any vA vc (Tr.kids L i).length q (Tr.sp L i) (Tr.lackTo L i) W hg.1 (hkd _ (Tr.sp_mem hi')) (Nat.le_trans (Tr.kids_len L i) hn) ⟨h0, by omega⟩).mono ?_
    rintro e w' ⟨rfl, hh, hgb⟩
    refine ⟨rfl, ⟨?_, ?_, hi'⟩, hgb⟩
    · rw [Tr.lackTo_next]; exact hh
    · obtain ⟨A', cap', he, h1, h2, h3⟩ := hg.2.1
      simp only [Value.slice.injEq] at he
      obtain ⟨rfl, _, rfl⟩ := he
      refine ⟨A, cap, by simp, h1, h2, fun hL => ?_⟩
      obtain ⟨b, off, hA, hlt, hc⟩ := h3 hL
      have hbq := hnb (by intro e; subst e; simp at hi') _ hA
      refine ⟨b, off, hA, Nat.lt_of_lt_of_le hlt hgb.size, fun j x hx k u hu => ?_⟩
      rw [← hc j x hx k u hu]
      have hbl := hgb.block b hlt (by intro e; cases e; exact hbq rfl)
      simp only [World.cell?, hbl]
  · rintro e w' ⟨rfl, i, hg, hall, hgb⟩
    have : i = L.length := hall (Tr.all_end fun _ _ => rfl)
    subst this
    exact ⟨_, rfl, hg.1, hgb⟩

set_option maxHeartbeats 2000000 in
set_option maxRecDepth 100000 in
theorem vdLacks_any (A : Option Addr) (cap hi lo : Nat) (L : List Sp) (x c : Bool) (w : World) (hS : SpR w A cap L) (hn : L.length ≤ 1000000) (hkd : KdOk L) :
    Calls Try.prog 44 #[ktv hi lo A cap L x c] w fun e w' => e = .returned (.int .i64 (Tr.lacks L)) ∧ Below w.heap.size w w' := by
  have hb1 : Below w.heap.size w (w.alloc (.cells (ktc hi lo A cap L x c).toArray 58)) := Below.alloc' (Below.self w) _
  have hb : Below w.heap.size w ((w.alloc (.cells (ktc hi lo A cap L x c).toArray 58)).alloc (.cells #[.int .i64 0] 3)) := Below.alloc' hb1 _
  have HB := Stow.mk hb
  have HC := Stow.mk (everyLa A cap (w.heap.size + 1) L ((w.alloc (.cells (ktc hi lo A cap L x c).toArray 58)).alloc (.cells #[.int .i64 0] 3)) (by have := Held.made (w.alloc (.cells (ktc hi lo A cap L x c).toArray 58)) [.int .i64 0] 3; simpa using this) (hS.keep hb) hn hkd (by
    intro hne a ha
    obtain ⟨A', cap', he, _, _, h3⟩ := hS
    simp only [Value.slice.injEq] at he
    obtain ⟨rfl, _, rfl⟩ := he
    obtain ⟨b, off, hA, hlt, _⟩ := h3 (by simpa using hne)
    rw [ha] at hA
    cases hA
    simp; omega))
  clear hb hb1 hS
  unfold ktv
  go_enter Try.func44, Try.ntmps44
  go_wp2_with fail
  refine HC.out.mono ?_
  rintro e w1 ⟨r, rfl, hh, hg⟩
  have q0 := hh.cell (i := 0) rfl
  have HB1 : Stow (Below w.heap.size w w1) := ⟨HB.out.trans (gb_below hg (fun k h => by cases h; simp) HB.out.size)⟩
  clear hh hg HB HC
  go_wp2_with fail
  go_ret
  exact ⟨rfl, HB1.out⟩

set_option maxHeartbeats 2000000 in
set_option maxRecDepth 100000 in
theorem vdClashes_any (A : Option Addr) (cap hi lo : Nat) (L : List Sp) (x c : Bool) (w : World) (hS : SpR w A cap L) (hn : L.length ≤ 1000000) :
    Calls Try.prog 80 #[ktv hi lo A cap L x c] w fun e w' => e = .returned (.bool (Tr.clashes L c)) ∧ Below w.heap.size w w' := by
  have hb1 : Below w.heap.size w (w.alloc (.cells (ktc hi lo A cap L x c).toArray 58)) := Below.alloc' (Below.self w) _
  have HB := Stow.mk hb1
  have HS := Stow.mk (hS.keep hb1)
  have HH := Stow.mk (Held.made w (ktc hi lo A cap L x c) 58)
  have HCL : Stow (Tr.clashes L c = (c || decide (1 < (Tr.roots L).length) || decide (0 < (Tr.lost L).length) || !(List.range L.length).all (Tr.okAt L))) := ⟨rfl⟩
  have HKR : Stow (∀ W, SpR W A cap L → Calls Try.prog 24 #[.slice A L.length cap] W fun e w' => ∃ vA vc, e = .returned (.slice vA (Tr.roots L).length vc) ∧ Below W.heap.size W w') := ⟨fun W h => (trRoots_any A cap L W h hn).mono fun e w' ⟨v, he, hr, hb⟩ => by
    obtain ⟨A1, c1, rfl⟩ := own_form hr
    exact ⟨A1, c1, he, hb⟩⟩
  have HKL : Stow (∀ W, SpR W A cap L → Calls Try.prog 32 #[.slice A L.length cap] W fun e w' => ∃ vA vc, e = .returned (.slice vA (Tr.lost L).length vc) ∧ Below W.heap.size W w') := ⟨fun W h => (trLost_any A cap L W h hn).mono fun e w' ⟨v, he, hr, hb⟩ => by
    obtain ⟨A1, c1, rfl⟩ := own_form hr
    exact ⟨A1, c1, he, hb⟩⟩
  have HKE : Stow (∀ W, Held W w.heap.size (ktc hi lo A cap L x c) → SpR W A cap L → Calls Try.prog 83 #[.slice A L.length cap, .func (.func 105) #[] #[.pointer (some ⟨w.heap.size, 0, none⟩)]] W fun e w' => e = .returned (.bool ((List.range L.length).all (Tr.okAt L))) ∧ Below W.heap.size W w') := ⟨fun W h1 h2 => everyCl A cap w.heap.size hi lo L x c W h1 h2 hn⟩
  rw [HCL.out]
  obtain ⟨nr, hnr⟩ : ∃ n, (Tr.roots L).length = n := ⟨_, rfl⟩
  obtain ⟨nl, hnl⟩ : ∃ n, (Tr.lost L).length = n := ⟨_, rfl⟩
  obtain ⟨r, hr⟩ : ∃ n, (List.range L.length).all (Tr.okAt L) = n := ⟨_, rfl⟩
  rw [hnr] at HKR ⊢
  rw [hnl] at HKL ⊢
  rw [hr] at HKE ⊢
  clear hb1 hS HCL hnr hnl hr
  unfold ktv
  cases c
  · by_cases h1 : 1 < nr
    · have d1 : decide (1 < nr) = true := by simpa using h1
      have d1i : decide ((1 : Int) < (nr : Int)) = true := by simp; omega
      rw [d1]
      clear h1
      go_enter Try.func80, Try.ntmps80
      go_wp2_with fail
      refine (HKR.out _ HS.out).mono ?_
      rintro e w1 ⟨A1, c1, rfl, hb1⟩
      have HB1 := Stow.mk (HB.out.trans (hb1.mono HB.out.size))
      clear hb1
      go_wp2_with fail
      go_ret
      exact ⟨rfl, HB1.out⟩
    · have d1 : decide (1 < nr) = false := by simpa using h1
      have d1i : decide ((1 : Int) < (nr : Int)) = false := by simp; omega
      rw [d1]
      clear h1
      by_cases h2 : 0 < nl
      · have d2 : decide (0 < nl) = true := by simpa using h2
        rw [d2]
        clear h2
        go_enter Try.func80, Try.ntmps80
        go_wp2_with fail
        refine (HKR.out _ HS.out).mono ?_
        rintro e w1 ⟨A1, c1, rfl, hb1⟩
        have HB1 := Stow.mk (HB.out.trans (hb1.mono HB.out.size))
        have HS1 := Stow.mk (HS.out.keep hb1)
        have HH1 := Stow.mk (HH.out.kept hb1)
        have q2 := HH1.out.cell (i := 2) rfl
        clear hb1
        go_wp2_with fail
        refine (HKL.out _ HS1.out).mono ?_
        rintro e w2 ⟨A2, c2, rfl, hb2⟩
        have HB2 := Stow.mk (HB1.out.trans (hb2.mono HB1.out.size))
        clear hb2
        go_wp2_with fail
        go_ret
        exact ⟨rfl, HB2.out⟩
      · have d2 : decide (0 < nl) = false := by simpa using h2
        rw [d2]
        clear h2
        go_enter Try.func80, Try.ntmps80
        go_wp2_with fail
        refine (HKR.out _ HS.out).mono ?_
        rintro e w1 ⟨A1, c1, rfl, hb1⟩
        have HB1 := Stow.mk (HB.out.trans (hb1.mono HB.out.size))
        have HS1 := Stow.mk (HS.out.keep hb1)
        have HH1 := Stow.mk (HH.out.kept hb1)
        have q2 := HH1.out.cell (i := 2) rfl
        clear hb1
        go_wp2_with fail
        refine (HKL.out _ HS1.out).mono ?_
        rintro e w2 ⟨A2, c2, rfl, hb2⟩
        have HB2 := Stow.mk (HB1.out.trans (hb2.mono HB1.out.size))
        have HS2 := Stow.mk (HS1.out.keep hb2)
        have HH2 := Stow.mk (HH1.out.kept hb2)
        have q2 := HH2.out.cell (i := 2) rfl
        clear hb2
        go_wp2_with fail
        refine (HKE.out _ HH2.out HS2.out).mono ?_
        rintro e w3 ⟨rfl, hb3⟩
        have HB3 := Stow.mk (HB2.out.trans (hb3.mono HB2.out.size))
        clear hb3
        go_wp2_with fail
        go_ret
        exact ⟨by simp, HB3.out⟩
  · go_enter Try.func80, Try.ntmps80
    go_wp2_with fail
    go_ret
    exact ⟨by simp, HB.out⟩
end Go.Proofs.Ythbpcdoddcacdaa
