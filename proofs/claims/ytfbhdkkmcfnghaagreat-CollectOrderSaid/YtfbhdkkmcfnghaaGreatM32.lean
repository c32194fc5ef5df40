/- Walks of verdict's functions. Conditions: a slice's own; numbers of children are no giants.; Walks of verdict.whole, Of and Tree. Conditions: a slice's own; numbers of children are no giants.; Windows of numbers in plain Lean. No condition. -/
import Derived.Test.YtfbhdkkmcfnghaaGreatM31
import Derived.Test.YtfbhdkkmcfnghaaGreatM01

section
namespace Go.Proofs.YtfbhdkkmcfnghaaGreat
open Go.RowKit
set_option linter.unusedVariables false

/-- A trace that is kept: its value and its cells. -/
def ktc (hi lo : Nat) (A : Option Addr) (cap : Nat) (L : List Sp) (s c : Bool) : List Value := [.int .u64 (hi : Int), .int .u64 (lo : Int), .slice A L.length cap, .bool s, .bool c]
def ktv (hi lo : Nat) (A : Option Addr) (cap : Nat) (L : List Sp) (s c : Bool) : Value := .agg #[.int .u64 (hi : Int), .int .u64 (lo : Int), .slice A L.length cap, .bool s, .bool c]
/-- Numbers of children are no giants. -/
def KdOk (L : List Sp) : Prop := ∀ s ∈ L, -1099511627776 ≤ s.kd ∧ s.kd ≤ 1099511627776

set_option maxHeartbeats 2000000 in
set_option maxRecDepth 100000 in
theorem clF_any (A Ak : Option Addr) (cap ck q hi lo : Nat) (L : List Sp) (K : List Nat) (s : Sp) (x c : Bool) (w : World) (hH : Held w q (ktc hi lo A cap L x c)) (hS : SpR w A cap L) (hK : IR w Ak ck K) (hlt : ∀ k ∈ K, k < L.length) (hn : L.length ≤ 1000000) (hk : K.length ≤ 1000000) :
    Calls Tryz.prog 108 #[s.val, .slice Ak K.length ck, .pointer (some ⟨q, 0, none⟩)] w fun e w' => e = .returned (.bool (decide ((K.length : Int) ≤ s.kd) && Tr.fits s.kd (-1) (K.map fun k => (Tr.sp L k).sq))) ∧ Below w.heap.size w w' := by
  have hb : Below w.heap.size w (w.alloc (.cells s.cells.toArray 64)) := Below.alloc' (Below.self w) _
  have HM := Stow.mk hb
  have HC := Stow.mk (vdFits_any A Ak cap ck L K s _ (hS.keep hb) (SlR.keep hK hb) hlt hn hk)
  have q2 := hH.cell (i := 2) rfl
  have hqw := hH.lt
  obtain ⟨r, hr⟩ : ∃ r, Tr.fits s.kd (-1) (K.map fun k => (Tr.sp L k).sq) = r := ⟨_, rfl⟩
  rw [hr] at HC ⊢
  clear hb hH hS hK hlt hr
  by_cases h1 : (K.length : Int) ≤ s.kd
  · have d1 : decide ((K.length : Int) ≤ s.kd) = true := by simpa using h1
    rw [d1]
    clear h1
    unfold Sp.val
    go_enter Tryz.func108, Tryz.ntmps108
    go_wp2_with fail
    refine HC.out.mono ?_
    rintro e w1 ⟨rfl, hb1⟩
    have HB1 := Stow.mk (HM.out.trans (hb1.mono HM.out.size))
    clear hb1
    go_wp2_with fail
    go_ret
    exact ⟨by simp, HB1.out⟩
  · have d1 : decide ((K.length : Int) ≤ s.kd) = false := by simpa using h1
    rw [d1]
    clear h1
    unfold Sp.val
    go_enter Tryz.func108, Tryz.ntmps108
    go_wp2_with fail
    go_ret
    exact ⟨by simp, HM.out⟩

set_option maxHeartbeats 2000000 in
set_option maxRecDepth 100000 in
theorem laF_any (Ak : Option Addr) (ck n q : Nat) (s : Sp) (m : Int) (w : World) (hH : Held w q [.int .i64 m]) (hkd : -1099511627776 ≤ s.kd ∧ s.kd ≤ 1099511627776) (hn : n ≤ 1000000) (hm : 0 ≤ m ∧ m ≤ 4000000000000000000) :
    Calls Tryz.prog 145 #[s.val, .slice Ak n ck, .pointer (some ⟨q, 0, none⟩)] w fun e w' => e = .returned (.bool true) ∧ Held w' q [.int .i64 (m + max 0 (s.kd - n))] ∧ w.grownBy w' (some q) := by
  have hql := hH.lt
  have hqne : q ≠ w.heap.size := by omega
  obtain ⟨m', hm'⟩ : ∃ m', m + max 0 (s.kd - n) = m' := ⟨_, rfl⟩
  have HQ : Stow (Held ((w.setCell ⟨q, 0, none⟩ (.int .i64 m')).alloc (.cells s.cells.toArray 64)) q [.int .i64 m'] ∧ w.grownBy ((w.setCell ⟨q, 0, none⟩ (.int .i64 m')).alloc (.cells s.cells.toArray 64)) (some q)) :=
    ⟨Held.alloc' (hH.set 0 _) _, gb_trans (Only.set q w 0 _) (gb_of (Below.alloc' (Below.self _) _) _)⟩
  have q0 := hH.cell (i := 0) rfl
  have f0 := hH.free 0
  have e1 : IntKind.i64.wrap (s.kd - n) = s.kd - n := IntWalk.i64_in _ (by omega)
  rw [hm']
  clear hH
  by_cases hle : s.kd ≤ n
  · obtain rfl : m' = m := by omega
    have e2 : IntKind.i64.wrap m' = m' := IntWalk.i64_in _ (by omega)
    clear hm'
    unfold Sp.val
    go_enter Tryz.func145, Tryz.ntmps145
    go_wp2_with fail
    go_ret
    exact ⟨rfl, HQ.out.1, HQ.out.2⟩
  · have e2 : IntKind.i64.wrap (m + (s.kd - n)) = m' := by rw [IntWalk.i64_in _ (by omega)]; omega
    have hle2 : ¬ s.kd - n ≤ 0 := by omega
    clear hm'
    unfold Sp.val
    go_enter Tryz.func145, Tryz.ntmps145
    go_wp2_with fail
    go_ret
    exact ⟨rfl, HQ.out.1, HQ.out.2⟩

theorem enters_cl : ∀ (args : Array Value) (w : World), (callFunc 108 args).run Tryz.prog w = .ok (.enter 108 args) w := enters_of Tryz.func108 (by kernel_rfl) rfl
theorem enters_la : ∀ (args : Array Value) (w : World), (callFunc 145 args).run Tryz.prog w = .ok (.enter 145 args) w := enters_of Tryz.func145 (by kernel_rfl) rfl
theorem Tr.kids_in {L : List Sp} {i : Nat} : ∀ k ∈ Tr.kids L i, k < L.length := fun k hk => (Tr.kids_mem.1 hk).2.2.1

theorem everyCl (A : Option Addr) (cap q hi lo : Nat) (L : List Sp) (x c : Bool) (w : World) (hH : Held w q (ktc hi lo A cap L x c)) (hS : SpR w A cap L) (hn : L.length ≤ 1000000) :
    Calls Tryz.prog 107 #[.slice A L.length cap, .func (.func 108) #[] #[.pointer (some ⟨q, 0, none⟩)]] w fun e w' => e = .returned (.bool ((List.range L.length).all (Tr.okAt L))) ∧ Below w.heap.size w w' := by
  refine (everyV_any 108 #[.pointer (some ⟨q, 0, none⟩)] enters_cl A cap L (Tr.okAt L) (fun _ W => Held W q (ktc hi lo A cap L x c) ∧ SpR W A cap L) none w (fun _ _ h => h.2) (fun _ _ _ h hb => ⟨h.1.kept hb, h.2.keep hb⟩) (fun _ h => by cases h) ?_ ⟨hH, hS⟩ hn).mono ?_
  · intro i W vA vc hi' hg hk
    refine (clF_any A vA cap vc q hi lo L (Tr.kids L i) (Tr.sp L i) x c W hg.1 hg.2 hk Tr.kids_in hn (Nat.le_trans (Tr.kids_len L i) hn)).mono ?_
    rintro e w' ⟨rfl, hb⟩
    exact ⟨rfl, ⟨hg.1.kept hb, hg.2.keep hb⟩, gb_of hb _⟩
  · rintro e w' ⟨rfl, i, _, _, hg⟩
    exact ⟨rfl, gb_below hg (fun k h => by cases h) (Nat.le_refl _)⟩

theorem everyLa (A : Option Addr) (cap q : Nat) (L : List Sp) (w : World) (hH : Held w q [.int .i64 0]) (hS : SpR w A cap L) (hn : L.length ≤ 1000000) (hkd : KdOk L) (hnb : L ≠ [] → ∀ a : Addr, A = some a → a.block ≠ q) :
    Calls Tryz.prog 107 #[.slice A L.length cap, .func (.func 145) #[] #[.pointer (some ⟨q, 0, none⟩)]] w fun e w' => ∃ r, e = .returned (.bool r) ∧ Held w' q [.int .i64 (Tr.lacks L)] ∧ w.grownBy w' (some q) := by
  have hql := hH.lt
  refine (everyV_any 145 #[.pointer (some ⟨q, 0, none⟩)] enters_la A cap L (fun _ => true) (fun i W => Held W q [.int .i64 (Tr.lackTo L i)] ∧ SpR W A cap L ∧ i ≤ L.length) (some q) w (fun _ _ h => h.2.1) (fun _ _ _ h hb => ⟨h.1.kept hb, h.2.1.keep hb, h.2.2⟩) (fun _ h => by cases h; exact hql) ?_ ⟨hH, hS, Nat.zero_le _⟩ hn).mono ?_
  · intro i W vA vc hi' hg hk
    have hle := Tr.lackTo_le (L := L) (b := 1099511627776) (fun s hs => (hkd s hs).2) (by omega) i (by omega)
    have h0 := Tr.lackTo_nonneg L i
    refine (laF_any vA vc (Tr.kids L i).length q (Tr.sp L i) (Tr.lackTo L i) W hg.1 (hkd _ (Tr.sp_mem hi')) (Nat.le_trans (Tr.kids_len L i) hn) ⟨h0, by omega⟩).mono ?_
    rintro e w' ⟨rfl, hh, hgb⟩
    refine ⟨rfl, ⟨?_, ?_, hi'⟩, hgb⟩
    · rw [Tr.lackTo_next]; exact hh
    · obtain ⟨A', cap', he, h1, h2, h3⟩ := hg.2.1
      simp only [Value.slice.injEq] at he
      obtain ⟨rfl, _, rfl⟩ := he
      refine ⟨A, cap, by simp, h1, h2, fun hL => ?_⟩
      obtain ⟨b, off, hA, hlt, hc⟩ := h3 hL
      have hbq := hnb (by intro e; subst e; simp at hi') _ hA
      refine ⟨b, off, hA, Nat.lt_of_lt_of_le hlt hgb.size, fun j x hx k u hu => ?_⟩
      rw [← hc j x hx k u hu]
      have hbl := hgb.block b hlt (by intro e; cases e; exact hbq rfl)
      simp only [World.cell?, hbl]
  · rintro e w' ⟨rfl, i, hg, hall, hgb⟩
    have : i = L.length := hall (Tr.all_end fun _ _ => rfl)
    subst this
    exact ⟨_, rfl, hg.1, hgb⟩

set_option maxHeartbeats 2000000 in
set_option maxRecDepth 100000 in
theorem vdLacks_any (A : Option Addr) (cap hi lo : Nat) (L : List Sp) (x c : Bool) (w : World) (hS : SpR w A cap L) (hn : L.length ≤ 1000000) (hkd : KdOk L) :
    Calls Tryz.prog 111 #[ktv hi lo A cap L x c] w fun e w' => e = .returned (.int .i64 (Tr.lacks L)) ∧ Below w.heap.size w w' := by
  have hb1 : Below w.heap.size w (w.alloc (.cells (ktc hi lo A cap L x c).toArray 40)) := Below.alloc' (Below.self w) _
  have hb : Below w.heap.size w ((w.alloc (.cells (ktc hi lo A cap L x c).toArray 40)).alloc (.cells #[.int .i64 0] 3)) := Below.alloc' hb1 _
  have HB := Stow.mk hb
  have HC := Stow.mk (everyLa A cap (w.heap.size + 1) L ((w.alloc (.cells (ktc hi lo A cap L x c).toArray 40)).alloc (.cells #[.int .i64 0] 3)) (by have := Held.made (w.alloc (.cells (ktc hi lo A cap L x c).toArray 40)) [.int .i64 0] 3; simpa using this) (hS.keep hb) hn hkd (by
    intro hne a ha
    obtain ⟨A', cap', he, _, _, h3⟩ := hS
    simp only [Value.slice.injEq] at he
    obtain ⟨rfl, _, rfl⟩ := he
    obtain ⟨b, off, hA, hlt, _⟩ := h3 (by simpa using hne)
    rw [ha] at hA
    cases hA
    simp; omega))
  clear hb hb1 hS
  unfold ktv
  go_enter Tryz.func111, Tryz.ntmps111
  go_wp2_with fail
  refine HC.out.mono ?_
  rintro e w1 ⟨r, rfl, hh, hg⟩
  have q0 := hh.cell (i := 0) rfl
  have HB1 : Stow (Below w.heap.size w w1) := ⟨HB.out.trans (gb_below hg (fun k h => by cases h; simp) HB.out.size)⟩
  clear hh hg HB HC
  go_wp2_with fail
  go_ret
  exact ⟨rfl, HB1.out⟩

set_option maxHeartbeats 2000000 in
set_option maxRecDepth 100000 in
theorem vdClashes_any (A : Option Addr) (cap hi lo : Nat) (L : List Sp) (x c : Bool) (w : World) (hS : SpR w A cap L) (hn : L.length ≤ 1000000) :
    Calls Tryz.prog 67 #[ktv hi lo A cap L x c] w fun e w' => e = .returned (.bool (Tr.clashes L c)) ∧ Below w.heap.size w w' := by
  have hb1 : Below w.heap.size w (w.alloc (.cells (ktc hi lo A cap L x c).toArray 40)) := Below.alloc' (Below.self w) _
  have HB := Stow.mk hb1
  have HS := Stow.mk (hS.keep hb1)
  have HH := Stow.mk (Held.made w (ktc hi lo A cap L x c) 40)
  have HCL : Stow (Tr.clashes L c = (c || decide (1 < (Tr.roots L).length) || decide (0 < (Tr.lost L).length) || !(List.range L.length).all (Tr.okAt L))) := ⟨rfl⟩
  have HKR : Stow (∀ W, SpR W A cap L → Calls Tryz.prog 81 #[.slice A L.length cap] W fun e w' => ∃ vA vc, e = .returned (.slice vA (Tr.roots L).length vc) ∧ Below W.heap.size W w') := ⟨fun W h => (trRoots_any A cap L W h hn).mono fun e w' ⟨v, he, hr, hb⟩ => by
    obtain ⟨A1, c1, rfl⟩ := own_form hr
    exact ⟨A1, c1, he, hb⟩⟩
  have HKL : Stow (∀ W, SpR W A cap L → Calls Tryz.prog 106 #[.slice A L.length cap] W fun e w' => ∃ vA vc, e = .returned (.slice vA (Tr.lost L).length vc) ∧ Below W.heap.size W w') := ⟨fun W h => (trLost_any A cap L W h hn).mono fun e w' ⟨v, he, hr, hb⟩ => by
    obtain ⟨A1, c1, rfl⟩ := own_form hr
    exact ⟨A1, c1, he, hb⟩⟩
  have HKE : Stow (∀ W, Held W w.heap.size (ktc hi lo A cap L x c) → SpR W A cap L → Calls Tryz.prog 107 #[.slice A L.length cap, .func (.func 108) #[] #[.pointer (some ⟨w.heap.size, 0, none⟩)]] W fun e w' => e = .returned (.bool ((List.range L.length).all (Tr.okAt L))) ∧ Below W.heap.size W w') := ⟨fun W h1 h2 => everyCl A cap w.heap.size hi lo L x c W h1 h2 hn⟩
  rw [HCL.out]
  obtain ⟨nr, hnr⟩ : ∃ n, (Tr.roots L).length = n := ⟨_, rfl⟩
  obtain ⟨nl, hnl⟩ : ∃ n, (Tr.lost L).length = n := ⟨_, rfl⟩
  obtain ⟨r, hr⟩ : ∃ n, (List.range L.length).all (Tr.okAt L) = n := ⟨_, rfl⟩
  rw [hnr] at HKR ⊢
  rw [hnl] at HKL ⊢
  rw [hr] at HKE ⊢
  clear hb1 hS HCL hnr hnl hr
  unfold ktv
  cases c
  · by_cases h1 : 1 < nr
    · have d1 : decide (1 < nr) = true := by simpa using h1
      have d1i : decide ((1 : Int) < (nr : Int)) = true := by simp; omega
      rw [d1]
      clear h1
      go_enter Tryz.func67, Tryz.ntmps67
      go_wp2_with fail
      refine (HKR.out _ HS.out).mono ?_
      rintro e w1 ⟨A1, c1, rfl, hb1⟩
      have HB1 := Stow.mk (HB.out.trans (hb1.mono HB.out.size))
      clear hb1
      go_wp2_with fail
      go_ret
      exact ⟨rfl, HB1.out⟩
    · have d1 : decide (1 < nr) = false := by simpa using h1
      have d1i : decide ((1 : Int) < (nr : Int)) = false := by simp; omega
      rw [d1]
      clear h1
      by_cases h2 : 0 < nl
      · have d2 : decide (0 < nl) = true := by simpa using h2
        rw [d2]
        clear h2
        go_enter Tryz.func67, Tryz.ntmps67
        go_wp2_with fail
        refine (HKR.out _ HS.out).mono ?_
        rintro e w1 ⟨A1, c1, rfl, hb1⟩
        have HB1 := Stow.mk (HB.out.trans (hb1.mono HB.out.size))
        have HS1 := Stow.mk (HS.out.keep hb1)
        have HH1 := Stow.mk (HH.out.kept hb1)
        have q2 := HH1.out.cell (i := 2) rfl
        clear hb1
        go_wp2_with fail
        refine (HKL.out _ HS1.out).mono ?_
        rintro e w2 ⟨A2, c2, rfl, hb2⟩
        have HB2 := Stow.mk (HB1.out.trans (hb2.mono HB1.out.size))
        clear hb2
        go_wp2_with fail
        go_ret
        exact ⟨rfl, HB2.out⟩
      · have d2 : decide (0 < nl) = false := by simpa using h2
        rw [d2]
        clear h2
        go_enter Tryz.func67, Tryz.ntmps67
        go_wp2_with fail
        refine (HKR.out _ HS.out).mono ?_
        rintro e w1 ⟨A1, c1, rfl, hb1⟩
        have HB1 := Stow.mk (HB.out.trans (hb1.mono HB.out.size))
        have HS1 := Stow.mk (HS.out.keep hb1)
        have HH1 := Stow.mk (HH.out.kept hb1)
        have q2 := HH1.out.cell (i := 2) rfl
        clear hb1
        go_wp2_with fail
        refine (HKL.out _ HS1.out).mono ?_
        rintro e w2 ⟨A2, c2, rfl, hb2⟩
        have HB2 := Stow.mk (HB1.out.trans (hb2.mono HB1.out.size))
        have HS2 := Stow.mk (HS1.out.keep hb2)
        have HH2 := Stow.mk (HH1.out.kept hb2)
        have q2 := HH2.out.cell (i := 2) rfl
        clear hb2
        go_wp2_with fail
        refine (HKE.out _ HH2.out HS2.out).mono ?_
        rintro e w3 ⟨rfl, hb3⟩
        have HB3 := Stow.mk (HB2.out.trans (hb3.mono HB2.out.size))
        clear hb3
        go_wp2_with fail
        go_ret
        exact ⟨by simp, HB3.out⟩
  · go_enter Tryz.func67, Tryz.ntmps67
    go_wp2_with fail
    go_ret
    exact ⟨by simp, HB.out⟩
end Go.Proofs.YtfbhdkkmcfnghaaGreat
end

section
namespace Go.Proofs.YtfbhdkkmcfnghaaGreat
open Go.RowKit
set_option linter.unusedVariables false

theorem trRoots_len (A : Option Addr) (cap : Nat) (L : List Sp) (hn : L.length ≤ 1000000) {n : Nat} (h : (Tr.roots L).length = n) (W : World) (hS : SpR W A cap L) : Calls Tryz.prog 81 #[.slice A L.length cap] W fun e w' => ∃ vA vc, e = .returned (.slice vA n vc) ∧ Below W.heap.size W w' :=
  (trRoots_any A cap L W hS hn).mono fun e w' ⟨v, he, hr, hb⟩ => by
    obtain ⟨A1, c1, rfl⟩ := own_form hr
    exact ⟨A1, c1, by rw [he, h], hb⟩
theorem trOrphans_len (A : Option Addr) (cap : Nat) (L : List Sp) (hn : L.length ≤ 1000000) {n : Nat} (h : (Tr.orphans L).length = n) (W : World) (hS : SpR W A cap L) : Calls Tryz.prog 110 #[.slice A L.length cap] W fun e w' => ∃ vA vc, e = .returned (.slice vA n vc) ∧ Below W.heap.size W w' :=
  (trOrphans_any A cap L W hS hn).mono fun e w' ⟨v, he, hr, hb⟩ => by
    obtain ⟨A1, c1, rfl⟩ := own_form hr
    exact ⟨A1, c1, by rw [he, h], hb⟩
theorem eq1_no {n : Nat} (h : n ≠ 1) : (n == 1) = false ∧ ((n : Int) == 1) = false ∧ ¬ (n : Int) = 1 ∧ (n != 1) = true ∧ ((n : Int) != 1) = true := by
  refine ⟨by simpa using h, ?_, by omega, by simpa using h, ?_⟩
  · rw [beq_eq_false_iff_ne]; omega
  · rw [bne_iff_ne]; omega
theorem eq0_no {n : Nat} (h : n ≠ 0) : (n == 0) = false ∧ ((n : Int) == 0) = false ∧ ¬ (n : Int) = 0 := by
  refine ⟨by simpa using h, ?_, by omega⟩
  rw [beq_eq_false_iff_ne]; omega

set_option maxHeartbeats 2000000 in
set_option maxRecDepth 100000 in
theorem vdWhole_any (A : Option Addr) (cap hi lo : Nat) (L : List Sp) (x c : Bool) (w : World) (hS : SpR w A cap L) (hn : L.length ≤ 1000000) (hkd : KdOk L) :
    Calls Tryz.prog 68 #[ktv hi lo A cap L x c] w fun e w' => e = .returned (.bool (Tr.whole L x)) ∧ Below w.heap.size w w' := by
  have hb1 : Below w.heap.size w (w.alloc (.cells (ktc hi lo A cap L x c).toArray 40)) := Below.alloc' (Below.self w) _
  have HB := Stow.mk hb1
  have HS := Stow.mk (hS.keep hb1)
  have HH := Stow.mk (Held.made w (ktc hi lo A cap L x c) 40)
  have HCL : Stow (Tr.whole L x = (!x && decide ((Tr.roots L).length = 1) && decide ((Tr.orphans L).length = 0) && decide (Tr.lacks L = 0))) := ⟨rfl⟩
  rw [HCL.out]
  obtain ⟨nr, hnr⟩ : ∃ n, (Tr.roots L).length = n := ⟨_, rfl⟩
  obtain ⟨nl, hnl⟩ : ∃ n, (Tr.orphans L).length = n := ⟨_, rfl⟩
  have HKR := Stow.mk (trRoots_len A cap L hn hnr)
  have HKL := Stow.mk (trOrphans_len A cap L hn hnl)
  have HKE : Stow (∀ W, SpR W A cap L → Calls Tryz.prog 111 #[ktv hi lo A cap L x c] W fun e w' => e = .returned (.int .i64 (Tr.lacks L)) ∧ Below W.heap.size W w') := ⟨fun W h1 => vdLacks_any A cap hi lo L x c W h1 hn hkd⟩
  obtain ⟨m, hm⟩ : ∃ n, Tr.lacks L = n := ⟨_, rfl⟩
  rw [hm] at HKE ⊢
  rw [hnr, hnl]
  clear hb1 hS HCL hnr hnl hm hkd
  unfold ktv
  cases x
  · by_cases h1 : nr ≠ 1
    · obtain ⟨d1, d2, d3, _⟩ := eq1_no h1
      rw [decide_eq_false h1]
      go_enter Tryz.func68, Tryz.ntmps68
      go_wp2_with fail
      refine (HKR.out _ HS.out).mono ?_
      rintro e w1 ⟨A1, c1, rfl, hb1⟩
      have HB1 := Stow.mk (HB.out.trans (hb1.mono HB.out.size))
      clear hb1
      go_wp2_with fail
      go_ret
      exact ⟨rfl, HB1.out⟩
    · obtain rfl : nr = 1 := by omega
      by_cases h2 : nl ≠ 0
      · obtain ⟨d1, d2, d3⟩ := eq0_no h2
        rw [decide_eq_false h2]
        go_enter Tryz.func68, Tryz.ntmps68
        go_wp2_with fail
        refine (HKR.out _ HS.out).mono ?_
        rintro e w1 ⟨A1, c1, rfl, hb1⟩
        have HB1 := Stow.mk (HB.out.trans (hb1.mono HB.out.size))
        have HS1 := Stow.mk (HS.out.keep hb1)
        have HH1 := Stow.mk (HH.out.kept hb1)
        have q2 := HH1.out.cell (i := 2) rfl
        clear hb1
        go_wp2_with fail
        refine (HKL.out _ HS1.out).mono ?_
        rintro e w2 ⟨A2, c2, rfl, hb2⟩
        have HB2 := Stow.mk (HB1.out.trans (hb2.mono HB1.out.size))
        clear hb2
        go_wp2_with fail
        go_ret
        exact ⟨rfl, HB2.out⟩
      · obtain rfl : nl = 0 := by omega
        obtain ⟨b3, hb3⟩ : ∃ b, decide (m = 0) = b := ⟨_, rfl⟩
        have d3 : (m == 0) = b3 := by rw [← hb3, Bool.eq_iff_iff]; simp
        rw [hb3]
        clear hb3
        go_enter Tryz.func68, Tryz.ntmps68
        go_wp2_with fail
        refine (HKR.out _ HS.out).mono ?_
        rintro e w1 ⟨A1, c1, rfl, hb1⟩
        have HB1 := Stow.mk (HB.out.trans (hb1.mono HB.out.size))
        have HS1 := Stow.mk (HS.out.keep hb1)
        have HH1 := Stow.mk (HH.out.kept hb1)
        have q2 := HH1.out.cell (i := 2) rfl
        clear hb1
        go_wp2_with fail
        refine (HKL.out _ HS1.out).mono ?_
        rintro e w2 ⟨A2, c2, rfl, hb2⟩
        have HB2 := Stow.mk (HB1.out.trans (hb2.mono HB1.out.size))
        have HS2 := Stow.mk (HS1.out.keep hb2)
        have HH2 := Stow.mk (HH1.out.kept hb2)
        have q0 := HH2.out.cell (i := 0) rfl
        have q1 := HH2.out.cell (i := 1) rfl
        have q2 := HH2.out.cell (i := 2) rfl
        have q3 := HH2.out.cell (i := 3) rfl
        have q4 := HH2.out.cell (i := 4) rfl
        clear hb2
        go_wp2_with fail
        refine (HKE.out _ HS2.out).mono ?_
        rintro e w3 ⟨rfl, hb3⟩
        have HB3 := Stow.mk (HB2.out.trans (hb3.mono HB2.out.size))
        clear hb3
        go_wp2_with fail
        go_ret
        exact ⟨by simp, HB3.out⟩
  · go_enter Tryz.func68, Tryz.ntmps68
    go_wp2_with fail
    go_ret
    exact ⟨by simp, HB.out⟩

set_option maxHeartbeats 2000000 in
set_option maxRecDepth 100000 in
theorem vdOf_any (A : Option Addr) (cap hi lo : Nat) (L : List Sp) (x c : Bool) (w : World) (hS : SpR w A cap L) (hn : L.length ≤ 1000000) (hkd : KdOk L) :
    Calls Tryz.prog 39 #[ktv hi lo A cap L x c] w fun e w' => e = .returned (.int .i64 (Tr.said L x c : Nat)) ∧ Below w.heap.size w w' := by
  have hb1 : Below w.heap.size w (w.alloc (.cells (ktc hi lo A cap L x c).toArray 40)) := Below.alloc' (Below.self w) _
  have HB := Stow.mk hb1
  have HS := Stow.mk (hS.keep hb1)
  have HH := Stow.mk (Held.made w (ktc hi lo A cap L x c) 40)
  have HCL : Stow (Tr.said L x c = if Tr.clashes L c then 2 else if Tr.whole L x then 1 else 0) := ⟨rfl⟩
  rw [HCL.out]
  have HKR : Stow (∀ W, SpR W A cap L → Calls Tryz.prog 67 #[ktv hi lo A cap L x c] W fun e w' => e = .returned (.bool (Tr.clashes L c)) ∧ Below W.heap.size W w') := ⟨fun W h1 => vdClashes_any A cap hi lo L x c W h1 hn⟩
  have HKE : Stow (∀ W, SpR W A cap L → Calls Tryz.prog 68 #[ktv hi lo A cap L x c] W fun e w' => e = .returned (.bool (Tr.whole L x)) ∧ Below W.heap.size W w') := ⟨fun W h1 => vdWhole_any A cap hi lo L x c W h1 hn hkd⟩
  obtain ⟨b1, hb1⟩ : ∃ n, Tr.clashes L c = n := ⟨_, rfl⟩
  obtain ⟨b2, hb2⟩ : ∃ n, Tr.whole L x = n := ⟨_, rfl⟩
  rw [hb1] at HKR ⊢
  rw [hb2] at HKE ⊢
  clear hS HCL hb1 hb2 hkd
  unfold ktv
  cases b1
  · go_enter Tryz.func39, Tryz.ntmps39
    go_wp2_with fail
    refine (HKR.out _ HS.out).mono ?_
    rintro e w1 ⟨rfl, hb1⟩
    have HB1 := Stow.mk (HB.out.trans (hb1.mono HB.out.size))
    have HS1 := Stow.mk (HS.out.keep hb1)
    have HH1 := Stow.mk (HH.out.kept hb1)
    have q0 := HH1.out.cell (i := 0) rfl
    have q1 := HH1.out.cell (i := 1) rfl
    have q2 := HH1.out.cell (i := 2) rfl
    have q3 := HH1.out.cell (i := 3) rfl
    have q4 := HH1.out.cell (i := 4) rfl
    clear hb1
    go_wp2_with fail
    refine (HKE.out _ HS1.out).mono ?_
    rintro e w2 ⟨rfl, hb2⟩
    have HB2 := Stow.mk (HB1.out.trans (hb2.mono HB1.out.size))
    clear hb2
    cases b2
    · go_wp2_with fail
      go_ret
      exact ⟨rfl, HB2.out⟩
    · go_wp2_with fail
      go_ret
      exact ⟨rfl, HB2.out⟩
  · go_enter Tryz.func39, Tryz.ntmps39
    go_wp2_with fail
    refine (HKR.out _ HS.out).mono ?_
    rintro e w1 ⟨rfl, hb1⟩
    have HB1 := Stow.mk (HB.out.trans (hb1.mono HB.out.size))
    clear hb1
    go_wp2_with fail
    go_ret
    exact ⟨rfl, HB1.out⟩

/-- The tree of a trace. -/
def Tr.treeN (L : List Sp) (x c : Bool) : List Nv := if Tr.said L x c = 1 then Tr.nodes L ((Tr.roots L).headD 0) else []
theorem Tr.treeN_no {L : List Sp} {x c : Bool} (h : Tr.said L x c ≠ 1) : Tr.treeN L x c = [] := by unfold Tr.treeN; rw [if_neg h]
theorem Tr.treeN_yes {L : List Sp} {x c : Bool} (h : Tr.said L x c = 1) : ∃ r, Tr.roots L = [r] ∧ r < L.length ∧ Tr.treeN L x c = (Tr.walk L r).map (Tr.node L) := by
  obtain ⟨r, hr, hl, _⟩ := (Tr.said_is h).top
  refine ⟨r, hr, hl, ?_⟩
  unfold Tr.treeN
  rw [if_pos h, hr]
  rfl
def TreeOut (M : List Nv) (b : Bool) (w : World) (e : Ending) (w' : World) : Prop := ∃ vA vc, e = .returned (.tuple #[.slice vA M.length vc, .bool b]) ∧ NvR w' vA vc M ∧ Below w.heap.size w w'
theorem nvr_nil (w : World) : NvR w none 0 [] := SlR.nil w 4


set_option maxHeartbeats 2000000 in
set_option maxRecDepth 100000 in
theorem vdTree_any (A : Option Addr) (cap hi lo : Nat) (L : List Sp) (x c : Bool) (w : World) (hS : SpR w A cap L) (hn : L.length ≤ 1000000) (hkd : KdOk L) :
    Calls Tryz.prog 47 #[ktv hi lo A cap L x c] w fun e w' => TreeOut (Tr.treeN L x c) (decide (Tr.said L x c = 1)) w e w' := by
  have HKO : Stow (∀ W, SpR W A cap L → Calls Tryz.prog 39 #[ktv hi lo A cap L x c] W fun e w' => e = .returned (.int .i64 (Tr.said L x c : Nat)) ∧ Below W.heap.size W w') := ⟨fun W h1 => vdOf_any A cap hi lo L x c W h1 hn hkd⟩
  have HKR0 : Stow (∀ W, SpR W A cap L → _) := ⟨fun W h => trRoots_any A cap L W h hn⟩
  have HKN0 : Stow (∀ W r, SpR W A cap L → r < L.length → _) := ⟨fun W r h _ => trNodes_any A cap L r W h hn⟩
  have hb1 : Below w.heap.size w (w.alloc (.cells (ktc hi lo A cap L x c).toArray 40)) := Below.alloc' (Below.self w) _
  have HB := Stow.mk hb1
  have HS := Stow.mk (hS.keep hb1)
  have HH := Stow.mk (Held.made w (ktc hi lo A cap L x c) 40)
  obtain ⟨n, hn1⟩ : ∃ n, Tr.said L x c = n := ⟨_, rfl⟩
  rw [hn1] at HKO
  by_cases h1 : n = 1
  · subst h1
    obtain ⟨r, hr, hrl, hM⟩ := Tr.treeN_yes hn1
    rw [hM, hn1]
    obtain ⟨M, hM⟩ : ∃ M, (Tr.walk L r).map (Tr.node L) = M := ⟨_, rfl⟩
    rw [hM]
    have HKR : Stow (∀ W, SpR W A cap L → Calls Tryz.prog 81 #[.slice A L.length cap] W fun e w' => ∃ g vc, e = .returned (.slice (some ⟨g, 0, none⟩) 1 vc) ∧ w'.cell? ⟨g, 0, none⟩ = some (.int .i64 (r : Int)) ∧ Below W.heap.size W w') := ⟨fun W h => (HKR0.out W h).mono fun e w' ⟨v, he, hr1, hb⟩ => by
      rw [hr] at hr1
      obtain ⟨A1, c1, rfl⟩ := own_form hr1
      obtain ⟨g, rfl, _, _, q⟩ := IRow.at_ hr1 (i := 0) (by simp)
      exact ⟨g, c1, he, q, hb⟩⟩
    have HKN : Stow (∀ W, SpR W A cap L → Calls Tryz.prog 80 #[.slice A L.length cap, .int .i64 (r : Int)] W fun e w' => ∃ vA vc, e = .returned (.slice vA M.length vc) ∧ NvR w' vA vc M ∧ Below W.heap.size W w') := ⟨fun W h => (HKN0.out W r h hrl).mono fun e w' h => nv_of hM h⟩
    have SF : Stow (∀ W', Held W' w.heap.size (ktc hi lo A cap L x c) → W'.cell? ⟨w.heap.size, 2, none⟩ = some (.slice A L.length cap)) := ⟨fun W' h => h.cell (i := 2) rfl⟩
    clear hb1 hS hr hM hn1 HKR0 HKN0
    unfold ktv
    go_enter Tryz.func47, Tryz.ntmps47
    go_wp2_with fail
    refine (HKO.out _ HS.out).mono ?_
    rintro e w1 ⟨rfl, hb1⟩
    have HB1 := Stow.mk (HB.out.trans (hb1.mono HB.out.size))
    have HS1 := Stow.mk (HS.out.keep hb1)
    have HH1 := Stow.mk (HH.out.kept hb1)
    have q2 := SF.out _ HH1.out
    clear hb1
    go_wp2_with fail
    go_region_with
      (first
        | (go_at_call 81; refine (HKR.out _ HS1.out.drew).mono ?_; rintro e w5 ⟨g5, vc5, rfl, p5, hb5⟩; have HB5 := Stow.mk (Below.call (Below.drew (Below.self w1)) hb5); have HS5 := Stow.mk (HS1.out.keep HB5.out); have HH5 := Stow.mk (HH1.out.kept HB5.out); have hk6 := SF.out w5 HH5.out)
        | (go_at_call 80; refine (HKN.out _ HS5.out).mono ?_; rintro e w6 ⟨vA6, vc6, rfl, hr6, hb6⟩; have HB6 := Stow.mk (HB5.out.trans (hb6.mono HB5.out.size)); have HN6 := Stow.mk hr6; have hk6 := SF.out w6 (HH5.out.kept hb6)))
    all_goals
      have HB7 := Stow.mk (HB1.out.trans (HB6.out.mono HB1.out.size))
      clear hb5 hb6 hr6 hk6
      go_wp2_with fail
      go_ret2
      exact ⟨_, _, rfl, HN6.out, HB7.out⟩
  · obtain ⟨e1, e2, e3, e4, e5⟩ := eq1_no h1
    have HE1 : Stow (decide (n = 1) = false) := ⟨by simpa using h1⟩
    rw [Tr.treeN_no (by rw [hn1]; exact h1), hn1, HE1.out]
    clear hb1 hS hn1 h1 HE1 HKR0 HKN0
    unfold ktv
    go_enter Tryz.func47, Tryz.ntmps47
    go_wp2_with fail
    refine (HKO.out _ HS.out).mono ?_
    rintro e w1 ⟨rfl, hb1⟩
    have HB1 := Stow.mk (HB.out.trans (hb1.mono HB.out.size))
    clear hb1
    go_wp2_with fail
    refine bodyPost_ret (results_tmp2 rfl _ _ _) rfl ?_
    exact ⟨none, 0, rfl, nvr_nil _, HB1.out⟩
end Go.Proofs.YtfbhdkkmcfnghaaGreat
end

section
namespace Go.Proofs.YtfbhdkkmcfnghaaGreat

/-- A window: its node, its greatest number, its numbers. -/
structure Wi where
  n : Int
  h : Int
  s : List Int

namespace Dd
/-- The place of a node's window. -/
def pl (L : List Wi) (node : Int) : Option Nat := L.findIdx? fun w => w.n == node
def ins (x : Int) (s : List Int) : List Int := s.filter (· < x) ++ x :: s.filter (x < ·)
def high (w : Wi) (x : Int) : Wi := ⟨w.n, x, w.s.filter (x - 128 < ·) ++ [x]⟩
def low (w : Wi) (x : Int) : Wi := ⟨w.n, w.h, ins x w.s⟩
/-- What a number does to its window: another window, or none. -/
def step (w : Wi) (x : Int) : Option Wi := if w.h < x then some (high w x) else if 128 ≤ w.h - x ∨ x ∈ w.s then none else some (low w x)
def bad (node x : Int) : Bool := decide (node < 0) || decide (8 ≤ node) || decide (x < 0) || decide (1099511627776 < x)
def fresh (L : List Wi) (node x : Int) : List Wi × Bool :=
  if bad node x then (L, false) else
  match pl L node with
  | none => (L ++ [⟨node, x, [x]⟩], true)
  | some i => match L[i]? with
    | none => (L, false)
    | some w => match step w x with
      | none => (L, false)
      | some w' => (L.set i w', true)
def has (L : List Wi) (node x : Int) : Bool :=
  match pl L node with
  | none => false
  | some i => match L[i]? with
    | none => false
    | some w => w.s.contains x

/-- What all windows are that came of numbers. -/
structure OkW (w : Wi) : Prop where
  n0 : 0 ≤ w.n
  n1 : w.n < 8
  h0 : 0 ≤ w.h
  h1 : w.h ≤ 1099511627776
  asc : w.s.Pairwise (· < ·)
  top : w.h ∈ w.s
  le : ∀ x ∈ w.s, x ≤ w.h
  near : ∀ x ∈ w.s, w.h - x < 128
  pos : ∀ x ∈ w.s, 0 ≤ x
structure Ok (L : List Wi) : Prop where
  each : ∀ w ∈ L, OkW w
  apart : L.Pairwise fun a b => a.n ≠ b.n

theorem Ok.nil : Ok [] := ⟨by simp, by simp⟩

theorem asc_len : ∀ {s : List Int} {a b : Int}, s.Pairwise (· < ·) → (∀ x ∈ s, a ≤ x ∧ x ≤ b) → (s.length : Int) ≤ max 0 (b - a + 1)
  | [], a, b, _, _ => by simp; omega
  | x :: t, a, b, hp, hb => by
    have h1 := List.pairwise_cons.1 hp
    have h2 := hb x (by simp)
    have := asc_len (s := t) (a := x + 1) (b := b) h1.2 fun y hy => ⟨h1.1 y hy, (hb y (by simp [hy])).2⟩
    simp only [List.length_cons]
    omega
theorem OkW.len {w : Wi} (h : OkW w) : 1 ≤ w.s.length ∧ w.s.length ≤ 128 := by
  have := asc_len h.asc (a := w.h - 127) (b := w.h) fun x hx => ⟨by have := h.near x hx; omega, h.le x hx⟩
  have h1 := List.length_pos_of_mem h.top
  omega

theorem pl_none {L : List Wi} {node : Int} (h : pl L node = none) : ∀ w ∈ L, w.n ≠ node := by
  unfold pl at h
  rw [List.findIdx?_eq_none_iff] at h
  intro w hw
  simpa using h w hw
theorem pl_some {L : List Wi} {node : Int} {i : Nat} (h : pl L node = some i) : ∃ hi : i < L.length, L[i].n = node ∧ ∀ j (hj : j < i), (L[j]'(by omega)).n ≠ node := by
  unfold pl at h
  rw [List.findIdx?_eq_some_iff_getElem] at h
  obtain ⟨hi, h1, h2⟩ := h
  exact ⟨hi, by simpa using h1, fun j hj => by simpa using h2 j hj⟩

theorem mem_ins {x y : Int} {s : List Int} : y ∈ ins x s ↔ y = x ∨ (y ∈ s ∧ y ≠ x) := by
  unfold ins
  simp only [List.mem_append, List.mem_cons, List.mem_filter, decide_eq_true_eq]
  constructor
  · rintro (⟨h1, h2⟩ | rfl | ⟨h1, h2⟩)
    · exact .inr ⟨h1, by omega⟩
    · exact .inl rfl
    · exact .inr ⟨h1, by omega⟩
  · rintro (rfl | ⟨h1, h2⟩)
    · exact .inr (.inl rfl)
    · rcases Int.lt_or_gt_of_ne h2 with h | h
      · exact .inl ⟨h1, h⟩
      · exact .inr (.inr ⟨h1, h⟩)
theorem asc_ins {x : Int} {s : List Int} (h : s.Pairwise (· < ·)) : (ins x s).Pairwise (· < ·) := by
  unfold ins
  rw [List.pairwise_append]
  refine ⟨h.filter _, List.pairwise_cons.2 ⟨fun y hy => by simp at hy; exact hy.2, h.filter _⟩, fun a ha b hb => ?_⟩
  simp at ha hb
  omega
theorem OkW.high {w : Wi} {x : Int} (h : OkW w) (hx : w.h < x) (hm : x ≤ 1099511627776) : OkW (high w x) := by
  have hle := h.le
  have h0 := h.h0
  refine ⟨h.n0, h.n1, by simp [Dd.high]; omega, hm, ?_, by simp [Dd.high], ?_, ?_, ?_⟩
  · unfold Dd.high
    simp only
    rw [List.pairwise_append]
    refine ⟨h.asc.filter _, by simp, fun a ha b hb => ?_⟩
    simp at ha hb
    have := hle a ha.1
    omega
  all_goals
    intro y hy
    simp only [Dd.high, List.mem_append, List.mem_filter, decide_eq_true_eq, List.mem_singleton] at hy ⊢
    rcases hy with hy | hy
    · have := hle y hy.1
      have := h.pos y hy.1
      omega
    · omega
theorem OkW.low {w : Wi} {x : Int} (h : OkW w) (h0 : 0 ≤ x) (hx : ¬ w.h < x) (hn : ¬ 128 ≤ w.h - x) : OkW (low w x) := by
  refine ⟨h.n0, h.n1, h.h0, h.h1, asc_ins h.asc, ?_, ?_, ?_, ?_⟩
  · unfold Dd.low
    simp only
    rw [mem_ins]
    have := h.top
    by_cases e : w.h = x
    · exact .inl e
    · exact .inr ⟨this, e⟩
  all_goals
    intro y hy
    have hy' : y = x ∨ (y ∈ w.s ∧ y ≠ x) := mem_ins.1 hy
    have e : (Dd.low w x).h = w.h := rfl
    try rw [e]
    clear e hy
    rcases hy' with rfl | ⟨hy, _⟩
    · omega
    · have a := h.le y hy
      have b := h.near y hy
      have c := h.pos y hy
      omega
theorem OkW.step {w w' : Wi} {x : Int} (h : OkW w) (h0 : 0 ≤ x) (hm : x ≤ 1099511627776) (hs : step w x = some w') : OkW w' ∧ w'.n = w.n := by
  unfold Dd.step at hs
  split at hs
  · simp at hs; subst hs; exact ⟨h.high (by assumption) hm, rfl⟩
  · split at hs
    · simp at hs
    · rename_i h1 h2
      simp at hs; subst hs
      exact ⟨h.low h0 h1 (by omega), rfl⟩
theorem bad_no {node x : Int} (h : bad node x = false) : 0 ≤ node ∧ node < 8 ∧ 0 ≤ x ∧ x ≤ 1099511627776 := by
  simp [bad] at h
  omega
theorem Ok.fresh {L : List Wi} {node x : Int} (h : Ok L) : Ok (fresh L node x).1 := by
  unfold Dd.fresh
  cases hb : bad node x
  · have hn := bad_no hb
    simp only [Bool.false_eq_true, if_false]
    split
    · rename_i hp
      have hp := pl_none hp
      refine ⟨fun w hw => ?_, ?_⟩
      · rcases List.mem_append.1 hw with hw | hw
        · exact h.each w hw
        · simp at hw; subst hw
          exact ⟨hn.1, hn.2.1, hn.2.2.1, hn.2.2.2, by simp, by simp, by simp, by simp, by simp <;> omega⟩
      · rw [List.pairwise_append]
        refine ⟨h.apart, by simp, fun a ha b hb => ?_⟩
        simp at hb; subst hb
        exact hp a ha
    · rename_i i hp
      obtain ⟨hi, h1, h2⟩ := pl_some hp
      rw [List.getElem?_eq_getElem hi]
      simp only
      cases hs : step L[i] x with
      | none => exact h
      | some w' =>
        have hw := (h.each _ (List.getElem_mem hi)).step hn.2.2.1 hn.2.2.2 hs
        refine ⟨fun w hm => ?_, ?_⟩
        · rcases List.mem_or_eq_of_mem_set hm with hm | rfl
          · exact h.each w hm
          · exact hw.1
        · rw [List.pairwise_iff_getElem]
          intro a b ha hb hab
          simp only [List.getElem_set]
          simp only [List.length_set] at ha hb
          have hq := List.pairwise_iff_getElem.1 h.apart
          split
          · rename_i e; subst e
            rw [if_neg (by omega), hw.2]
            exact hq _ _ hi hb hab
          · split
            · rename_i e; subst e
              rw [hw.2]
              exact hq _ _ ha hi hab
            · exact hq _ _ ha hb hab
  · simpa using h
/-- So many windows at most. -/
theorem nodes_len : ∀ (k : Nat) {L : List Wi}, L.Pairwise (fun a b => a.n ≠ b.n) → (∀ w ∈ L, 0 ≤ w.n ∧ w.n < k) → L.length ≤ k
  | 0, L, _, h => by
    cases L with
    | nil => simp
    | cons w t => have := h w (by simp); omega
  | k + 1, L, hp, h => by
    have ih := nodes_len k (L := L.filter fun w => w.n != (k : Int)) (hp.filter _) fun w hw => by
      have hw := List.mem_filter.1 hw
      have h1 := h w hw.1
      have h2 : w.n ≠ (k : Int) := by simpa using hw.2
      omega
    have : L.length ≤ (L.filter fun w => w.n != (k : Int)).length + 1 := by
      clear ih h
      induction L with
      | nil => simp
      | cons w t iht =>
        have hp' := List.pairwise_cons.1 hp
        by_cases hw : w.n = (k : Int)
        · have : t.filter (fun w => w.n != (k : Int)) = t := by
            rw [List.filter_eq_self]
            intro a ha
            have := hp'.1 a ha
            simp; omega
          simp [hw, this]
        · have := iht hp'.2
          simp [hw]; omega
    omega
theorem Ok.len {L : List Wi} (h : Ok L) : L.length ≤ 8 := nodes_len 8 h.apart fun w hw => ⟨(h.each w hw).n0, (h.each w hw).n1⟩
end Dd
end Go.Proofs.YtfbhdkkmcfnghaaGreat
end
