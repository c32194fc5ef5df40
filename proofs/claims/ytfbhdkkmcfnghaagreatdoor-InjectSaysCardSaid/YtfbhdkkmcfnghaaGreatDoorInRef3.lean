/- Walks of the reference's Set, Without and Strip. Condition: a slice's own. -/
import Derived.Test.YtfbhdkkmcfnghaaGreatDoorInRefMath
import Derived.Test.YtfbhdkkmcfnghaaGreatDoorInState
import Derived.Test.YtfbhdkkmcfnghaaGreatDoorInRef2
import Derived.Test.YtfbhdkkmcfnghaaGreatDoorTsRefRead
import Derived.Test.YtfbhdkkmcfnghaaGreatDoorTsPut
import Derived.Test.YtfbhdkkmcfnghaaGreatDoorHeadRef
namespace Go.Proofs.YtfbhdkkmcfnghaaGreatDoor
open Go.RowKit
set_option linter.unusedVariables false

set_option maxHeartbeats 2000000 in
set_option maxRecDepth 100000 in
theorem refHdSet_any (n v : List UInt8) (A : Option Addr) (cap : Nat) (L : List Hd) (w : World) (hS : SlR w 2 (.slice A L.length cap) (L.map Hd.cells)) (hn : L.length ≤ 1048576) :
    Calls Tryz.prog 42 #[.slice A L.length cap, .string (bs n), .string (bs v)] w fun e w' => ∃ u, e = .returned u ∧ ORow w' w.heap.size u (hdSet L n v) ∧ Below w.heap.size w w' := by
  have HS := Stow.mk hS
  have HNX := Stow.mk (fun i (h : i < L.length) => setF_next n v h)
  have HFU := Stow.mk (setF_full n v L)
  have HFL := Stow.mk (fun i => setF_len n v (L.take i))
  have K1 : Stow (∀ x : Hd, ∀ u ∈ [Value.string (bs x.1), .string (bs x.2)], u.oneCell' = true) := ⟨by intro x u hu; simp at hu; rcases hu with rfl | rfl <;> rfl⟩
  clear hS
  go_enter Tryz.func42, Tryz.ntmps42
  go_wp2_with fail
  go_loopw [7, 8, 9] (fun o m c wr => ∃ i : Nat, c = .int .i64 (i : Int) ∧ i ≤ L.length ∧ ∃ (O : List Hd) (b : Bool), Stow (setF n v (L.take i) = (O, b)) ∧ m = .bool b ∧ Stow (ORow wr w.heap.size o O) ∧ Stow (Below w.heap.size w wr)) (fun _ _ c _ => L.length - (intOf c).toNat)
  case atStart => exact ⟨0, rfl, by omega, [], false, ⟨rfl⟩, rfl, ⟨ORow.nil _ _⟩, ⟨Below.self _⟩⟩
  case round =>
    obtain ⟨i, rfl, hi, O, b, HF, rfl, HO, HB⟩ := hrel
    obtain ⟨A1, c1, rfl⟩ := HO.out.form
    have hol : O.length ≤ L.length := by have := HFL.out i; rw [HF.out] at this; simp at this; omega
    have K8 : Stow ((O.length + 1) * 32 ≤ 140737488355328 ∧ O.length + 1 ≤ maxLen) := ⟨by omega, by unfold maxLen; omega⟩
    by_cases hlt : i < L.length
    · have hSW := SlR.keep HS.out HB.out
      obtain ⟨bb, off, rfl, hblt, _⟩ := HS.out.open (by simp; omega)
      have hsp := (hSW.cells (i := i) (x := L[i].cells) (by rw [List.getElem?_map, List.getElem?_eq_getElem hlt]; rfl)).2
      have hnx := HNX.out i hlt
      obtain ⟨x, hx⟩ : ∃ x, L[i] = x := ⟨_, rfl⟩
      rw [hx] at hsp hnx
      rw [HF.out] at hnx
      obtain ⟨xn, xv⟩ := x
      have HLO := Stow.mk hsp
      have q0 := HLO.out 0 (.string (bs xn)) rfl
      simp only [Nat.add_zero] at q0
      have hii : (i : Int) < L.length := by omega
      have hi0 : (0 : Int) ≤ i := by omega
      obtain ⟨t, ht⟩ : ∃ t, (xn == n) = t := ⟨_, rfl⟩
      clear hx hsp hSW
      cases t
      · have HN : Stow (setF n v (L.take (i + 1)) = (O ++ [(xn, xv)], b)) := ⟨by rw [hnx]; unfold setStep; rw [if_neg (by simp [ht])]⟩
        have hne : (xn != n) = true := by simp [bne, ht]
        clear hnx
        go_wp2_with (first
          | (refine wpList_load_mid rfl 64 (.tmp 26) rfl bb (off + i * 2) rfl [.string (bs xn), .string (bs xv)] _ HLO.out Tryz.underlying64 rfl (by kernel_rfl) ?_)
          | (at_builtin; refine wpList_append_elem_form wr [.string (bs xn), .string (bs xv)] _ rfl (.tmp 23) (.tmp 28) 22 rfl w.heap.size 64 _ 2 32 Tryz.underlying22 o_info _ _ _ HO.out rfl _ rfl rfl rfl (by decide) rfl (K1.out (xn, xv)) K8.out.1 K8.out.2 HB.out.size ?_; intro A4 c4 w4 h4 hg4 hb4 hs4))
        refine ⟨⟨i + 1, by simp, by omega, O ++ [(xn, xv)], b, HN, rfl, ⟨?_⟩, ⟨HB.out.trans hb4⟩⟩, by simp [intOf]; omega⟩
        unfold ORow
        rw [List.length_append, List.flatMap_append]
        simpa [Hd.cells] using h4
      · have hne : (xn != n) = false := by simp [bne, ht]
        cases b
        · have HN : Stow (setF n v (L.take (i + 1)) = (O ++ [(n, v)], true)) := ⟨by rw [hnx]; unfold setStep; rw [if_pos ht]; rfl⟩
          clear hnx
          go_wp2_with (at_builtin; refine wpList_append_elem_form wr [.string (bs n), .string (bs v)] _ rfl (.tmp 32) (.tmp 36) 22 rfl w.heap.size 64 _ 2 32 Tryz.underlying22 o_info _ _ _ HO.out rfl _ rfl rfl rfl (by decide) rfl (K1.out (n, v)) K8.out.1 K8.out.2 HB.out.size ?_; intro A4 c4 w4 h4 hg4 hb4 hs4)
          refine ⟨⟨i + 1, by simp, by omega, O ++ [(n, v)], true, HN, rfl, ⟨?_⟩, ⟨HB.out.trans hb4⟩⟩, by simp [intOf]; omega⟩
          unfold ORow
          rw [List.length_append, List.flatMap_append]
          simpa [Hd.cells] using h4
        · have HN : Stow (setF n v (L.take (i + 1)) = (O, true)) := ⟨by rw [hnx]; unfold setStep; rw [if_pos ht]; rfl⟩
          clear hnx
          go_wp2_with fail
          exact ⟨⟨i + 1, by simp, by omega, O, true, HN, rfl, HO, HB⟩, by simp [intOf]; omega⟩
    · obtain rfl : i = L.length := by omega
      have hni : ¬ ((L.length : Int) < L.length) := by omega
      have HFF := HF.out
      rw [List.take_length] at HFF
      have HFU := HFU.out
      rw [HFF] at HFU
      cases b
      · have HE : Stow (hdSet L n v = O ++ [(n, v)]) := ⟨HFU.symm⟩
        clear HFF HFU
        go_wp2_with (at_builtin; refine wpList_append_elem_form wr [.string (bs n), .string (bs v)] _ rfl (.tmp 40) (.tmp 44) 22 rfl w.heap.size 64 _ 2 32 Tryz.underlying22 o_info _ _ _ HO.out rfl _ rfl rfl rfl (by decide) rfl (K1.out (n, v)) K8.out.1 K8.out.2 HB.out.size ?_; intro A4 c4 w4 h4 hg4 hb4 hs4)
        go_ret
        refine ⟨_, rfl, ?_, HB.out.trans hb4⟩
        rw [HE.out]
        unfold ORow
        rw [List.length_append, List.flatMap_append]
        simpa [Hd.cells] using h4
      · have HE : Stow (hdSet L n v = O) := ⟨HFU.symm⟩
        clear HFF HFU
        go_wp2_with fail
        go_ret
        exact ⟨_, rfl, by rw [HE.out]; exact HO.out, HB.out⟩

set_option maxHeartbeats 2000000 in
set_option maxRecDepth 100000 in
theorem refWithout_any (N : List (List UInt8)) (NA : Option Addr) (nc : Nat) (A : Option Addr) (cap : Nat) (L : List Hd) (w : World) (hN : SlR w 1 (.slice NA N.length nc) (N.map fun x => [Value.string (bs x)])) (hS : SlR w 2 (.slice A L.length cap) (L.map Hd.cells)) (hn : L.length ≤ 1048576) (hnn : N.length ≤ 1048576) :
    Calls Tryz.prog 47 #[.slice A L.length cap, .slice NA N.length nc] w fun e w' => ∃ v, e = .returned v ∧ ORow w' w.heap.size v (hdKeep (inNames N) L) ∧ Below w.heap.size w w' := by
  have HS := Stow.mk hS
  have HN := Stow.mk hN
  have HNX := Stow.mk (fun i (h : i < L.length) => keep_next (inNames N) h)
  have HKX := Stow.mk (fun x k (h : k < N.length) => names_next N x h)
  have HFL := Stow.mk (fun i => hdKeep_len (inNames N) (L.take i))
  have K1 : Stow (∀ x : Hd, ∀ u ∈ [Value.string (bs x.1), .string (bs x.2)], u.oneCell' = true) := ⟨by intro x u hu; simp at hu; rcases hu with rfl | rfl <;> rfl⟩
  clear hS hN
  go_enter Tryz.func47, Tryz.ntmps47
  go_wp2_with fail
  go_loopw [5, 6, 7, 8] (fun o c _ _ wr => ∃ i : Nat, c = .int .i64 (i : Int) ∧ i ≤ L.length ∧ Stow (ORow wr w.heap.size o (hdKeep (inNames N) (L.take i))) ∧ Stow (Below w.heap.size w wr)) (fun _ c _ _ _ => L.length - (intOf c).toNat)
  case atStart => exact ⟨0, rfl, by omega, ⟨ORow.nil _ _⟩, ⟨Below.self _⟩⟩
  case round =>
    obtain ⟨i, rfl, hi, HO, HB⟩ := hrel
    obtain ⟨A1, c1, rfl⟩ := HO.out.form
    have hol := HFL.out i
    rw [List.length_take] at hol
    by_cases hlt : i < L.length
    · obtain ⟨bb, off, rfl, hblt, _⟩ := HS.out.open (by simp; omega)
      have hsp := fun W (h : Below w.heap.size w W) => ((HS.out.keep h).cells (i := i) (x := L[i].cells) (by rw [List.getElem?_map, List.getElem?_eq_getElem hlt]; rfl)).2
      have hnx := HNX.out i hlt
      obtain ⟨x, hx⟩ : ∃ x, L[i] = x := ⟨_, rfl⟩
      rw [hx] at hsp hnx
      obtain ⟨xn, xv⟩ := x
      have HLO := Stow.mk hsp
      have HNX2 := Stow.mk hnx
      obtain ⟨O, hO⟩ : ∃ O, hdKeep (inNames N) (L.take i) = O := ⟨_, rfl⟩
      rw [hO] at HO HNX2 hol
      rw [hO]
      have K8 : Stow ((O.length + 1) * 32 ≤ 140737488355328 ∧ O.length + 1 ≤ maxLen) := ⟨by omega, by unfold maxLen; omega⟩
      have hii : (i : Int) < L.length := by omega
      have hi0 : (0 : Int) ≤ i := by omega
      clear hx hsp hnx hO
      go_wp2_with fail
      go_loopw [7, 8] (fun g c wr2 => ∃ k : Nat, c = .int .i64 (k : Int) ∧ k ≤ N.length ∧ ∃ b : Bool, g = .bool b ∧ Stow (b = inNames (N.take k) xn) ∧ Stow (ORow wr2 w.heap.size (.slice A1 O.length c1) O) ∧ Stow (Below w.heap.size w wr2)) (fun _ c _ => N.length - (intOf c).toNat)
      case atStart => exact ⟨0, rfl, by omega, false, rfl, ⟨rfl⟩, HO, HB⟩
      case round =>
        obtain ⟨k, rfl, hk, b, rfl, HBK, HO, HB⟩ := hrel
        by_cases hkt : k < N.length
        · obtain ⟨nb, no, rfl, hnlt, _⟩ := HN.out.open (by simp; omega)
          have q0 := (HLO.out _ HB.out) 0 (.string (bs xn)) rfl
          have q1 := (((HN.out.keep HB.out).cells (i := k) (x := [Value.string (bs N[k])]) (by rw [List.getElem?_map, List.getElem?_eq_getElem hkt]; rfl)).2) 0 (.string (bs N[k])) rfl
          have hkx := HKX.out xn k hkt
          rw [← HBK.out] at hkx
          obtain ⟨y, hy⟩ : ∃ y, N[k] = y := ⟨_, rfl⟩
          rw [hy] at q1 hkx
          obtain ⟨t, ht⟩ : ∃ t, (y == xn) = t := ⟨_, rfl⟩
          have ht2 : (xn == y) = t := by rw [← ht]; exact BEq.comm
          rw [ht2] at hkx
          have HKN := Stow.mk hkx
          have hkk : (k : Int) < N.length := by omega
          have hk0 : (0 : Int) ≤ k := by omega
          simp only [Nat.add_zero, Nat.mul_one] at q0 q1
          clear hkx ht2 hy
          cases b
          · go_wp2_with fail
            go_region
            all_goals
              go_wp2_with fail
              exact ⟨⟨k + 1, rfl, by omega, t, rfl, ⟨by rw [HKN.out]; rfl⟩, ⟨HO.out.kept (Below.drew (Below.self _))⟩, ⟨Below.drew HB.out⟩⟩, by simp [intOf]; omega⟩
          · go_wp2_with fail
            go_region
            all_goals
              go_wp2_with fail
              exact ⟨⟨k + 1, rfl, by omega, true, rfl, ⟨by rw [HKN.out]; rfl⟩, ⟨HO.out.kept (Below.drew (Below.self _))⟩, ⟨Below.drew HB.out⟩⟩, by simp [intOf]; omega⟩
        · obtain rfl : k = N.length := by omega
          have hkk : ¬ ((N.length : Int) < N.length) := by omega
          have HBK2 := HBK.out
          rw [List.take_length] at HBK2
          cases b
          · have HE : Stow (hdKeep (inNames N) (L.take (i + 1)) = O ++ [(xn, xv)]) := ⟨by rw [HNX2.out, ← HBK2]; rfl⟩
            clear HBK2
            have HL1 := Stow.mk (HLO.out _ HB.out)
            go_wp2_with (first
              | (refine wpList_load_mid rfl 64 (.tmp 39) rfl bb (off + i * 2) rfl [.string (bs xn), .string (bs xv)] _ HL1.out Tryz.underlying64 rfl (by kernel_rfl) ?_)
              | (at_builtin; refine wpList_append_elem_form _ [.string (bs xn), .string (bs xv)] _ rfl (.tmp 36) (.tmp 41) 22 rfl w.heap.size 64 _ 2 32 Tryz.underlying22 o_info _ _ _ HO.out rfl _ rfl rfl rfl (by decide) rfl (K1.out (xn, xv)) K8.out.1 K8.out.2 HB.out.size ?_; intro A4 c4 w4 h4 hg4 hb4 hs4))
            refine ⟨⟨i + 1, by simp, by omega, ⟨?_⟩, ⟨HB.out.trans hb4⟩⟩, by simp [intOf]; omega⟩
            rw [HE.out]
            unfold ORow
            rw [List.length_append, List.flatMap_append]
            simpa [Hd.cells] using h4
          · have HE : Stow (hdKeep (inNames N) (L.take (i + 1)) = O) := ⟨by rw [HNX2.out, ← HBK2]; simp⟩
            clear HBK2
            go_wp2_with fail
            exact ⟨⟨i + 1, by simp, by omega, ⟨by rw [HE.out]; exact HO.out⟩, HB⟩, by simp [intOf]; omega⟩
    · obtain rfl : i = L.length := by omega
      have hni : ¬ ((L.length : Int) < L.length) := by omega
      rw [List.take_length] at HO
      rw [List.take_length]
      go_wp2_with fail
      go_ret
      exact ⟨_, rfl, HO.out, HB.out⟩

set_option maxHeartbeats 1000000 in
set_option maxRecDepth 100000 in
theorem refStrip_any (A : Option Addr) (cap : Nat) (L : List Hd) (w : World) (hS : SlR w 2 (.slice A L.length cap) (L.map Hd.cells)) (hn : L.length ≤ 1048576) :
    Calls Tryz.prog 16 #[.slice A L.length cap] w fun e w' => ∃ v, e = .returned v ∧ ORow w' w.heap.size v (In.strip L) ∧ Below w.heap.size w w' := by
  have HS := Stow.mk hS
  clear hS
  go_enter Tryz.func16, Tryz.ntmps16
  go_wp2_with fail
  refine (refWithout_any [In.tp, In.ts] (some ⟨w.heap.size, 0, none⟩) 2 A cap L _ (names_made w [In.tp, In.ts] _ rfl (by unfold maxLen; simp)) (HS.out.alloc _) hn (by simp)).mono ?_
  rintro e w1 ⟨v, rfl, hr, hb⟩
  go_wp2_with fail
  go_ret
  exact ⟨v, rfl, hr.base (by simp), Below.call (Below.alloc' (Below.self _) _) hb⟩
def sliceLen : Value → Nat | .slice _ n _ => n | _ => 0
theorem refFrom_results (W : World) (g : Nat) (a b c d : Value) (n : Int) (tmps : Array Value) (hH : Held W g [a, b, c, d]) (h2 : tmps[2]?.getD undef = .pointer (some ⟨g, 0, none⟩)) (h3 : tmps[3]?.getD undef = .int .i64 n) :
    (results Tryz.f13 tmps).run Tryz.prog W = .ok (.tuple #[.agg #[a, b, c, d], .int .i64 n]) W := by
  have c0 := hH.cell (i := 0) rfl
  have c1 := hH.cell (i := 1) rfl
  have c2 := hH.cell (i := 2) rfl
  have c3 := hH.cell (i := 3) rfl
  simp [results, Tryz.results13, go_sem, h2, h3, c0, c1, c2, c3]

set_option maxHeartbeats 1000000 in
set_option maxRecDepth 100000 in
theorem refFrom_any (L : List Hd) (A : Option Addr) (cap : Nat) (w : World) (hS : SlR w 2 (.slice A L.length cap) (L.map Hd.cells)) (hn : L.length ≤ 1048576) (hl : ∀ m ∈ L, m.2.length ≤ 140737488355328) :
    Calls Tryz.prog 13 #[.slice A L.length cap] w fun e w' => e = .returned (.tuple #[(In.from_ L).1.val, .int .i64 ((In.from_ L).2 : Nat)]) ∧ Below w.heap.size w w' := by
  have HS := Stow.mk hS
  have K1 := fun W h => refHdGet_any In.tp A cap L W h (by omega)
  simp only [← tp_bs] at K1
  have hlen := hdGet_len (n := In.tp) hl
  unfold In.from_
  obtain ⟨o, ho⟩ : ∃ o, hdGet L In.tp = o := ⟨_, rfl⟩
  simp only [ho] at K1 hlen ⊢
  have HK1 := Stow.mk K1
  clear K1 hS ho
  have hM := Held.made w [.int .u64 0, .int .u64 0, .int .u64 0, .int .i64 0] 27
  have HM : Stow (∀ W, Below (w.alloc (.cells #[.int .u64 0, .int .u64 0, .int .u64 0, .int .i64 0] 27)).heap.size (w.alloc (.cells #[.int .u64 0, .int .u64 0, .int .u64 0, .int .i64 0] 27)) W → Held W w.heap.size [.int .u64 0, .int .u64 0, .int .u64 0, .int .i64 0] ∧ Below w.heap.size w W) := ⟨fun W hb => ⟨hM.kept hb, Below.call (Below.alloc' (Below.self _) _) hb⟩⟩
  clear hM
  cases o with
  | none =>
    simp only [Option.getD_none, Option.isSome_none] at HK1 ⊢
    unfold Pr.val In.zero
    go_enter Tryz.func13, Tryz.ntmps13
    go_wp2_with fail
    refine (HK1.out _ (HS.out.alloc _)).mono ?_
    rintro e w1 ⟨rfl, hb1⟩
    obtain ⟨hH, hB⟩ := HM.out w1 hb1
    have HH := Stow.mk hH
    have HB := Stow.mk hB
    have r0 := Held.cell hH (i := 0) rfl
    have r1 := Held.cell hH (i := 1) rfl
    have r2 := Held.cell hH (i := 2) rfl
    have r3 := Held.cell hH (i := 3) rfl
    have f0 := Held.free hH 0
    have f1 := Held.free hH 1
    have f2 := Held.free hH 2
    have f3 := Held.free hH 3
    have hlt := Held.lt hH
    clear hb1 hH hB
    go_wp2_with fail
    refine bodyPost_ret (refFrom_results _ w.heap.size (.int .u64 0) (.int .u64 0) (.int .u64 0) (.int .i64 0) 9 _ ((((HH.out.set 0 _).set 1 _).set 2 _).set 3 _) rfl rfl) rfl ?_
    exact ⟨rfl, below_set4 HB.out (Nat.le_refl _) _ _ _ _⟩
  | some t =>
    simp only [Option.getD_some, Option.isSome_some] at HK1 hlen ⊢
    have K2 := fun W => refParRead_any t W (by omega)
    obtain ⟨z, hz⟩ : ∃ z, In.prRead t = z := ⟨_, rfl⟩
    simp only [hz] at K2 ⊢
    have HK2 := Stow.mk K2
    clear K2 hz
    obtain ⟨⟨hi, lo, sp, fl⟩, er⟩ := z
    unfold Pr.val at *
    simp only at HK2 ⊢
    go_enter Tryz.func13, Tryz.ntmps13
    go_wp2_with fail
    refine (HK1.out _ (HS.out.alloc _)).mono ?_
    rintro e w1 ⟨rfl, hb1⟩
    obtain ⟨hH, hB⟩ := HM.out w1 hb1
    have HH := Stow.mk hH
    have HB := Stow.mk hB
    clear hb1 hH hB
    go_wp2_with fail
    refine (HK2.out _).mono ?_
    rintro e w2 ⟨rfl, hb2⟩
    have HH2 := Stow.mk (HH.out.kept hb2)
    have HB2 : Stow (Below w.heap.size w w2) := ⟨HB.out.trans (hb2.mono HB.out.size)⟩
    clear hb2
    have hH := HH2.out
    have r0 := Held.cell hH (i := 0) rfl
    have r1 := Held.cell hH (i := 1) rfl
    have r2 := Held.cell hH (i := 2) rfl
    have r3 := Held.cell hH (i := 3) rfl
    have f0 := Held.free hH 0
    have f1 := Held.free hH 1
    have f2 := Held.free hH 2
    have f3 := Held.free hH 3
    have hlt := Held.lt hH
    clear hH
    go_wp2_with fail
    refine bodyPost_ret (refFrom_results _ w.heap.size (.int .u64 hi) (.int .u64 lo) (.int .u64 sp) (.int .i64 fl) er _ ((((HH2.out.set 0 _).set 1 _).set 2 _).set 3 _) rfl rfl) rfl ?_
    exact ⟨rfl, below_set4 HB2.out (Nat.le_refl _) _ _ _ _⟩

set_option maxHeartbeats 2000000 in
set_option maxRecDepth 100000 in
theorem refInto_any (L : List Hd) (A : Option Addr) (cap : Nat) (p : Pr) (w : World) (hS : SlR w 2 (.slice A L.length cap) (L.map Hd.cells)) (hn : L.length ≤ 1000) (hl : ∀ m ∈ L, m.2.length ≤ 400) (hf : In.Pr.fits p) :
    Calls Tryz.prog 11 #[.slice A L.length cap, p.val] w fun e w' => ∃ v, e = .returned (.tuple #[v, .int .i64 (In.prErr p : Nat)]) ∧ ORow w' w.heap.size v (In.put L p) ∧ Below w.heap.size w w' := by
  have HS := Stow.mk hS
  have HX := in_into_box w p
  have K1 := fun W => refParWrite_any p W hf
  obtain ⟨er, he⟩ : ∃ er, In.prErr p = er := ⟨_, rfl⟩
  by_cases h0 : er = 0
  rotate_left
  · have HP : Stow (In.put L p = []) := ⟨by unfold In.put; rw [if_neg (by rw [he]; exact h0)]⟩
    have h0i : ((er : Int) != 0) = true := by rw [bne_iff_ne]; omega
    rw [he] at K1
    have HK1 := Stow.mk K1
    have HE := Stow.mk he
    clear K1 hS hf he
    obtain ⟨hi, lo, sp, fl⟩ := p
    unfold Pr.val
    simp only at HK1 HX ⊢
    go_enter Tryz.func11, Tryz.ntmps11
    go_wp2_with fail
    refine (HK1.out _).mono ?_
    rintro e w1 ⟨rfl, hb1⟩
    obtain ⟨hH, hB⟩ := HX.out w1 hb1
    have HB1 := Stow.mk hB
    clear hb1 hH hB
    go_wp2_with fail
    go_ret2
    exact ⟨.slice none 0 0, by rw [HE.out]; rfl, by rw [HP.out]; exact ORow.nil _ _, HB1.out⟩
  subst h0
  have hpt : In.prWrite p = In.prText p := by unfold In.prWrite; rw [if_pos he]
  have HP : Stow (In.put L p = hdSet (hdSet L In.tp (In.prText p)) In.ts (In.stText L p.sp)) := ⟨by unfold In.put; rw [if_pos he]; rfl⟩
  rw [he, hpt] at K1
  obtain ⟨T, hT⟩ : ∃ T, In.prText p = T := ⟨_, rfl⟩
  rw [hT] at K1 HP
  have h3 := hf.sp
  have K2 := fun W h => refHdSet_any In.tp T A cap L W h (by omega)
  obtain ⟨S, hSt⟩ : ∃ S, In.stText L p.sp = S := ⟨_, rfl⟩
  rw [hSt] at HP
  have hle := hdSet_len L In.tp T
  obtain ⟨Y, hY⟩ : ∃ Y, hdSet L In.tp T = Y := ⟨_, rfl⟩
  rw [hY] at K2 HP hle
  have K4 := fun B c W h => refHdSet_any In.ts S B c Y W h (by omega)
  simp only [← tp_bs] at K2
  simp only [← ts_bs] at K4
  -- the members
  obtain ⟨M, hM⟩ : ∃ M, In.stMembers L p.sp = M := ⟨_, rfl⟩
  have hck : Ts.check M = 0 := by rw [← hM]; exact In.members_check L p.sp
  have hme := In.members_eq L p.sp
  rw [hM] at hme
  have hM1 : 1 ≤ M.length := by rw [hme]; simp
  have hT1 : (Ts.text (M.take 1)).length ≤ 64 := by rw [hme]; simp [Ts.text, Ts.word, In.mesh, In.hex_len]
  have HJ0 : Stow (∀ x, In.pick M M.length x = S) := ⟨fun x => by
    rw [← hSt]
    unfold In.stText
    rw [hM]
    obtain ⟨n, hn⟩ : ∃ n, M.length = n + 1 := ⟨M.length - 1, by omega⟩
    rw [hn]
    rfl⟩
  have hold := hdGet_len (n := In.ts) hl
  obtain ⟨old, ho⟩ : ∃ o, (hdGet L In.ts).getD [] = o := ⟨_, rfl⟩
  have KG := fun W h => refHdGet_any In.ts A cap L W h (by omega)
  unfold In.stMembers at hM
  rw [ho] at hM KG hold
  simp only [← ts_bs] at KG
  obtain ⟨r, hr⟩ : ∃ r, Ts.read old = r := ⟨_, rfl⟩
  rw [hr] at hM
  have KR := fun W => tsRefRead_any old W (by omega)
  rw [hr] at KR
  have KP := fun B c W h => tsRefPut_any In.mesh (In.hex 16 p.sp) B c r.1 W h (by decide) (by rw [In.hex_len]; omega)
  have KT := fun W => refSpanText_any _ p.sp rfl W h3
  obtain ⟨X, hXX⟩ : ∃ X, In.hex 16 p.sp = X := ⟨_, rfl⟩
  obtain ⟨q, hq⟩ : ∃ q, Ts.put r.1 In.mesh (In.hex 16 p.sp) = q := ⟨_, rfl⟩
  rw [hq] at hM KP
  subst hM
  rw [hXX] at KP KT
  have hM32 : q.1.length ≤ 32 := (Ts.text_len0 hck).2.1
  have HK1 := Stow.mk K1
  have HK2 := Stow.mk K2
  have HK4 := Stow.mk K4
  have HKG := Stow.mk KG
  have HKR := Stow.mk KR
  have HKP := Stow.mk KP
  have HKT := Stow.mk KT
  have HCK := Stow.mk hck
  have HT1 := Stow.mk hT1
  have HE := Stow.mk he
  clear K1 K2 K4 KG KR KP KT hS hf he hpt hT hSt hY h3 hle hck hme hT1 hold ho hr hXX hq
  obtain ⟨hi, lo, sp, fl⟩ := p
  unfold Pr.val
  simp only at HK1 HX HKT HP ⊢
  go_enter Tryz.func11, Tryz.ntmps11
  go_wp2_with fail
  refine (HK1.out _).mono ?_
  rintro e w1 ⟨rfl, hb1⟩
  obtain ⟨hH1, hB1⟩ := HX.out w1 hb1
  have HH1 := Stow.mk hH1
  have HB1 := Stow.mk hB1
  clear hb1 hH1 hB1
  go_wp2_with fail
  refine (HKG.out _ (HS.out.keep HB1.out)).mono ?_
  rintro e w2 ⟨rfl, hb2⟩
  have HB1 : Stow (Below w.heap.size w w2) := ⟨HB1.out.trans (hb2.mono HB1.out.size)⟩
  have HH1 := Stow.mk (HH1.out.kept hb2)
  clear hb2
  go_wp2_with fail
  refine (HKR.out _).mono ?_
  unfold MembersOf
  rintro e w3 ⟨v3, rfl, hr3, hb3⟩
  obtain ⟨A3, c3, rfl⟩ := hr3.form
  have HB1 : Stow (Below w.heap.size w w3) := ⟨HB1.out.trans (hb3.mono HB1.out.size)⟩
  have HH1 := Stow.mk (HH1.out.kept hb3)
  have HS3 := Stow.mk hr3.slr
  have q2 := HH1.out.cell (i := 2) rfl
  clear hb3 hr3
  go_wp2_with fail
  refine (HKT.out _).mono ?_
  rintro e w4 ⟨rfl, rfl⟩
  go_wp2_with fail
  refine (HKP.out _ _ _ HS3.out).mono ?_
  unfold MembersOf
  rintro e w5 ⟨v5, rfl, hr5, hb5⟩
  obtain ⟨A5, c5, rfl⟩ := hr5.form
  have HB1 : Stow (Below w.heap.size w w5) := ⟨HB1.out.trans (hb5.mono HB1.out.size)⟩
  have HS5 := Stow.mk hr5.slr
  have hc5 : q.1.length ≤ c5 := by
    obtain ⟨_, _, he, hcap, _⟩ := hr5.slr.form
    simp only [Value.slice.injEq, List.length_map] at he hcap
    omega
  clear hb5 hr5 q2
  have KW := Stow.mk (fun (k : Nat) (hk : k ≤ q.1.length) W (h : SlR W 2 (.slice A5 k c5) ((q.1.take k).map Hd.cells)) => by
    have := tsRefWrite_any A5 c5 (q.1.take k) W (by rw [List.length_take, Nat.min_eq_left hk]; exact h) (fun m hm => by have := (Ts.text_len0 (In.take_check HCK.out k)).2.2 m hm; exact ⟨by unfold maxLen; omega, by unfold maxLen; omega⟩)
    rw [List.length_take, Nat.min_eq_left hk] at this
    exact this)
  have KS := Stow.mk (fun (k : Nat) (hk : k ≤ q.1.length) W (hb : Below w5.heap.size w5 W) => show SlR W 2 (.slice A5 k c5) ((q.1.take k).map Hd.cells) from by
    have := (HS5.out.keep hb).take k (by rw [List.length_map]; exact hk)
    rw [← List.map_take] at this
    exact this)
  go_wp2_with fail
  refine (KW.out q.1.length (Nat.le_refl _) _ (KS.out q.1.length (Nat.le_refl _) _ (Below.self _))).mono ?_
  rintro e w6 ⟨rfl, hb6⟩
  have HBW := Stow.mk hb6
  have HLE : Stow (∀ k, k ≤ q.1.length → (Ts.write (q.1.take k)).1.length ≤ 9223372036854775807) := ⟨fun k hk => by
    rw [In.write_take HCK.out]
    have h1 := (Ts.text_len0 (In.take_check HCK.out k)).1
    rw [List.length_take] at h1
    omega⟩
  clear hb6
  go_wp2_with fail
  go_loopw [10, 12] (fun m t wr => ∃ n : Nat, 1 ≤ n ∧ n ≤ q.1.length ∧ m = .slice A5 n c5 ∧ ∃ z : List UInt8, t = .string (bs z) ∧ Stow (z = (Ts.write (q.1.take n)).1) ∧ Stow (∀ x, In.pick q.1 n x = S) ∧ Stow (Below w5.heap.size w5 wr)) (fun m _ _ => sliceLen m)
  case atStart => exact ⟨q.1.length, hM1, Nat.le_refl _, rfl, _, rfl, ⟨by rw [List.take_length]⟩, HJ0, HBW⟩
  case round =>
    obtain ⟨n, hn1, hnq, rfl, z, rfl, HZ, HJ, HB⟩ := hrel
    obtain ⟨k, rfl⟩ : ∃ k, n = k + 1 := ⟨n - 1, by omega⟩
    by_cases h64 : z.length ≤ 64
    · have HZS : Stow (z = S) := ⟨by
        rw [← HJ.out []]
        unfold In.pick
        rw [← HZ.out, if_pos h64]⟩
      have h64i : ¬ ((64 : Int) < z.length) := by omega
      have HB5 := Stow.mk (HB1.out.trans (HB.out.mono HB1.out.size))
      go_wp2_with fail
      refine (HK2.out _ (HS.out.keep HB5.out)).mono ?_
      rintro e w7 ⟨v7, rfl, hr7, hb7⟩
      obtain ⟨A7, c7, rfl⟩ := hr7.form
      have HB7 : Stow (Below w.heap.size w w7) := ⟨HB5.out.trans (hb7.mono HB5.out.size)⟩
      have HR7 := Stow.mk hr7.slr
      clear hb7 hr7
      rw [HZS.out]
      go_wp2_with fail
      refine (HK4.out _ _ _ HR7.out).mono ?_
      rintro e w8 ⟨v8, rfl, hr8, hb8⟩
      have HB8 : Stow (Below w.heap.size w w8) := ⟨HB7.out.trans (hb8.mono HB7.out.size)⟩
      go_wp2_with fail
      go_ret2
      exact ⟨v8, by rw [HE.out]; rfl, by rw [HP.out]; exact hr8.base HB7.out.size, HB8.out⟩
    · have hk1 : 1 ≤ k := by
        rcases k with _ | k
        · exfalso
          apply h64
          rw [HZ.out, In.write_take HCK.out]
          exact HT1.out
        · omega
      have h64i : (64 : Int) < z.length := by omega
      have hkk : (0 : Int) ≤ (k : Int) := by omega
      have hkc : (k : Int) ≤ c5 := by omega
      have HJ2 : Stow (∀ x, In.pick q.1 k x = S) := ⟨fun x => by
        have h1 := HJ.out []
        unfold In.pick at h1
        rw [← HZ.out, if_neg h64] at h1
        obtain ⟨j, rfl⟩ : ∃ j, k = j + 1 := ⟨k - 1, by omega⟩
        rw [← h1]
        rfl⟩
      go_wp2_with fail
      refine (KW.out k (by omega) _ (KS.out k (by omega) _ HB.out)).mono ?_
      rintro e w7 ⟨rfl, hb7⟩
      have HB7 := Stow.mk (HB.out.trans (hb7.mono HB.out.size))
      clear hb7
      go_wp2_with fail
      exact ⟨⟨k, hk1, by omega, rfl, _, rfl, ⟨rfl⟩, HJ2, HB7⟩, by simp [sliceLen]⟩
end Go.Proofs.YtfbhdkkmcfnghaaGreatDoor
