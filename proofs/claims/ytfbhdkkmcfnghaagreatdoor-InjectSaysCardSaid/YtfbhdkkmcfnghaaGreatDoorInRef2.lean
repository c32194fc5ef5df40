/- Walks of the reference's traceparent: digits, formed, Read, Write. Condition: texts no longer than an int can say. -/
import Derived.Test.YtfbhdkkmcfnghaaGreatDoorInParFn
import Derived.Test.YtfbhdkkmcfnghaaGreatDoorInRef1
namespace Go.Proofs.YtfbhdkkmcfnghaaGreatDoor
open Go.RowKit
set_option linter.unusedVariables false

theorem refOf_results (W : World) (g : Nat) (a b : Value) (n : Int) (tmps : Array Value) (hH : Held W g [a, b]) (h2 : tmps[2]?.getD undef = .pointer (some ⟨g, 0, none⟩)) (h3 : tmps[3]?.getD undef = .int .i64 n) :
    (results Tryz.f94 tmps).run Tryz.prog W = .ok (.tuple #[.agg #[a, b], .int .i64 n]) W := by
  have c0 := hH.cell (i := 0) rfl
  have c1 := hH.cell (i := 1) rfl
  simp [results, Tryz.results94, go_sem, h2, h3, c0, c1]
set_option maxHeartbeats 1000000 in
set_option maxRecDepth 100000 in
theorem refIdsOf_any (l : List UInt8) (w : World) (hl : l.length = 32) (hx : In.isHex l = true) :
    Calls Tryz.prog 94 #[.string (bs l)] w fun e w' => e = .returned (.tuple #[.agg #[.int .u64 (In.num (l.take 16) : Nat), .int .u64 (In.num (l.drop 16) : Nat)], .int .i64 (In.ofErr l : Nat)]) ∧ Below w.heap.size w w' := by
  have HX1 := Stow.mk (In.isHex_take hx 16)
  have HX2 := Stow.mk (In.isHex_drop hx 16)
  have hl1 : (l.take 16).length = 16 := by simp; omega
  have hl2 : (l.drop 16).length = 16 := by simp; omega
  have HL1 := Stow.mk hl1
  have HL2 := Stow.mk hl2
  have hu1 : In.unhex (l.take 16) = (In.num (l.take 16), 0) := by unfold In.unhex; rw [if_pos ⟨by omega, by omega, HX1.out⟩]
  have hu2 : In.unhex (l.drop 16) = (In.num (l.drop 16), 0) := by unfold In.unhex; rw [if_pos ⟨by omega, by omega, HX2.out⟩]
  have K1 := fun W => refUnhex_any (l.take 16) W (by omega)
  have K2 := fun W => refUnhex_any (l.drop 16) W (by omega)
  rw [hu1] at K1
  rw [hu2] at K2
  have hE : In.ofErr l = if In.num (l.take 16) = 0 ∧ In.num (l.drop 16) = 0 then 11 else 0 := rfl
  obtain ⟨er, her⟩ : ∃ er, In.ofErr l = er := ⟨_, rfl⟩
  rw [her] at hE ⊢
  clear her hu1 hu2
  generalize In.num (l.take 16) = a at *
  generalize In.num (l.drop 16) = b at *
  have HE := Stow.mk hE
  have HK1 := Stow.mk K1
  have HK2 : Stow (∀ W : World, Calls Tryz.prog 96 #[.string (bs ((l.drop 16).take 16))] W fun e w' => e = .returned (.tuple #[.int .u64 (b : Nat), .int .i64 0]) ∧ w' = W) := ⟨fun W => by
    rw [List.take_of_length_le (by rw [HL2.out]; exact Nat.le_refl _)]
    exact K2 W⟩
  clear K1 K2 hx hl1 hl2 hE
  have hM := Held.made w [.int .u64 0, .int .u64 0] 25
  have hB := Below.alloc' (Below.self w) (.cells #[.int .u64 0, .int .u64 0] 25)
  obtain ⟨W0, hW0⟩ : ∃ W, w.alloc (.cells #[.int .u64 0, .int .u64 0] 25) = W := ⟨_, rfl⟩
  rw [show w.alloc (.cells [.int .u64 0, .int .u64 0].toArray 25) = W0 from hW0] at hM
  rw [hW0] at hB
  have HM := Stow.mk hM
  have HB := Stow.mk hB
  have HW0 := Stow.mk hW0
  clear hM hB hW0
  go_enter Tryz.func94, Tryz.ntmps94
  go_upto_region 3 with fail
  generalize hW : World.alloc w _ = W
  obtain rfl : W0 = W := HW0.out.symm.trans hW
  clear hW HW0
  go_wp2_with fail
  refine (HK1.out _).mono ?_
  rintro e w1 ⟨rfl, rfl⟩
  go_wp2_with fail
  refine (HK2.out _).mono ?_
  rintro e w2 ⟨rfl, rfl⟩
  have f0 := HM.out.free 0
  have f1 := HM.out.free 1
  have c0 := HM.out.cell (i := 0) rfl
  have c1 := HM.out.cell (i := 1) rfl
  have hlt := HM.out.lt
  by_cases hz : a = 0 ∧ b = 0
  · obtain rfl : er = 11 := by rw [HE.out, if_pos hz]
    obtain ⟨rfl, rfl⟩ := hz
    go_wp2_with fail
    refine bodyPost_ret (refOf_results _ w.heap.size (.int .u64 0) (.int .u64 0) 11 _ ((HM.out.set 0 _).set 1 _) rfl rfl) rfl ?_
    exact ⟨rfl, (HB.out.setCell (p := ⟨w.heap.size, 0, none⟩) (Nat.le_refl _) _).setCell (p := ⟨w.heap.size, 1, none⟩) (Nat.le_refl _) _⟩
  · obtain rfl : er = 0 := by rw [HE.out, if_neg hz]
    by_cases ha : a = 0
    · have hb : ¬ b = 0 := fun h => hz ⟨ha, h⟩
      subst ha
      have hb1 : ¬ (b : Int) = 0 := by omega
      have hb2 : ((b : Int) == 0) = false := by simpa using hb
      clear hz
      go_wp2_with fail
      refine bodyPost_ret (refOf_results _ w.heap.size (.int .u64 0) (.int .u64 b) 0 _ ((HM.out.set 0 _).set 1 _) rfl rfl) rfl ?_
      exact ⟨rfl, (HB.out.setCell (p := ⟨w.heap.size, 0, none⟩) (Nat.le_refl _) _).setCell (p := ⟨w.heap.size, 1, none⟩) (Nat.le_refl _) _⟩
    · have ha1 : ¬ (a : Int) = 0 := by omega
      have ha2 : ((a : Int) == 0) = false := by simpa using ha
      clear hz
      go_wp2_with fail
      refine bodyPost_ret (refOf_results _ w.heap.size (.int .u64 a) (.int .u64 b) 0 _ ((HM.out.set 0 _).set 1 _) rfl rfl) rfl ?_
      exact ⟨rfl, (HB.out.setCell (p := ⟨w.heap.size, 0, none⟩) (Nat.le_refl _) _).setCell (p := ⟨w.heap.size, 1, none⟩) (Nat.le_refl _) _⟩
set_option maxHeartbeats 400000 in
set_option maxRecDepth 100000 in
theorem refPdigits_any (l : List UInt8) (w : World) (hl : l.length ≤ 9223372036854775806) :
    Calls Tryz.prog 138 #[.string (bs l)] w fun e w' => e = .returned (.bool (In.isHex l)) ∧ w' = w := by
  go_enter Tryz.func138, Tryz.ntmps138
  go_wp2_with fail
  go_loopw [3, 4, 5] (fun v _ _ wr => wr = w ∧ ∃ i : Nat, v = .int .i64 i ∧ i ≤ l.length ∧ Stow (In.isHex (l.take i) = true)) (fun v _ _ _ => l.length - (intOf v).toNat)
  case atStart => exact ⟨rfl, 0, rfl, by omega, ⟨rfl⟩⟩
  case round =>
    obtain ⟨rfl, i, rfl, hi, HX⟩ := hrel
    by_cases hlt : i < l.length
    · have HXN := Stow.mk (In.isHex_next l i hlt)
      have e1 : ∀ k, k = 1 → (l.drop i).take k = [l[i]] := fun k hk => by subst hk; rw [List.drop_eq_getElem_cons hlt]; rfl
      have HU : Stow (In.unhex [l[i]] = (if In.value l[i] < 16 then (In.num [l[i]], 0) else (0, 3))) := ⟨by
        unfold In.unhex
        simp [In.isHex]⟩
      have HK := Stow.mk (fun W => refUnhex_any [l[i]] W (by simp))
      have HE1 := Stow.mk e1
      have hii : (i : Int) < l.length := by omega
      have hi0 : (0 : Int) ≤ i := by omega
      clear e1
      by_cases hv : In.value l[i] < 16
      · have hun : In.unhex [l[i]] = (In.num [l[i]], 0) := by rw [HU.out, if_pos hv]
        have HK := Stow.mk (fun W => by have := HK.out W; rw [hun] at this; exact this)
        clear hun
        go_wp2_with fail
        rw [HE1.out _ (by omega)]
        refine (HK.out _).mono ?_
        rintro e w1 ⟨rfl, rfl⟩
        go_wp2_with fail
        exact ⟨⟨by trivial, i + 1, rfl, by omega, ⟨by rw [HXN.out, HX.out]; simpa using hv⟩⟩, by simp [intOf]; omega⟩
      · have hun : In.unhex [l[i]] = (0, 3) := by rw [HU.out, if_neg hv]
        have HK := Stow.mk (fun W => by have := HK.out W; rw [hun] at this; exact this)
        have HF : Stow (In.isHex l = false) := ⟨In.isHex_bad hlt hv⟩
        clear hun
        go_wp2_with fail
        rw [HE1.out _ (by omega)]
        refine (HK.out _).mono ?_
        rintro e w1 ⟨rfl, rfl⟩
        go_wp2_with fail
        go_ret
        exact ⟨by rw [HF.out]; first | rfl | simp, rfl⟩
    · obtain rfl : i = l.length := by omega
      have HT : Stow (In.isHex l = true) := ⟨by have := HX.out; rw [List.take_length] at this; exact this⟩
      have hii : ¬ ((l.length : Int) < l.length) := by omega
      go_wp2_with fail
      go_ret
      exact ⟨by rw [HT.out]; first | rfl | simp, rfl⟩

theorem In.formed_ref {s : List UInt8} (h : ¬ s.length < 55) : In.formed s = ((In.at_ s 2 == 45) && (In.at_ s 35 == 45) && (In.at_ s 52 == 45) && In.isHex (s.take 2) && In.tail_ s && In.isHex (In.cut s 3 35) && In.isHex (In.cut s 36 52) && In.isHex (In.cut s 53 55)) := by
  rw [In.formed_long h]
  have e : In.cut s 0 2 = s.take 2 := by simp [In.cut]
  simp only [In.okUp, In.okAt, e, Bool.true_and]
  generalize In.isHex (s.take 2) = a
  generalize In.isHex (In.cut s 3 35) = b
  generalize In.isHex (In.cut s 36 52) = c
  generalize In.isHex (In.cut s 53 55) = d
  generalize (In.at_ s 2 == 45) = x
  generalize (In.at_ s 35 == 45) = y
  generalize (In.at_ s 52 == 45) = z
  generalize In.tail_ s = t
  cases a <;> cases b <;> cases c <;> cases d <;> cases x <;> cases y <;> cases z <;> cases t <;> rfl
set_option maxHeartbeats 4000000 in
set_option maxRecDepth 100000 in
theorem refFormed_any (s : List UInt8) (w : World) (hl : s.length ≤ 9223372036854775806) :
    Calls Tryz.prog 93 #[.string (bs s)] w fun e w' => e = .returned (.bool (In.formed s)) ∧ w' = w := by
  by_cases h55 : s.length < 55
  · have HF := Stow.mk (In.formed_short h55)
    go_enter Tryz.func93, Tryz.ntmps93
    go_wp2_with fail
    go_ret
    exact ⟨by rw [HF.out]; first | rfl | simp, rfl⟩
  have hfr := In.formed_ref h55
  have hl2 : (2 : Int) ≤ s.length := by omega
  have hl35 : (35 : Int) ≤ s.length := by omega
  have hl52 : (52 : Int) ≤ s.length := by omega
  have hl55 : (55 : Int) ≤ s.length := by omega
  have hat := In.at_get (s := s) (i := 2) (by omega)
  have hlt2 : 2 < (bs s).size := by simp; omega
  obtain ⟨d, hd⟩ : ∃ d, s[2]'hlt2 = d := ⟨_, rfl⟩
  obtain ⟨b2, hb2⟩ : ∃ b, (In.at_ s 2 == 45) = b := ⟨_, rfl⟩
  try rw [hb2] at hfr
  have hin2 : (0 : Int) ≤ 2 ∧ (2 : Int) < s.length := ⟨by omega, by omega⟩
  rw [hat] at hb2
  cases b2
  · have HF : Stow (In.formed s = false) := ⟨by rw [hfr]; simp⟩
    have hdn : ¬ (((s[2]'hlt2).toNat : Int) = 45) := fun h => by
      rw [beq_eq_false_iff_ne] at hb2
      exact hb2 (UInt8.toNat_inj.1 (by show (s[2]).toNat = 45; omega))
    clear hat hd hb2
    clear hfr
    go_enter Tryz.func93, Tryz.ntmps93
    go_wp2_with fail
    go_ret
    exact ⟨by rw [HF.out]; first | rfl | simp, rfl⟩
  have hde2 : ((s[2]'hlt2).toNat : Int) = 45 := by
    have e : (s[2]'(by omega)).toNat = 45 := by
      rw [beq_iff_eq] at hb2
      rw [hb2]
      rfl
    exact congrArg (fun n : Nat => (n : Int)) e
  clear hat hd hb2
  have hat := In.at_get (s := s) (i := 35) (by omega)
  have hlt35 : 35 < (bs s).size := by simp; omega
  obtain ⟨d, hd⟩ : ∃ d, s[35]'hlt35 = d := ⟨_, rfl⟩
  obtain ⟨b35, hb35⟩ : ∃ b, (In.at_ s 35 == 45) = b := ⟨_, rfl⟩
  try rw [hb35] at hfr
  have hin35 : (0 : Int) ≤ 35 ∧ (35 : Int) < s.length := ⟨by omega, by omega⟩
  rw [hat] at hb35
  cases b35
  · have HF : Stow (In.formed s = false) := ⟨by rw [hfr]; simp⟩
    have hdn : ¬ (((s[35]'hlt35).toNat : Int) = 45) := fun h => by
      rw [beq_eq_false_iff_ne] at hb35
      exact hb35 (UInt8.toNat_inj.1 (by show (s[35]).toNat = 45; omega))
    clear hat hd hb35
    clear hfr
    go_enter Tryz.func93, Tryz.ntmps93
    go_wp2_with fail
    go_ret
    exact ⟨by rw [HF.out]; first | rfl | simp, rfl⟩
  have hde35 : ((s[35]'hlt35).toNat : Int) = 45 := by
    have e : (s[35]'(by omega)).toNat = 45 := by
      rw [beq_iff_eq] at hb35
      rw [hb35]
      rfl
    exact congrArg (fun n : Nat => (n : Int)) e
  clear hat hd hb35
  have hat := In.at_get (s := s) (i := 52) (by omega)
  have hlt52 : 52 < (bs s).size := by simp; omega
  obtain ⟨d, hd⟩ : ∃ d, s[52]'hlt52 = d := ⟨_, rfl⟩
  obtain ⟨b52, hb52⟩ : ∃ b, (In.at_ s 52 == 45) = b := ⟨_, rfl⟩
  try rw [hb52] at hfr
  have hin52 : (0 : Int) ≤ 52 ∧ (52 : Int) < s.length := ⟨by omega, by omega⟩
  rw [hat] at hb52
  cases b52
  · have HF : Stow (In.formed s = false) := ⟨by rw [hfr]; simp⟩
    have hdn : ¬ (((s[52]'hlt52).toNat : Int) = 45) := fun h => by
      rw [beq_eq_false_iff_ne] at hb52
      exact hb52 (UInt8.toNat_inj.1 (by show (s[52]).toNat = 45; omega))
    clear hat hd hb52
    clear hfr
    go_enter Tryz.func93, Tryz.ntmps93
    go_wp2_with fail
    go_ret
    exact ⟨by rw [HF.out]; first | rfl | simp, rfl⟩
  have hde52 : ((s[52]'hlt52).toNat : Int) = 45 := by
    have e : (s[52]'(by omega)).toNat = 45 := by
      rw [beq_iff_eq] at hb52
      rw [hb52]
      rfl
    exact congrArg (fun n : Nat => (n : Int)) e
  clear hat hd hb52
  obtain ⟨p0, hp0⟩ : ∃ b, In.isHex (s.take 2) = b := ⟨_, rfl⟩
  obtain ⟨p1, hp1⟩ : ∃ b, In.isHex (In.cut s 3 35) = b := ⟨_, rfl⟩
  obtain ⟨p2, hp2⟩ : ∃ b, In.isHex (In.cut s 36 52) = b := ⟨_, rfl⟩
  obtain ⟨p3, hp3⟩ : ∃ b, In.isHex (In.cut s 53 55) = b := ⟨_, rfl⟩
  have K0 := fun W => refPdigits_any (s.take 2) W (by simp; omega)
  have K1 := fun W => refPdigits_any (In.cut s 3 35) W (by rw [In.cut_len (by omega)]; omega)
  have K2 := fun W => refPdigits_any (In.cut s 36 52) W (by rw [In.cut_len (by omega)]; omega)
  have K3 := fun W => refPdigits_any (In.cut s 53 55) W (by rw [In.cut_len (by omega)]; omega)
  rw [hp0] at K0 hfr
  rw [hp1] at K1 hfr
  rw [hp2] at K2 hfr
  rw [hp3] at K3 hfr
  unfold In.cut at K1 K2 K3
  have K0 := Stow.mk K0
  have K1 := Stow.mk K1
  have K2 := Stow.mk K2
  have K3 := Stow.mk K3
  obtain ⟨z, hz⟩ : ∃ z, In.tail_ s = z := ⟨_, rfl⟩
  rw [hz] at hfr
  have HFR := Stow.mk hfr
  have HZ := Stow.mk hz
  clear hfr hz hp0 hp1 hp2 hp3
  obtain ⟨t, ht⟩ : ∃ t, s.take 2 = t := ⟨_, rfl⟩
  have HT := Stow.mk ht
  obtain ⟨x, hx⟩ : ∃ x, (t == [102, 102]) = x := ⟨_, rfl⟩
  obtain ⟨y, hy⟩ : ∃ y, (t == [48, 48]) = y := ⟨_, rfl⟩
  rw [ht] at K0
  go_enter Tryz.func93, Tryz.ntmps93
  go_wp2_with fail
  refine (K0.out _).mono ?_
  rintro e w1 ⟨rfl, rfl⟩
  cases p0
  · have HF : Stow (In.formed s = false) := ⟨by rw [HFR.out]; simp⟩
    go_wp2_with fail
    go_ret
    exact ⟨by rw [HF.out]; first | rfl | simp, rfl⟩
  cases x
  · cases y
    · by_cases hs55 : s.length = 55
      · obtain rfl : z = true := by rw [← HZ.out]; unfold In.tail_; rw [HT.out, if_neg (by simpa using hx), if_neg (by simpa using hy), hs55]; rfl
        have hnn : ¬ ((55 : Int) < s.length) := by omega
        go_wp2_with fail
        refine (K1.out _).mono ?_
        rintro e w2 ⟨rfl, rfl⟩
        cases p1
        · have HF : Stow (In.formed s = false) := ⟨by rw [HFR.out]; simp⟩
          go_wp2_with fail
          go_ret
          exact ⟨by rw [HF.out]; first | rfl | simp, rfl⟩
        go_wp2_with fail
        refine (K2.out _).mono ?_
        rintro e w2 ⟨rfl, rfl⟩
        cases p2
        · have HF : Stow (In.formed s = false) := ⟨by rw [HFR.out]; simp⟩
          go_wp2_with fail
          go_ret
          exact ⟨by rw [HF.out]; first | rfl | simp, rfl⟩
        go_wp2_with fail
        refine (K3.out _).mono ?_
        rintro e w2 ⟨rfl, rfl⟩
        have HF : Stow (In.formed s = p3) := ⟨by rw [HFR.out]; simp⟩
        go_wp2_with fail
        go_ret
        exact ⟨by rw [HF.out]; first | rfl | simp, rfl⟩
      · have hnn : (55 : Int) < s.length := by omega
        have hat := In.at_get (s := s) (i := 55) (by omega)
        have hlt55 : 55 < (bs s).size := by simp; omega
        obtain ⟨d, hd⟩ : ∃ d, s[55]'hlt55 = d := ⟨_, rfl⟩
        obtain ⟨b55, hb55⟩ : ∃ b, (In.at_ s 55 == 45) = b := ⟨_, rfl⟩
        try rw [hb55] at hfr
        have hin55 : (0 : Int) ≤ 55 ∧ (55 : Int) < s.length := ⟨by omega, by omega⟩
        rw [hat] at hb55
        cases b55
        · have HF : Stow (In.formed s = false) := ⟨by
            rw [HFR.out, ← HZ.out]; unfold In.tail_; rw [HT.out, if_neg (by simpa using hx), if_neg (by simpa using hy), hat, hb55]; simp [hs55]⟩
          have hdn : ¬ (((s[55]'hlt55).toNat : Int) = 45) := fun h => by
            rw [beq_eq_false_iff_ne] at hb55
            exact hb55 (UInt8.toNat_inj.1 (by show (s[55]).toNat = 45; omega))
          clear hat hd hb55
          go_wp2_with fail
          go_ret
          exact ⟨by rw [HF.out]; first | rfl | simp, rfl⟩
        · obtain rfl : z = true := by rw [← HZ.out]; unfold In.tail_; rw [HT.out, if_neg (by simpa using hx), if_neg (by simpa using hy), hat, hb55]; simp
          have hde55 : ((s[55]'hlt55).toNat : Int) = 45 := by
            have e : (s[55]'(by omega)).toNat = 45 := by
              rw [beq_iff_eq] at hb55
              rw [hb55]
              rfl
            exact congrArg (fun n : Nat => (n : Int)) e
          clear hat hd hb55
          go_wp2_with fail
          refine (K1.out _).mono ?_
          rintro e w2 ⟨rfl, rfl⟩
          cases p1
          · have HF : Stow (In.formed s = false) := ⟨by rw [HFR.out]; simp⟩
            go_wp2_with fail
            go_ret
            exact ⟨by rw [HF.out]; first | rfl | simp, rfl⟩
          go_wp2_with fail
          refine (K2.out _).mono ?_
          rintro e w2 ⟨rfl, rfl⟩
          cases p2
          · have HF : Stow (In.formed s = false) := ⟨by rw [HFR.out]; simp⟩
            go_wp2_with fail
            go_ret
            exact ⟨by rw [HF.out]; first | rfl | simp, rfl⟩
          go_wp2_with fail
          refine (K3.out _).mono ?_
          rintro e w2 ⟨rfl, rfl⟩
          have HF : Stow (In.formed s = p3) := ⟨by rw [HFR.out]; simp⟩
          go_wp2_with fail
          go_ret
          exact ⟨by rw [HF.out]; first | rfl | simp, rfl⟩
    · by_cases hs55 : s.length = 55
      · obtain rfl : z = true := by rw [← HZ.out]; unfold In.tail_; rw [HT.out, if_neg (by simpa using hx), if_pos (by simpa using hy), hs55]; rfl
        have hnn : ¬ ((55 : Int) < s.length) := by omega
        have hee : ((s.length : Int) != 55) = false := by simp; omega
        go_wp2_with fail
        refine (K1.out _).mono ?_
        rintro e w2 ⟨rfl, rfl⟩
        cases p1
        · have HF : Stow (In.formed s = false) := ⟨by rw [HFR.out]; simp⟩
          go_wp2_with fail
          go_ret
          exact ⟨by rw [HF.out]; first | rfl | simp, rfl⟩
        go_wp2_with fail
        refine (K2.out _).mono ?_
        rintro e w2 ⟨rfl, rfl⟩
        cases p2
        · have HF : Stow (In.formed s = false) := ⟨by rw [HFR.out]; simp⟩
          go_wp2_with fail
          go_ret
          exact ⟨by rw [HF.out]; first | rfl | simp, rfl⟩
        go_wp2_with fail
        refine (K3.out _).mono ?_
        rintro e w2 ⟨rfl, rfl⟩
        have HF : Stow (In.formed s = p3) := ⟨by rw [HFR.out]; simp⟩
        go_wp2_with fail
        go_ret
        exact ⟨by rw [HF.out]; first | rfl | simp, rfl⟩
      · have HF : Stow (In.formed s = false) := ⟨by
          rw [HFR.out, ← HZ.out]; unfold In.tail_; rw [HT.out, if_neg (by simpa using hx), if_pos (by simpa using hy)]; simp [hs55]⟩
        have hee : ((s.length : Int) != 55) = true := by simp; omega
        go_wp2_with fail
        go_ret
        exact ⟨by rw [HF.out]; first | rfl | simp, rfl⟩
  · have HF : Stow (In.formed s = false) := ⟨by rw [HFR.out, ← HZ.out]; unfold In.tail_; rw [HT.out, if_pos (by simpa using hx)]; simp⟩
    go_wp2_with fail
    go_ret
    exact ⟨by rw [HF.out]; first | rfl | simp, rfl⟩
theorem refParRead_results (W : World) (g : Nat) (a b c d : Value) (n : Int) (tmps : Array Value) (hH : Held W g [a, b, c, d]) (h2 : tmps[2]?.getD undef = .pointer (some ⟨g, 0, none⟩)) (h3 : tmps[3]?.getD undef = .int .i64 n) :
    (results Tryz.f45 tmps).run Tryz.prog W = .ok (.tuple #[.agg #[a, b, c, d], .int .i64 n]) W := by
  have c0 := hH.cell (i := 0) rfl
  have c1 := hH.cell (i := 1) rfl
  have c2 := hH.cell (i := 2) rfl
  have c3 := hH.cell (i := 3) rfl
  simp [results, Tryz.results45, go_sem, h2, h3, c0, c1, c2, c3]
set_option maxHeartbeats 2000000 in
set_option maxRecDepth 100000 in
theorem refParRead_any (s : List UInt8) (w : World) (hl : s.length ≤ 9223372036854775806) :
    Calls Tryz.prog 45 #[.string (bs s)] w fun e w' => e = .returned (.tuple #[(In.prRead s).1.val, .int .i64 ((In.prRead s).2 : Nat)]) ∧ Below w.heap.size w w' := by
  have hM := Held.made w [.int .u64 0, .int .u64 0, .int .u64 0, .int .i64 0] 27
  have hB := Below.alloc' (Below.self w) (.cells #[.int .u64 0, .int .u64 0, .int .u64 0, .int .i64 0] 27)
  obtain ⟨W0, hW0⟩ : ∃ W, w.alloc (.cells #[.int .u64 0, .int .u64 0, .int .u64 0, .int .i64 0] 27) = W := ⟨_, rfl⟩
  rw [show w.alloc (.cells [.int .u64 0, .int .u64 0, .int .u64 0, .int .i64 0].toArray 27) = W0 from hW0] at hM
  rw [hW0] at hB
  have HH := Stow.mk hM
  have HB := Stow.mk hB
  have HW0 := Stow.mk hW0
  clear hM hB hW0
  obtain ⟨z, hz⟩ : ∃ z, In.formed s = z := ⟨_, rfl⟩
  have HZ := Stow.mk hz
  clear hz
  obtain ⟨q, er, hq⟩ : ∃ q er, In.prRead s = (q, er) := ⟨_, _, rfl⟩
  rw [hq]
  have HQ := Stow.mk hq
  clear hq
  simp only
  cases z
  · obtain ⟨rfl, rfl⟩ : q = In.zero ∧ er = 3 := by
      have := HQ.out
      unfold In.prRead at this
      rw [if_neg (by rw [HZ.out]; simp)] at this
      exact ⟨(Prod.mk.inj this).1.symm, (Prod.mk.inj this).2.symm⟩
    unfold Pr.val In.zero
    go_enter Tryz.func45, Tryz.ntmps45
    go_upto_region 1 with fail
    generalize hW : World.alloc w _ = W
    obtain rfl : W0 = W := HW0.out.symm.trans hW
    clear hW HW0
    go_wp2_with fail
    refine (refFormed_any s _ hl).mono ?_
    rw [HZ.out]
    rintro e w1 ⟨rfl, rfl⟩
    have r0 := Held.cell HH.out (i := 0) rfl
    have r1 := Held.cell HH.out (i := 1) rfl
    have r2 := Held.cell HH.out (i := 2) rfl
    have r3 := Held.cell HH.out (i := 3) rfl
    have f0 := Held.free HH.out 0
    have f1 := Held.free HH.out 1
    have f2 := Held.free HH.out 2
    have f3 := Held.free HH.out 3
    have hlt := Held.lt HH.out
    go_wp2_with fail
    refine bodyPost_ret (refParRead_results _ w.heap.size (.int .u64 0) (.int .u64 0) (.int .u64 0) (.int .i64 0) 3 _ ((((HH.out.set 0 _).set 1 _).set 2 _).set 3 _) rfl rfl) rfl ?_
    exact ⟨rfl, below_set4 HB.out (Nat.le_refl _) _ _ _ _⟩
  · obtain ⟨hs55, hx1, hx2, hx3⟩ := In.isHex_formed HZ.out
    have hl32 : (In.cut s 3 35).length = 32 := In.cut_len (by omega)
    have hl16 : (In.cut s 36 52).length = 16 := In.cut_len (by omega)
    have hl2 : (In.cut s 53 55).length = 2 := In.cut_len (by omega)
    have e1 : (In.cut s 3 35).take 16 = In.cut s 3 19 := by unfold In.cut; rw [List.take_take]; rfl
    have e2 : (In.cut s 3 35).drop 16 = In.cut s 19 35 := by unfold In.cut; rw [List.drop_take, List.drop_drop]
    have KO := fun W => refIdsOf_any (In.cut s 3 35) W hl32 hx1
    have KS := fun W => refSpanOf_any (In.cut s 36 52) W hl16 hx2
    have KU := fun W => refUnhex_any (In.cut s 53 55) W (by omega)
    have hu : In.unhex (In.cut s 53 55) = (In.num (In.cut s 53 55), 0) := by unfold In.unhex; rw [if_pos ⟨by omega, by omega, hx3⟩]
    unfold In.ofErr at KO
    rw [e1, e2] at KO
    rw [hu] at KU
    have h6 := In.num_lt _ hx3
    rw [hl2] at h6
    have hq := HQ.out
    unfold In.prRead In.prOf at hq
    rw [if_pos HZ.out] at hq
    simp only at hq
    generalize In.num (In.cut s 3 19) = n1 at *
    generalize In.num (In.cut s 19 35) = n2 at *
    generalize In.num (In.cut s 36 52) = n3 at *
    generalize In.num (In.cut s 53 55) = n4 at *
    unfold In.cut at KO KS KU
    obtain ⟨c1, hc1⟩ : ∃ c : Nat, (if n1 = 0 ∧ n2 = 0 then 11 else 0) = c := ⟨_, rfl⟩
    obtain ⟨c2, hc2⟩ : ∃ c : Int, (if n3 = 0 then 11 else 0) = c := ⟨_, rfl⟩
    rw [hc1] at KO
    rw [hc2] at KS
    have HKO := Stow.mk KO
    have HKS := Stow.mk KS
    have HKU := Stow.mk KU
    have HC1 := Stow.mk hc1
    have HC2 := Stow.mk hc2
    have HQQ := Stow.mk hq
    have ll2 : (35 : Int) ≤ s.length := by omega
    have ll3 : (52 : Int) ≤ s.length := by omega
    have ll4 : (55 : Int) ≤ s.length := by omega
    have h256 : (16 : Nat) ^ 2 = 256 := rfl
    rw [h256] at h6
    clear KO KS KU hc1 hc2 hq hu e1 e2 hx1 hx2 hx3 hl32 hl16 hl2 h256
    unfold Pr.val
    go_enter Tryz.func45, Tryz.ntmps45
    go_upto_region 1 with fail
    generalize hW : World.alloc w _ = W
    obtain rfl : W0 = W := HW0.out.symm.trans hW
    clear hW HW0
    go_wp2_with fail
    refine (refFormed_any s _ hl).mono ?_
    rw [HZ.out]
    rintro e w1 ⟨rfl, rfl⟩
    go_wp2_with fail
    refine (HKO.out _).mono ?_
    rintro e w4 ⟨rfl, hb4⟩
    have ba := Below.alloc' (Below.self w4) (.cells #[.int .u64 n1, .int .u64 n2] 25)
    have HT := Stow.mk (Held.made w4 [.int .u64 n1, .int .u64 n2] 25)
    have HH := Stow.mk ((HH.out.kept hb4).kept ba)
    have HB := Stow.mk (HB.out.trans ((hb4.trans (ba.mono hb4.size)).mono HB.out.size))
    obtain ⟨W4, hW4⟩ : ∃ W, w4.alloc (.cells #[.int .u64 n1, .int .u64 n2] 25) = W := ⟨_, rfl⟩
    rw [show w4.alloc (.cells [.int .u64 n1, .int .u64 n2].toArray 25) = W4 from hW4] at HT
    rw [hW4] at HH HB
    have HWS := Stow.mk hW4
    clear hb4 ba hW4
    go_upto_region 4 with fail
    generalize hW : World.alloc w4 _ = W
    obtain rfl : W4 = W := HWS.out.symm.trans hW
    clear hW HWS
    go_wp2_with fail
    refine (HKS.out _).mono ?_
    rintro e w6 ⟨rfl, rfl⟩
    by_cases hz : n1 = 0 ∧ n2 = 0
    · obtain rfl : c1 = 11 := by rw [← HC1.out, if_pos hz]
      obtain ⟨rfl, rfl⟩ : q = In.zero ∧ er = 11 := by
        have := HQQ.out
        rw [if_pos (.inl hz)] at this
        exact ⟨(Prod.mk.inj this).1.symm, (Prod.mk.inj this).2.symm⟩
      clear hz
      have r0 := Held.cell HH.out (i := 0) rfl
      have r1 := Held.cell HH.out (i := 1) rfl
      have r2 := Held.cell HH.out (i := 2) rfl
      have r3 := Held.cell HH.out (i := 3) rfl
      have f0 := Held.free HH.out 0
      have f1 := Held.free HH.out 1
      have f2 := Held.free HH.out 2
      have f3 := Held.free HH.out 3
      have hlt := Held.lt HH.out
      go_wp2_with fail
      refine bodyPost_ret (refParRead_results _ w.heap.size (.int .u64 0) (.int .u64 0) (.int .u64 0) (.int .i64 0) 11 _ ((((HH.out.set 0 _).set 1 _).set 2 _).set 3 _) rfl rfl) rfl ?_
      exact ⟨rfl, below_set4 HB.out (Nat.le_refl _) _ _ _ _⟩
    obtain rfl : c1 = 0 := by rw [← HC1.out, if_neg hz]
    by_cases h30 : n3 = 0
    · obtain rfl : c2 = 11 := by rw [← HC2.out, if_pos h30]
      obtain ⟨rfl, rfl⟩ : q = In.zero ∧ er = 11 := by
        have := HQQ.out
        rw [if_pos (.inr h30)] at this
        exact ⟨(Prod.mk.inj this).1.symm, (Prod.mk.inj this).2.symm⟩
      clear hz h30
      have r0 := Held.cell HH.out (i := 0) rfl
      have r1 := Held.cell HH.out (i := 1) rfl
      have r2 := Held.cell HH.out (i := 2) rfl
      have r3 := Held.cell HH.out (i := 3) rfl
      have f0 := Held.free HH.out 0
      have f1 := Held.free HH.out 1
      have f2 := Held.free HH.out 2
      have f3 := Held.free HH.out 3
      have hlt := Held.lt HH.out
      go_wp2_with fail
      refine bodyPost_ret (refParRead_results _ w.heap.size (.int .u64 0) (.int .u64 0) (.int .u64 0) (.int .i64 0) 11 _ ((((HH.out.set 0 _).set 1 _).set 2 _).set 3 _) rfl rfl) rfl ?_
      exact ⟨rfl, below_set4 HB.out (Nat.le_refl _) _ _ _ _⟩
    obtain rfl : c2 = 0 := by rw [← HC2.out, if_neg h30]
    obtain ⟨rfl, rfl⟩ : q = ⟨n1, n2, n3, n4⟩ ∧ er = 0 := by
      have := HQQ.out
      rw [if_neg (by rintro (h | h); exact hz h; exact h30 h)] at this
      exact ⟨(Prod.mk.inj this).1.symm, (Prod.mk.inj this).2.symm⟩
    clear hz h30
    go_wp2_with fail
    refine (HKU.out _).mono ?_
    rintro e w8 ⟨rfl, rfl⟩
    have t0 := HT.out.cell (i := 0) rfl
    have t1 := HT.out.cell (i := 1) rfl
    have r0 := Held.cell HH.out (i := 0) rfl
    have r1 := Held.cell HH.out (i := 1) rfl
    have r2 := Held.cell HH.out (i := 2) rfl
    have r3 := Held.cell HH.out (i := 3) rfl
    have f0 := Held.free HH.out 0
    have f1 := Held.free HH.out 1
    have f2 := Held.free HH.out 2
    have f3 := Held.free HH.out 3
    have hlt := Held.lt HH.out
    simp only
    go_wp2_with fail
    refine bodyPost_ret (refParRead_results _ w.heap.size (.int .u64 n1) (.int .u64 n2) (.int .u64 n3) (.int .i64 n4) 0 _ ((((HH.out.set 0 _).set 1 _).set 2 _).set 3 _) rfl rfl) rfl ?_
    exact ⟨rfl, below_set4 HB.out (Nat.le_refl _) _ _ _ _⟩
set_option maxHeartbeats 1000000 in
set_option maxRecDepth 100000 in
theorem refParWrite_any (p : Pr) (w : World) (hf : In.Pr.fits p) :
    Calls Tryz.prog 36 #[.agg #[.int .u64 p.hi, .int .u64 p.lo, .int .u64 p.sp, .int .i64 p.fl]] w fun e w' => e = .returned (.tuple #[.string (bs (In.prWrite p)), .int .i64 (In.prErr p : Nat)]) ∧ Below w.heap.size w w' := by
  obtain ⟨hi, lo, sp, fl⟩ := p
  obtain ⟨h1, h2, h3⟩ := hf
  simp only at h1 h2 h3 ⊢
  have hM := Held.made w [.int .u64 hi, .int .u64 lo, .int .u64 sp, .int .i64 fl] 27
  have HM : Stow (∀ W, Below (w.alloc (.cells #[.int .u64 hi, .int .u64 lo, .int .u64 sp, .int .i64 fl] 27)).heap.size (w.alloc (.cells #[.int .u64 hi, .int .u64 lo, .int .u64 sp, .int .i64 fl] 27)) W → Held W w.heap.size [.int .u64 hi, .int .u64 lo, .int .u64 sp, .int .i64 fl] ∧ Below w.heap.size w W) := ⟨fun W hb => ⟨hM.kept hb, Below.call (Below.alloc' (Below.self _) _) hb⟩⟩
  clear hM
  obtain ⟨er, her⟩ : ∃ er, In.prErr ⟨hi, lo, sp, fl⟩ = er := ⟨_, rfl⟩
  obtain ⟨tx, htx⟩ : ∃ tx, In.prWrite ⟨hi, lo, sp, fl⟩ = tx := ⟨_, rfl⟩
  rw [her, htx]
  have HE := Stow.mk her
  have HT := Stow.mk htx
  obtain ⟨z, hz⟩ : ∃ z, decide (hi = 0 ∧ lo = 0) = z := ⟨_, rfl⟩
  have HZ := Stow.mk hz
  clear her htx hz
  go_enter Tryz.func36, Tryz.ntmps36
  go_wp2_with fail
  refine (refZero_any hi lo _ h1 h2).mono ?_
  rw [HZ.out]
  rintro e w1 ⟨rfl, hb1⟩
  obtain ⟨hH, hB⟩ := HM.out w1 hb1
  have HH := Stow.mk hH
  have HB := Stow.mk hB
  have q0 := hH.cell (i := 0) rfl
  have q1 := hH.cell (i := 1) rfl
  have q2 := hH.cell (i := 2) rfl
  have q3 := hH.cell (i := 3) rfl
  clear hH hB hb1
  have bad : ∀ n : Nat, n ≠ 0 → In.prErr ⟨hi, lo, sp, fl⟩ = n → er = n ∧ tx = [] := fun n hn h => by
    have := HE.out
    refine ⟨by rw [← HE.out, h], ?_⟩
    rw [← HT.out]; unfold In.prWrite; rw [h, if_neg hn]
  have BAD := Stow.mk bad
  clear bad
  cases z
  rotate_left
  · obtain ⟨rfl, rfl⟩ := BAD.out 11 (by omega) (by unfold In.prErr; rw [if_pos (.inl (of_decide_eq_true HZ.out))])
    go_wp2_with fail
    go_ret2
    exact ⟨rfl, HB.out⟩
  by_cases hs0 : sp = 0
  · obtain ⟨rfl, rfl⟩ := BAD.out 11 (by omega) (by unfold In.prErr; rw [if_pos (.inr hs0)])
    subst hs0
    go_wp2_with fail
    go_ret2
    exact ⟨rfl, HB.out⟩
  have hsp : ((sp : Int) == 0) = false := by rw [beq_eq_false_iff_ne]; omega
  have HN : Stow (¬ ((hi = 0 ∧ lo = 0) ∨ sp = 0)) := ⟨fun h => h.elim (of_decide_eq_false HZ.out) hs0⟩
  by_cases hf0 : fl < 0
  · obtain ⟨rfl, rfl⟩ := BAD.out 12 (by omega) (by unfold In.prErr; rw [if_neg HN.out, if_pos (.inl hf0)])
    go_wp2_with fail
    go_ret2
    exact ⟨rfl, HB.out⟩
  by_cases hf255 : 255 < fl
  · obtain ⟨rfl, rfl⟩ := BAD.out 12 (by omega) (by unfold In.prErr; rw [if_neg HN.out, if_pos (.inr hf255)])
    go_wp2_with fail
    go_ret2
    exact ⟨rfl, HB.out⟩
  have h0 : In.prErr ⟨hi, lo, sp, fl⟩ = 0 := by unfold In.prErr; rw [if_neg HN.out, if_neg (by simp only; omega)]
  obtain rfl : er = 0 := by rw [← HE.out, h0]
  have htx : tx = In.prText ⟨hi, lo, sp, fl⟩ := by rw [← HT.out]; unfold In.prWrite; rw [if_pos h0]
  obtain ⟨f, rfl⟩ := Int.eq_ofNat_of_zero_le (show 0 ≤ fl by omega)
  unfold In.prText at htx
  simp only [Int.toNat_natCast] at htx
  have hl1 := In.hex_len 16 hi
  have hl2 := In.hex_len 16 lo
  have hl3 := In.hex_len 16 sp
  have hl4 := In.hex_len 2 f
  have K1 := fun W => refText_any hi lo W h1 h2
  have K2 := fun W => (refSpanText_any _ sp rfl W h3).mono fun e w' h => (⟨h.1, by rw [h.2]; exact Below.self _⟩ : e = .returned (.string (bs (In.hex 16 sp))) ∧ Below W.heap.size W w')
  have K3 := fun W => (refHex_any 2 _ _ f rfl rfl W (by omega) (by omega) (by omega) (by have e : (16 : Nat) ^ 2 = 256 := rfl; omega)).mono fun e w' h => (⟨h.1, by rw [h.2]; exact Below.self _⟩ : e = .returned (.tuple #[.string (bs (In.hex 2 f)), .int .i64 0]) ∧ Below W.heap.size W w')
  generalize In.hex 16 hi = X1 at *
  generalize In.hex 16 lo = X2 at *
  generalize In.hex 16 sp = X3 at *
  generalize In.hex 2 f = X4 at *
  have HTX := Stow.mk htx
  have HK1 := Stow.mk K1
  have HK2 := Stow.mk K2
  have HK3 := Stow.mk K3
  have hf2 : (f : Int) % 18446744073709551616 = f := by omega
  clear K1 K2 K3 htx h0 BAD
  go_wp2_with fail
  refine (HK3.out _).mono ?_
  rintro e W ⟨rfl, hb2⟩
  have hHW := HH.out.kept hb2
  have HBW : Stow (Below w.heap.size w W) := ⟨HB.out.trans (hb2.mono HB.out.size)⟩
  have ltX := hHW.lt
  clear q0 q1 q2 q3 hb2
  go_wp2_with fail
  have a0 : ∀ x : Later W.heap.size W, x.1.cell? ⟨w.heap.size, 0, none⟩ = _ := fun x => x.cell (hHW.cell (i := 0) rfl) ltX
  have a1 : ∀ x : Later W.heap.size W, x.1.cell? ⟨w.heap.size, 1, none⟩ = _ := fun x => x.cell (hHW.cell (i := 1) rfl) ltX
  have a2 : ∀ x : Later W.heap.size W, x.1.cell? ⟨w.heap.size, 2, none⟩ = _ := fun x => x.cell (hHW.cell (i := 2) rfl) ltX
  clear hHW
  refine wp_region_later W.heap.size (by kernel_rfl) (by kernel_rfl) ?_
  go_big_quiet_step (fail)
  go_big_quiet_step (fail)
  go_big_quiet_step (exact Calls.later (Nat.le_refl _) (HK1.out _))
  go_big_quiet_step (fail)
  go_big_quiet_step (fail)
  go_big_quiet_step (fail)
  go_big_quiet_step (fail)
  go_big_quiet_step (exact Calls.later (Nat.le_refl _) (HK2.out _))
  repeat (go_big_quiet_step (fail))
  refine wpQuiet_nil ?_
  rintro ⟨wx, hbx⟩
  clear a0 a1 a2
  go_wp2_with fail
  go_ret2
  refine ⟨?_, HBW.out.trans (hbx.mono HBW.out.size)⟩
  rw [HTX.out]
  rfl
end Go.Proofs.YtfbhdkkmcfnghaaGreatDoor
