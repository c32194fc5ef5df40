/- Walks of the reference's Same at entries, and of the law's known; books one put later. Conditions: slices' own. -/
import Derived.Test.YthbpcdoddcacdaaBkPutN
namespace Go.Proofs.Ythbpcdoddcacdaa
open Go.RowKit
set_option linter.unusedVariables false

/-- All keys are no longer than a length may be. -/
def Bk.St.Short (S : Bk.St) : Prop := ∀ n s, ∀ p ∈ S.bk n s, p.1.length ≤ maxLen
theorem Bk.new_short (n : Int) : (Bk.new n).Short := fun _ _ p hp => by cases hp
theorem Bk.put_short {S : Bk.St} (h : S.Short) (n : Int) (s : Bool) {k : Bk.Tx} (hk : k.length ≤ maxLen) (v : Bk.Tx) : (S.put n s k v).1.Short := by
  unfold Bk.St.put
  split
  · split
    · exact h
    · intro n' s' p hp
      try dsimp only at hp
      split at hp
      · unfold Bk.put at hp
        rcases Bk.ins_mem.1 hp with rfl | hp
        · exact hk
        · exact h _ _ p (List.mem_filter.1 hp).1
      · exact h n' s' p hp
  · exact h
/-- A put, seen from a world that lies before the books. -/
theorem bkPut_b {w0 w : World} {F : Nat → Prop} {g c : Nat} {S : Bk.St} (n : Int) (s : Bool) (k v : Bk.Tx) (h : BKs w F g S c) (hc : c < 1000000) (hk : k.length ≤ maxLen) (hv : v.length ≤ maxLen) (hF : ∀ i, F i → w0.heap.size ≤ i) (hW : Below w0.heap.size w0 w) :
    Calls Try.prog 50 #[.pointer (some ⟨g, 0, none⟩), .int .i64 n, .bool s, .string (bs k), .string (bs v)] w fun e w' => e = .returned (.bool (S.put n s k v).2) ∧ ∃ F', BKs w' F' g (S.put n s k v).1 (c + 1) ∧ (∀ i, F' i → w0.heap.size ≤ i) ∧ Below w0.heap.size w0 w' := by
  refine (bkPut_any w F g c S n s k v h hc hk hv).mono ?_
  rintro e w' ⟨he, F', h1, h2, h3⟩
  exact ⟨he, F', h1, fun i hi => by rcases h2 i hi with h | h; exact hF i h; exact Nat.le_trans hW.size h, hW.trans (h3.below hF hW.size)⟩

theorem eq_entry (d : Nat) (a b c e : ByteArray) (w : World) : (Op.equalIn (d + 2) 90 (.agg #[.string a, .string b]) (.agg #[.string c, .string e])).run Try.prog w = .ok (a.toList == c.toList && b.toList == e.toList) w := by
  have hu := Try.underlying90
  have hi := Try.underlying9
  have hs : (Try.prog.info? 9).map (·.size) = some 1 := by kernel_rfl
  rw [show d + 2 = (d + 1) + 1 from rfl, Op.equalIn]
  simp [go_sem, run_underlying hu]
  by_cases e1 : a.toList = c.toList <;> by_cases e2 : b.toList = e.toList <;> simp [e1, e2]
set_option maxHeartbeats 1000000 in
set_option maxRecDepth 100000 in
theorem enSame_any (M : Bk.Bd) (A A' : Option Addr) (cap cap' : Nat) (w : World) (hS : EnR w A cap M) (hS' : EnR w A' cap' M) :
    Calls Try.prog 54 #[.slice A M.length cap, .slice A' M.length cap'] w fun e w' => e = .returned (.bool true) ∧ Below w.heap.size w w' := by
  have HS := Stow.mk hS
  have HS' := Stow.mk hS'
  have hlen := hS.len
  simp only [List.length_map] at hlen
  clear hS hS'
  go_enter Try.func54, Try.ntmps54
  go_wp2_with fail
  go_loopw [5] (fun v wr => ∃ j : Nat, v = .int .i64 j ∧ j ≤ M.length ∧ Below w.heap.size w wr) (fun v _ => M.length - (intOf v).toNat)
  case atStart => exact ⟨0, rfl, by omega, Below.self _⟩
  case round =>
    obtain ⟨j, rfl, hj, hbr⟩ := hrel
    by_cases hlt : j < M.length
    · have hS1 := HS.out.keep hbr
      have hS2 := HS'.out.keep hbr
      obtain ⟨b, off, rfl, hb, _⟩ := hS1.open (by simp; omega)
      obtain ⟨b', off', rfl, hb', _⟩ := hS2.open (by simp; omega)
      have hi : (M.map enc)[j]? = some (enc M[j]) := by rw [List.getElem?_map, List.getElem?_eq_getElem hlt]; rfl
      obtain ⟨_, c1⟩ := hS1.cells hi
      obtain ⟨_, c2⟩ := hS2.cells hi
      obtain ⟨s, hs⟩ : ∃ s, M[j] = s := ⟨_, rfl⟩
      rw [hs] at c1 c2
      obtain ⟨x, y⟩ := s
      have q0 := c1 0 _ rfl
      have q1 := c1 1 _ rfl
      have p0 := c2 0 _ rfl
      have p1 := c2 1 _ rfl
      simp only [Nat.add_zero] at q0 p0
      have hji : (j : Int) < M.length := by omega
      have heq : ∀ w', (Op.equalIn 10000 90 (.agg #[.string (bs x), .string (bs y)]) (.agg #[.string (bs x), .string (bs y)])).run Try.prog w' = .ok true w' := fun w' => by
        rw [eq_entry 9998]
        simp
      clear c1 c2 hi hs hS1 hS2
      go_wp2_with fail
      go_quiet (fail)
      go_wp2_with fail
      exact ⟨⟨j + 1, rfl, by omega, Below.drewN' hbr _⟩, by simp [intOf]; omega⟩
    · obtain rfl : j = M.length := by omega
      go_wp2_with fail
      go_ret
      exact ⟨rfl, hbr⟩

/-! Fixed books. -/
def Bk.k1 : Bk.St := ((Bk.new 2).put 1 false [107] [118]).1
def Bk.k2 : Bk.St := (Bk.k1.put 1 true [107] [119]).1
def Bk.k3 : Bk.St := (Bk.k2.put 2 false [107] [118]).1
theorem k36a : ((Bk.new 2).put 1 false [107] [118]).2 = true := by decide +kernel
theorem k36b : (Bk.k1.put 1 true [107] [119]).2 = true := by decide +kernel
theorem k36c : (Bk.k2.put 2 false [107] [118]).2 = false := by decide +kernel
theorem k36d : (Bk.get (Bk.k3.of 1 false) [107]).getD [] = [118] ∧ Bk.has (Bk.k3.of 1 false) [107] = true := by decide +kernel
theorem k36e : (Bk.get (Bk.k3.of 0 false) [107]).getD [] = [] ∧ Bk.has (Bk.k3.of 0 false) [107] = false := by decide +kernel
theorem k36f : Bk.k3.of 1 true = [([107], [119])] := by decide +kernel
theorem k36g : Bk.k3.lost = 0 := by decide +kernel
theorem k36s : Bk.k3.Short := Bk.put_short (Bk.put_short (Bk.put_short (Bk.new_short 2) 1 false (by unfold maxLen; decide) _) 1 true (by unfold maxLen; decide) _) 2 false (by unfold maxLen; decide) _
theorem len_one (b : UInt8) : ([b] : List UInt8).length ≤ maxLen := by unfold maxLen; simp
set_option maxHeartbeats 4000000 in
set_option maxRecDepth 100000 in
theorem known36_any (w : World) : Calls Try.prog 46 #[] w fun e w' => e = .returned (.bool true) ∧ Below w.heap.size w w' := by
  go_enter Try.func46, Try.ntmps46
  go_wp2_with fail
  refine (bkNew_any 2 w).mono ?_
  rintro e w1 ⟨g, rfl, hB, hW⟩
  have HB := Stow.mk hB
  have HF : Stow (∀ i, w.heap.size ≤ i → w.heap.size ≤ i) := ⟨fun _ h => h⟩
  have HW := Stow.mk hW
  clear hB hW
  go_wp2_with fail
  refine (bkPut_b 1 false [107] [118] HB.out (by decide) (len_one _) (len_one _) HF.out HW.out).mono ?_
  rintro e w2 ⟨he, F2, hB, hF, hW⟩
  rw [k36a] at he
  subst he
  have HB : Stow (BKs w2 F2 g Bk.k1 _) := ⟨hB⟩
  have HF := Stow.mk hF
  have HW := Stow.mk hW
  clear hB hF hW
  go_wp2_with fail
  refine (bkPut_b 1 true [107] [119] HB.out (by decide) (len_one _) (len_one _) HF.out HW.out).mono ?_
  rintro e w3 ⟨he, F3, hB, hF, hW⟩
  rw [k36b] at he
  subst he
  have HB : Stow (BKs w3 F3 g Bk.k2 _) := ⟨hB⟩
  have HF := Stow.mk hF
  have HW := Stow.mk hW
  clear hB hF hW
  go_wp2_with fail
  refine (bkPut_b 2 false [107] [118] HB.out (by decide) (len_one _) (len_one _) HF.out HW.out).mono ?_
  rintro e w4 ⟨he, F4, hB, hF, hW⟩
  rw [k36c] at he
  subst he
  have HB : Stow (BKs w4 F4 g Bk.k3 _) := ⟨hB⟩
  have HF := Stow.mk hF
  have HW := Stow.mk hW
  clear hB hF hW
  have HG1 := bkGet_any w4 F4 g _ Bk.k3 1 false [107] HB.out (len_one _)
  rw [k36d.1, k36d.2] at HG1
  have HG1 := Stow.mk HG1
  go_wp2_with fail
  refine HG1.out.mono ?_
  rintro e w5 ⟨rfl, hb5⟩
  have HB := Stow.mk (HB.out.keep hb5)
  have HW := Stow.mk (HW.out.trans (hb5.mono HW.out.size))
  clear hb5 HG1
  have HG2 := bkGet_any w5 F4 g _ Bk.k3 0 false [107] HB.out (len_one _)
  rw [k36e.1, k36e.2] at HG2
  have HG2 := Stow.mk HG2
  go_wp2_with fail
  refine HG2.out.mono ?_
  rintro e w6 ⟨rfl, hb6⟩
  have HB := Stow.mk (HB.out.keep hb6)
  have HW := Stow.mk (HW.out.trans (hb6.mono HW.out.size))
  clear hb6 HG2
  go_wp2_with fail
  refine (bkGet_nil _ _ _ w6).mono ?_
  rintro e w7 ⟨rfl, hw7⟩
  subst hw7
  have HA := bkAll_any w7 F4 g _ Bk.k3 1 true HB.out k36s
  rw [k36f] at HA
  have HA := Stow.mk HA
  go_wp2_with fail
  refine HA.out.mono ?_
  rintro e w8 ⟨A8, c8, rfl, hE, hb8⟩
  have HB := Stow.mk (HB.out.keep hb8)
  have HW := Stow.mk (HW.out.trans (hb8.mono HW.out.size))
  have HL : Stow (EnR (w8.alloc (.cells #[.string (bs [107]), .string (bs [119])] 90)) (some ⟨w8.heap.size, 0, none⟩) 1 [([107], [119])]) := ⟨by
    have h := Held.made w8 [.string (bs [107]), .string (bs [119])] 90
    refine ⟨_, 1, rfl, Nat.le_refl _, by unfold maxLen; omega, fun _ => ⟨_, 0, rfl, h.lt, fun i x hx j u hu => ?_⟩⟩
    match i, hx with
    | 0, hx => simp at hx; subst hx; simp only [Nat.zero_mul, Nat.zero_add]; exact h.cell hu
    | i + 1, hx => simp at hx⟩
  have HE := Stow.mk (SlR.keep hE (Below.alloc' (Below.self w8) (.cells #[.string (bs [107]), .string (bs [119])] 90)))
  have HAL := Stow.mk (Below.alloc' (Below.self w8) (.cells #[.string (bs [107]), .string (bs [119])] 90))
  have HS := Stow.mk (enSame_any [([107], [119])] A8 (some ⟨w8.heap.size, 0, none⟩) c8 1 _ HE.out HL.out)
  clear hE hb8 HA
  go_wp2_with fail
  refine HS.out.mono ?_
  rintro e w9 ⟨rfl, hb9⟩
  have hb99 := HAL.out.trans (hb9.mono HAL.out.size)
  have HB := Stow.mk (HB.out.keep hb99)
  have HW := Stow.mk (HW.out.trans (hb99.mono HW.out.size))
  clear hb9 hb99 HS HE HL HAL
  have HLO := bkLost_any w9 F4 g _ Bk.k3 HB.out
  rw [k36g] at HLO
  have HLO := Stow.mk HLO
  go_wp2_with fail
  refine HLO.out.mono ?_
  rintro e w10 ⟨rfl, hw10⟩
  rw [← hw10] at HW
  clear hw10
  go_wp2_with fail
  refine (bkPut_nil _ _ _ _ w10).mono ?_
  rintro e w11 ⟨rfl, hw11⟩
  rw [← hw11] at HW
  clear hw11
  go_wp2_with fail
  refine (bkAll_nil _ _ w11).mono ?_
  rintro e w12 ⟨rfl, hw12⟩
  rw [← hw12] at HW
  clear hw12
  go_wp2_with fail
  refine (bkLost_nil w12).mono ?_
  rintro e w13 ⟨rfl, hw13⟩
  rw [← hw13] at HW
  clear hw13
  go_wp2_with fail
  go_ret
  exact ⟨rfl, HW.out⟩
end Go.Proofs.Ythbpcdoddcacdaa
