/- Walks of the reference's digits, and numbers of traces and spans. No condition. -/
import Derived.Test.YtfbhdkkmcfnghaaGreatDoorInPar
namespace Go.Proofs.YtfbhdkkmcfnghaaGreatDoor
open Go.RowKit
set_option linter.unusedVariables false

theorem In.hex_front (i n : Nat) : In.hex (i + 1) n = In.dig (UInt8.ofNat (n / 16 ^ i % 16)) :: In.hex i n := by
  unfold In.hex
  rw [Oc.digs_front]
  rfl
theorem In.hex_slice : ∀ d : Nat, d < 16 → (([48, 49, 50, 51, 52, 53, 54, 55, 56, 57, 97, 98, 99, 100, 101, 102] : List UInt8).drop d).take 1 = [In.dig (UInt8.ofNat d)] := by decide
set_option maxHeartbeats 400000 in
set_option maxRecDepth 100000 in
theorem refFits_any (k : Nat) (x y z : Int) (n : Nat) (hx : x = n) (hy : y = 16) (hz : z = k) (w : World) (hn : n < 18446744073709551616) (h16 : k ≤ 16) (hnk : n < 16 ^ k) :
    Calls Tryz.prog 133 #[.int .u64 x, .int .u64 y, .int .i64 z] w fun e w' => e = .returned (.bool true) ∧ w' = w := by
  subst hx; subst hy; subst hz
  have HNK := Stow.mk hnk
  clear hnk
  go_enter Tryz.func133, Tryz.ntmps133
  go_wp2_with fail
  go_loopw [0, 7] (fun m v wr => wr = w ∧ ∃ i : Nat, v = .int .i64 i ∧ i ≤ k ∧ ∃ q : Nat, m = .int .u64 (q : Int) ∧ q < 18446744073709551616 ∧ Stow (q = n / 16 ^ i)) (fun _ v _ => k - (intOf v).toNat)
  case atStart => exact ⟨rfl, 0, rfl, by omega, n, rfl, hn, ⟨by simp⟩⟩
  case round =>
    obtain ⟨rfl, i, rfl, hi, q, rfl, hq, HQ⟩ := hrel
    by_cases hlt : i < k
    · have hii : (i : Int) < k := by omega
      go_wp2_with fail
      exact ⟨⟨by trivial, i + 1, rfl, by omega, q / 16, by simp, by omega, ⟨by rw [HQ.out, Nat.div_div_eq_div_mul, Nat.pow_succ]⟩⟩, by simp [intOf]; omega⟩
    · obtain rfl : i = k := by omega
      obtain rfl : q = 0 := by rw [HQ.out]; exact Nat.div_eq_of_lt HNK.out
      go_wp2_with fail
      go_ret
      exact ⟨by first | rfl | simp, rfl⟩
set_option maxHeartbeats 400000 in
set_option maxRecDepth 100000 in
theorem refHex_any (k : Nat) (x y : Int) (n : Nat) (hx : x = n) (hy : y = k) (w : World) (hn : n < 18446744073709551616) (h1 : 1 ≤ k) (h16 : k ≤ 16) (hnk : n < 16 ^ k) :
    Calls Tryz.prog 78 #[.int .u64 x, .int .i64 y] w fun e w' => e = .returned (.tuple #[.string (bs (In.hex k n)), .int .i64 0]) ∧ w' = w := by
  subst hx; subst hy
  have HNK := Stow.mk hnk
  have hxb : (⟨#[48, 49, 50, 51, 52, 53, 54, 55, 56, 57, 97, 98, 99, 100, 101, 102]⟩ : ByteArray) = bs [48, 49, 50, 51, 52, 53, 54, 55, 56, 57, 97, 98, 99, 100, 101, 102] := rfl
  clear hnk
  go_enter Tryz.func78, Tryz.ntmps78
  go_wp2_with fail
  refine (refFits_any k _ _ _ n rfl rfl rfl _ hn h16 HNK.out).mono ?_
  rintro e w1 ⟨rfl, rfl⟩
  go_wp2_with fail
  go_loopw [0, 7, 8, 9] (fun m s v _ wr => wr = w1 ∧ ∃ i : Nat, v = .int .i64 i ∧ i ≤ k ∧ ∃ q : Nat, m = .int .u64 (q : Int) ∧ q < 18446744073709551616 ∧ Stow (q = n / 16 ^ i) ∧ ∃ t : List UInt8, s = .string (bs t) ∧ t.length ≤ 16 ∧ Stow (t = In.hex i n)) (fun _ _ v _ _ => k - (intOf v).toNat)
  case atStart => exact ⟨rfl, 0, rfl, by omega, n, rfl, hn, ⟨by simp⟩, [], rfl, by simp, ⟨rfl⟩⟩
  case round =>
    obtain ⟨rfl, i, rfl, hi, q, rfl, hq, HQ, t, rfl, ht, HT⟩ := hrel
    by_cases hlt : i < k
    · have hii : (i : Int) < k := by omega
      have hm : q % 16 < 16 := Nat.mod_lt _ (by omega)
      have HSL := Stow.mk (In.hex_slice (q % 16) hm)
      obtain ⟨d, hd⟩ : ∃ d, q % 16 = d := ⟨_, rfl⟩
      have hdi : ((q : Int) % 16) = (d : Int) := by omega
      rw [hd] at hm HSL
      have HD := Stow.mk hd
      clear hd
      go_wp2_with fail
      refine ⟨⟨by trivial, i + 1, rfl, by omega, q / 16, by simp, by omega, ⟨by rw [HQ.out, Nat.div_div_eq_div_mul, Nat.pow_succ]⟩, _, rfl, ?_, ⟨?_⟩⟩, by simp [intOf]; omega⟩
      · rw [HSL.out, HT.out]
        simp [In.hex_len]
        omega
      · rw [HSL.out, HT.out, In.hex_front, ← HQ.out, HD.out]
        rfl
    · obtain rfl : i = k := by omega
      go_wp2_with fail
      go_ret2
      exact ⟨by rw [HT.out]; rfl, rfl⟩

set_option maxHeartbeats 1000000 in
set_option maxRecDepth 100000 in
theorem refUnhex_any (l : List UInt8) (w : World) (hl : l.length ≤ 9223372036854775807) :
    Calls Tryz.prog 96 #[.string (bs l)] w fun e w' => e = .returned (.tuple #[.int .u64 ((In.unhex l).1 : Nat), .int .i64 ((In.unhex l).2 : Nat)]) ∧ w' = w := by
  by_cases h1 : l.length < 1
  · have HU : Stow (In.unhex l = (0, 3)) := ⟨by unfold In.unhex; rw [if_neg (by omega)]⟩
    go_enter Tryz.func96, Tryz.ntmps96
    go_wp2_with fail
    go_ret2
    exact ⟨by rw [HU.out]; rfl, rfl⟩
  by_cases h2 : 16 < l.length
  · have HU : Stow (In.unhex l = (0, 3)) := ⟨by unfold In.unhex; rw [if_neg (by omega)]⟩
    go_enter Tryz.func96, Tryz.ntmps96
    go_wp2_with fail
    go_ret2
    exact ⟨by rw [HU.out]; rfl, rfl⟩
  go_enter Tryz.func96, Tryz.ntmps96
  go_wp2_with fail
  go_loopw [4, 5, 6] (fun m v _ wr => wr = w ∧ ∃ i : Nat, v = .int .i64 i ∧ i ≤ l.length ∧ ∃ q : Nat, m = .int .u64 (q : Int) ∧ Stow (q = In.num (l.take i)) ∧ Stow (In.isHex (l.take i) = true)) (fun _ v _ _ => l.length - (intOf v).toNat)
  case atStart => exact ⟨rfl, 0, rfl, by omega, 0, rfl, ⟨rfl⟩, ⟨rfl⟩⟩
  case round =>
    obtain ⟨rfl, i, rfl, hi, q, rfl, HQ, HX⟩ := hrel
    by_cases hlt : i < l.length
    · have hnl := In.num_lt (l.take i) HX.out
      have h15 : (l.take i).length ≤ 15 := by simp; omega
      have hroom : q < 1152921504606846976 := by
        have h3 : 16 ^ (l.take i).length ≤ 16 ^ 15 := Nat.pow_le_pow_right (by omega) h15
        have e : (16 : Nat) ^ 15 = 1152921504606846976 := rfl
        rw [HQ.out]
        omega
      have HN := Stow.mk (In.num_next l i hlt)
      have HXN := Stow.mk (In.isHex_next l i hlt)
      obtain ⟨b, hb⟩ : ∃ b, l[i] = b := ⟨_, rfl⟩
      have HBB := Stow.mk hb
      rw [hb] at HN HXN
      have hlb : i < (bs l).size := hlt
      have hbn : ∃ u, (l[i]'hlb).toNat = u := ⟨_, rfl⟩
      clear hnl h15
      obtain ⟨u, hu⟩ := hbn
      have hub : b.toNat = u := by rw [← hb]; exact hu
      have HUB := Stow.mk hub
      have hu8 : u < 256 := by rw [← hub]; exact b.toNat_lt
      clear hb hub
      by_cases hd : 48 ≤ u ∧ u ≤ 57
      · have HV : Stow (In.value b = u - 48) := ⟨by unfold In.value; rw [HUB.out, if_pos hd]⟩
        obtain ⟨hd1, hd2⟩ := hd
        go_wp2_with fail
        refine ⟨⟨by trivial, i + 1, rfl, by omega, 16 * q + (u - 48), ?_, ⟨by rw [HN.out, HV.out, HQ.out]⟩, ⟨?_⟩⟩, by simp [intOf]; omega⟩
        · congr 1; omega
        · rw [HXN.out, HX.out, HV.out]; simp; omega
      · by_cases hf : 97 ≤ u ∧ u ≤ 102
        · have HV : Stow (In.value b = u - 87) := ⟨by unfold In.value; rw [HUB.out, if_neg hd, if_pos hf]⟩
          obtain ⟨hf1, hf2⟩ := hf
          have hd3 : ¬ u ≤ 57 := by omega
          clear hd
          go_wp2_with fail
          refine ⟨⟨by trivial, i + 1, rfl, by omega, 16 * q + (u - 87), ?_, ⟨by rw [HN.out, HV.out, HQ.out]⟩, ⟨?_⟩⟩, by simp [intOf]; omega⟩
          · congr 1; omega
          · rw [HXN.out, HX.out, HV.out]; simp; omega
        · have HU : Stow (In.unhex l = (0, 3)) := ⟨by
            unfold In.unhex
            rw [if_neg]
            rw [In.isHex_bad hlt (by rw [HBB.out]; unfold In.value; rw [HUB.out, if_neg hd, if_neg hf]; omega)]
            simp⟩
          have h3 : u < 48 ∨ (57 < u ∧ u < 97) ∨ (57 < u ∧ 102 < u) := by omega
          clear hd hf
          rcases h3 with h3 | ⟨h3, h4⟩ | ⟨h3, h4⟩
          · have h5 : u < 97 := by omega
            go_wp2_with fail
            go_ret2
            exact ⟨by rw [HU.out]; rfl, rfl⟩
          · have h5 : 48 ≤ u := by omega
            go_wp2_with fail
            go_ret2
            exact ⟨by rw [HU.out]; rfl, rfl⟩
          · have h5 : 97 ≤ u := by omega
            have h6 : 48 ≤ u := by omega
            go_wp2_with fail
            go_ret2
            exact ⟨by rw [HU.out]; rfl, rfl⟩
    · obtain rfl : i = l.length := by omega
      have HU : Stow (In.unhex l = (In.num l, 0)) := ⟨by have := HX.out; rw [List.take_length] at this; unfold In.unhex; rw [if_pos ⟨by omega, by omega, this⟩]⟩
      obtain rfl : q = In.num l := by rw [HQ.out, List.take_length]
      clear HQ
      go_wp2_with fail
      go_ret2
      exact ⟨by rw [HU.out]; rfl, rfl⟩
set_option maxHeartbeats 400000 in
set_option maxRecDepth 100000 in
theorem refSpanText_any (x : Int) (n : Nat) (hx : x = n) (w : World) (hn : n < 18446744073709551616) :
    Calls Tryz.prog 40 #[.int .u64 x] w fun e w' => e = .returned (.string (bs (In.hex 16 n))) ∧ w' = w := by
  subst hx
  go_enter Tryz.func40, Tryz.ntmps40
  go_wp2_with fail
  refine (refHex_any 16 _ _ n rfl rfl _ hn (by omega) (by omega) (by have e : (16 : Nat) ^ 16 = 18446744073709551616 := rfl; omega)).mono ?_
  rintro e w1 ⟨rfl, rfl⟩
  go_wp2_with fail
  go_ret
  exact ⟨rfl, rfl⟩

set_option maxHeartbeats 1000000 in
set_option maxRecDepth 100000 in
theorem refText_any (hi lo : Nat) (w : World) (h1 : hi < 18446744073709551616) (h2 : lo < 18446744073709551616) :
    Calls Tryz.prog 79 #[.agg #[.int .u64 hi, .int .u64 lo]] w fun e w' => e = .returned (.string (bs (In.hex 16 hi ++ In.hex 16 lo))) ∧ Below w.heap.size w w' := by
  have hHM := Held.made w [.int .u64 hi, .int .u64 lo] 25
  have hl1 := In.hex_len 16 hi
  have hl2 := In.hex_len 16 lo
  have K1 := fun W => (refSpanText_any _ hi rfl W h1).mono fun e w' h => (⟨h.1, by rw [h.2]; exact Below.self _⟩ : e = .returned (.string (bs (In.hex 16 hi))) ∧ Below W.heap.size W w')
  have K2 := fun W => (refSpanText_any _ lo rfl W h2).mono fun e w' h => (⟨h.1, by rw [h.2]; exact Below.self _⟩ : e = .returned (.string (bs (In.hex 16 lo))) ∧ Below W.heap.size W w')
  generalize In.hex 16 hi = X at *
  generalize In.hex 16 lo = Y at *
  have HK1 := Stow.mk K1
  have HK2 := Stow.mk K2
  clear K1 K2
  go_enter Tryz.func79, Tryz.ntmps79
  go_wp2_with fail
  generalize hWe : World.alloc _ _ = W
  have hH : Held W w.heap.size [.int .u64 hi, .int .u64 lo] := by rw [← hWe]; exact hHM
  have hB : Below w.heap.size w W := by rw [← hWe]; exact Below.alloc' (Below.self _) _
  clear hWe hHM
  have ltX := hH.lt
  have a0 : ∀ x : Later W.heap.size W, x.1.cell? ⟨w.heap.size, 0, none⟩ = _ := fun x => x.cell (hH.cell (i := 0) rfl) ltX
  have a1 : ∀ x : Later W.heap.size W, x.1.cell? ⟨w.heap.size, 1, none⟩ = _ := fun x => x.cell (hH.cell (i := 1) rfl) ltX
  clear hH
  refine wp_region_later W.heap.size (by kernel_rfl) (by kernel_rfl) ?_
  go_big_quiet_step (fail)
  go_big_quiet_step (fail)
  go_big_quiet_step (exact Calls.later (Nat.le_refl _) (HK1.out _))
  go_big_quiet_step (fail)
  go_big_quiet_step (fail)
  go_big_quiet_step (exact Calls.later (Nat.le_refl _) (HK2.out _))
  go_big_quiet_step (fail)
  go_big_quiet_step (fail)
  refine wpQuiet_nil ?_
  rintro ⟨wx, hbx⟩
  clear a0 a1
  go_wp2_with fail
  go_ret
  exact ⟨rfl, hB.trans (hbx.mono hB.size)⟩
theorem eql_trace (hi lo : Nat) (w : World) : (Op.equalIn 10000 25 (.agg #[.int .u64 hi, .int .u64 lo]) (.agg #[.int .u64 0, .int .u64 0])).run Tryz.prog w = .ok (decide (hi = 0 ∧ lo = 0)) w := by
  have hu := Tryz.underlying23
  by_cases h1 : hi = 0
  · by_cases h2 : lo = 0
    · simp [go_sem, Tryz.underlying25, h1, h2]
    · simp [go_sem, Tryz.underlying25, h1, h2]
  · simp [go_sem, Tryz.underlying25, h1]
set_option maxHeartbeats 400000 in
set_option maxRecDepth 100000 in
theorem refZero_any (hi lo : Nat) (w : World) (h1 : hi < 18446744073709551616) (h2 : lo < 18446744073709551616) :
    Calls Tryz.prog 77 #[.agg #[.int .u64 hi, .int .u64 lo]] w fun e w' => e = .returned (.bool (decide (hi = 0 ∧ lo = 0))) ∧ Below w.heap.size w w' := by
  have he := eql_trace hi lo
  go_enter Tryz.func77, Tryz.ntmps77
  go_wp2_with fail
  go_ret
  exact ⟨by first | rfl | simp, Below.alloc' (Below.self _) _⟩
set_option maxHeartbeats 400000 in
set_option maxRecDepth 100000 in
theorem refSpanOf_any (l : List UInt8) (w : World) (hl : l.length = 16) (hx : In.isHex l = true) :
    Calls Tryz.prog 95 #[.string (bs l)] w fun e w' => e = .returned (.tuple #[.int .u64 (In.num l : Nat), .int .i64 (if In.num l = 0 then 11 else 0)]) ∧ w' = w := by
  have HU : Stow (In.unhex l = (In.num l, 0)) := ⟨by unfold In.unhex; rw [if_pos ⟨by omega, by omega, hx⟩]⟩
  obtain ⟨n, hn⟩ : ∃ n, In.num l = n := ⟨_, rfl⟩
  have HN := Stow.mk hn
  have HL : Stow (l.length ≤ 9223372036854775807) := ⟨by omega⟩
  by_cases h0 : n = 0
  · subst h0
    go_enter Tryz.func95, Tryz.ntmps95
    go_wp2_with fail
    refine (refUnhex_any l _ HL.out).mono ?_
    rw [HU.out, HN.out]
    rintro e w1 ⟨rfl, rfl⟩
    go_wp2_with fail
    go_ret2
    exact ⟨by first | rfl | (rw [HN.out]; rfl), rfl⟩
  · have hd : ((n : Int) == 0) = false := by rw [beq_eq_false_iff_ne]; omega
    have hif : Stow ((if In.num l = 0 then 11 else 0 : Int) = 0) := ⟨by rw [if_neg (by rw [hn]; exact h0)]⟩
    have hd2 : ¬ (n : Int) = 0 := by omega
    have hd3 : (n == 0) = false := by simpa using h0
    go_enter Tryz.func95, Tryz.ntmps95
    go_wp2_with fail
    refine (refUnhex_any l _ HL.out).mono ?_
    rw [HU.out]
    rintro e w1 ⟨rfl, rfl⟩
    go_wp2_with fail
    go_ret2
    exact ⟨by first | rfl | (rw [hif.out, HN.out]; rfl), rfl⟩
end Go.Proofs.YtfbhdkkmcfnghaaGreatDoor
