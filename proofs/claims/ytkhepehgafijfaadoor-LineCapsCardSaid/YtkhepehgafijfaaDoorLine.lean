/- Walks of line.Escape and of the reference's. Condition: texts are not longer than 2^40. -/
import Derived.Test.YtkhepehgafijfaaDoorProg
import Derived.Test.YtkhepehgafijfaaDoorSlice
import Derived.Test.YtkhepehgafijfaaDoorLineSpec
import Derived.StillTailTactics
namespace Go.Proofs.YtkhepehgafijfaaDoor
open Go.RowKit
set_option linter.unusedVariables false

theorem info_u8L : (Tryd.prog.info? 5).map (fun i => (i.zero, i.size, i.bytes)) = some (some (.int .u8 0), 1, 1) := by kernel_rfl

theorem hexd_at (n : Nat) (h : n < 16) : ([48, 49, 50, 51, 52, 53, 54, 55, 56, 57, 97, 98, 99, 100, 101, 102] : List UInt8)[n]? = some (Ln.hexd n) := by
  have : ∀ n, n < 16 → ([48, 49, 50, 51, 52, 53, 54, 55, 56, 57, 97, 98, 99, 100, 101, 102] : List UInt8)[n]? = some (Ln.hexd n) := by decide +kernel
  exact this n h
theorem hexd_idx (x : Int) (n : Nat) (hx : x = n) (hn : n < 16) (h : x.toNat < ([48, 49, 50, 51, 52, 53, 54, 55, 56, 57, 97, 98, 99, 100, 101, 102] : List UInt8).length) :
    (([48, 49, 50, 51, 52, 53, 54, 55, 56, 57, 97, 98, 99, 100, 101, 102] : List UInt8)[x.toNat]'h) = Ln.hexd n := by
  subst hx
  have := hexd_at n hn
  simp only [Int.toNat_natCast]
  rw [List.getElem?_eq_getElem (by simpa using hn)] at this
  simpa using this
theorem hexd_nat (n : Nat) (hn : n < 16) : (([48, 49, 50, 51, 52, 53, 54, 55, 56, 57, 97, 98, 99, 100, 101, 102] : List UInt8)[n]'hn) = Ln.hexd n := by
  have := hexd_at n hn
  rw [List.getElem?_eq_getElem (by simpa using hn)] at this
  simpa using this
theorem and_15 (n : Nat) (h : n < 256) : bits .and .u8 (n : Int) 15 = ((n % 16 : Nat) : Int) := by
  have h1 := bits_and_u8 n 15 h (by omega)
  rw [show ((15 : Nat) : Int) = 15 from rfl] at h1
  rw [h1, show n &&& 15 = n % 2 ^ 4 from Nat.and_two_pow_sub_one_eq_mod n 4]
theorem esc_take {l : List UInt8} {i : Nat} (h : i < l.length) : (l.take (i + 1)).flatMap Ln.escB = (l.take i).flatMap Ln.escB ++ Ln.escB l[i] := by
  rw [List.take_succ_eq_append_getElem h, List.flatMap_append]
  simp

set_option maxHeartbeats 1000000 in
set_option maxRecDepth 100000 in
theorem escape_any (l : List UInt8) (w : World) (hl : l.length ≤ 1099511627776) :
    Calls Tryd.prog 11 #[.string (bs l)] w fun e w' => e = .returned (.string (bs (Ln.esc l))) ∧ Below w.heap.size w w' := by
  have lk : (⟨#[45]⟩ : ByteArray) = bs [45] := rfl
  by_cases h0 : l = []
  · subst h0
    go_enter Tryd.func11, Tryd.ntmps11
    go_wp2_with fail
    go_ret
    exact ⟨rfl, Below.self _⟩
  have HE : Stow (Ln.esc l = l.flatMap Ln.escB) := ⟨by simp [Ln.esc, h0]⟩
  have h0e : l.isEmpty = false := by simpa using h0
  clear h0
  have lh : (⟨#[48, 49, 50, 51, 52, 53, 54, 55, 56, 57, 97, 98, 99, 100, 101, 102]⟩ : ByteArray) = bs [48, 49, 50, 51, 52, 53, 54, 55, 56, 57, 97, 98, 99, 100, 101, 102] := rfl
  go_enter Tryd.func11, Tryd.ntmps11
  go_wp2_with fail
  go_loopw [3, 4, 5, 10, 20, 34] (fun o _ _ v _ _ wr => ∃ i : Nat, v = .int .i64 i ∧ i ≤ l.length ∧ BRow wr w.heap.size 5 o ((l.take i).flatMap Ln.escB) ∧ Below w.heap.size w wr) (fun _ _ _ v _ _ _ => l.length - (intOf v).toNat)
  case atStart => exact ⟨0, rfl, by omega, BRow.nil _ _ _, Below.self _⟩
  case round =>
    obtain ⟨i, rfl, hi, hown, hbr⟩ := hrel
    by_cases hlt : i < l.length
    · have HN := Stow.mk (esc_take hlt)
      have hfl := (Ln.flat_len (l.take i)).2
      have hfl2 : ((l.take i).flatMap Ln.escB).length ≤ 4398046511104 := by simp only [List.length_take] at hfl; omega
      clear hfl
      have hb256 := UInt8.toNat_lt l[i]
      generalize (l.take i).flatMap Ln.escB = acc at HN hown hfl2
      have d15 := and_15 l[i].toNat (by omega)
      by_cases hout : l[i].toNat < 32 ∨ 126 < l[i].toNat
      · have HX : Stow (Ln.escB l[i] = [92, 120, Ln.hexd (l[i].toNat / 16), Ln.hexd (l[i].toNat % 16)]) := ⟨by unfold Ln.escB; rw [if_pos hout]⟩
        by_cases h32 : l[i].toNat < 32
        · clear hout
          have hownd : BRow wr.drew w.heap.size 5 _ acc := hown
          have D15 := Stow.mk d15
          clear d15
          go_wp2_with fail
          have d15 := D15.out
          clear D15
          generalize l[i].toNat = n at *
          obtain ⟨q, hq⟩ : ∃ q, n / 16 = q := ⟨_, rfl⟩
          obtain ⟨r, hr⟩ : ∃ r, n % 16 = r := ⟨_, rfl⟩
          have e16 : (n : Int) / 16 = (q : Int) := by omega
          have e15 : bits .and .u8 (n : Int) 15 = (r : Int) := by rw [d15, hr]
          have hq16 : q < 16 := by omega
          have hr16 : r < 16 := by omega
          have hq16i : (q : Int) < 16 := by omega
          have hr16i : (r : Int) < 16 := by omega
          have v1 := hexd_nat q hq16
          have v2 := hexd_nat r hr16
          rw [hq, hr] at HX
          have HX2 : Stow (Ln.escB l[i] = [92, 120, ([48, 49, 50, 51, 52, 53, 54, 55, 56, 57, 97, 98, 99, 100, 101, 102] : List UInt8)[q]'hq16, ([48, 49, 50, 51, 52, 53, 54, 55, 56, 57, 97, 98, 99, 100, 101, 102] : List UInt8)[r]'hr16]) := ⟨by rw [HX.out, v1, v2]⟩
          have HXS : ([.int .u8 92, .int .u8 120, .int .u8 ((([48, 49, 50, 51, 52, 53, 54, 55, 56, 57, 97, 98, 99, 100, 101, 102] : List UInt8)[q]'hq16).toNat : Int), .int .u8 ((([48, 49, 50, 51, 52, 53, 54, 55, 56, 57, 97, 98, 99, 100, 101, 102] : List UInt8)[r]'hr16).toNat : Int)] : List Value) = [92, 120, ([48, 49, 50, 51, 52, 53, 54, 55, 56, 57, 97, 98, 99, 100, 101, 102] : List UInt8)[q]'hq16, ([48, 49, 50, 51, 52, 53, 54, 55, 56, 57, 97, 98, 99, 100, 101, 102] : List UInt8)[r]'hr16].map fun b => Value.int .u8 (b.toNat : Int) := rfl
          have HXT := Stow.mk HXS
          clear HXS v1 v2
          clear hq hr d15
          go_region_law (refine step_append_bytes _ hownd [92, 120, ([48, 49, 50, 51, 52, 53, 54, 55, 56, 57, 97, 98, 99, 100, 101, 102] : List UInt8)[q]'hq16, ([48, 49, 50, 51, 52, 53, 54, 55, 56, 57, 97, 98, 99, 100, 101, 102] : List UInt8)[r]'hr16] HXT.out rfl (.tmp 25) (.tmp 32) 57 rfl Tryd.underlying57 info_u8L rfl _ rfl rfl (by simp; omega) hbr.size ?_; intro v' w1 hown1 hb1 hs1)
          all_goals
            go_wp2_with fail
            have e : (l.take (i + 1)).flatMap Ln.escB = acc ++ [92, 120, ([48, 49, 50, 51, 52, 53, 54, 55, 56, 57, 97, 98, 99, 100, 101, 102] : List UInt8)[q]'hq16, ([48, 49, 50, 51, 52, 53, 54, 55, 56, 57, 97, 98, 99, 100, 101, 102] : List UInt8)[r]'hr16] := by rw [HN.out, HX2.out]
            exact ⟨⟨i + 1, rfl, by omega, by rw [e]; exact hown1, Below.trans hbr.drew hb1⟩, by simp [intOf]; omega⟩
        · have h126 : 126 < l[i].toNat := by omega
          clear hout
          have hownd : BRow wr.drew w.heap.size 5 _ acc := hown
          have D15 := Stow.mk d15
          clear d15
          go_wp2_with fail
          have d15 := D15.out
          clear D15
          generalize l[i].toNat = n at *
          obtain ⟨q, hq⟩ : ∃ q, n / 16 = q := ⟨_, rfl⟩
          obtain ⟨r, hr⟩ : ∃ r, n % 16 = r := ⟨_, rfl⟩
          have e16 : (n : Int) / 16 = (q : Int) := by omega
          have e15 : bits .and .u8 (n : Int) 15 = (r : Int) := by rw [d15, hr]
          have hq16 : q < 16 := by omega
          have hr16 : r < 16 := by omega
          have hq16i : (q : Int) < 16 := by omega
          have hr16i : (r : Int) < 16 := by omega
          have v1 := hexd_nat q hq16
          have v2 := hexd_nat r hr16
          rw [hq, hr] at HX
          have HX2 : Stow (Ln.escB l[i] = [92, 120, ([48, 49, 50, 51, 52, 53, 54, 55, 56, 57, 97, 98, 99, 100, 101, 102] : List UInt8)[q]'hq16, ([48, 49, 50, 51, 52, 53, 54, 55, 56, 57, 97, 98, 99, 100, 101, 102] : List UInt8)[r]'hr16]) := ⟨by rw [HX.out, v1, v2]⟩
          have HXS : ([.int .u8 92, .int .u8 120, .int .u8 ((([48, 49, 50, 51, 52, 53, 54, 55, 56, 57, 97, 98, 99, 100, 101, 102] : List UInt8)[q]'hq16).toNat : Int), .int .u8 ((([48, 49, 50, 51, 52, 53, 54, 55, 56, 57, 97, 98, 99, 100, 101, 102] : List UInt8)[r]'hr16).toNat : Int)] : List Value) = [92, 120, ([48, 49, 50, 51, 52, 53, 54, 55, 56, 57, 97, 98, 99, 100, 101, 102] : List UInt8)[q]'hq16, ([48, 49, 50, 51, 52, 53, 54, 55, 56, 57, 97, 98, 99, 100, 101, 102] : List UInt8)[r]'hr16].map fun b => Value.int .u8 (b.toNat : Int) := rfl
          have HXT := Stow.mk HXS
          clear HXS v1 v2
          clear hq hr d15
          go_region_law (refine step_append_bytes _ hownd [92, 120, ([48, 49, 50, 51, 52, 53, 54, 55, 56, 57, 97, 98, 99, 100, 101, 102] : List UInt8)[q]'hq16, ([48, 49, 50, 51, 52, 53, 54, 55, 56, 57, 97, 98, 99, 100, 101, 102] : List UInt8)[r]'hr16] HXT.out rfl (.tmp 25) (.tmp 32) 57 rfl Tryd.underlying57 info_u8L rfl _ rfl rfl (by simp; omega) hbr.size ?_; intro v' w1 hown1 hb1 hs1)
          all_goals
            go_wp2_with fail
            have e : (l.take (i + 1)).flatMap Ln.escB = acc ++ [92, 120, ([48, 49, 50, 51, 52, 53, 54, 55, 56, 57, 97, 98, 99, 100, 101, 102] : List UInt8)[q]'hq16, ([48, 49, 50, 51, 52, 53, 54, 55, 56, 57, 97, 98, 99, 100, 101, 102] : List UInt8)[r]'hr16] := by rw [HN.out, HX2.out]
            exact ⟨⟨i + 1, rfl, by omega, by rw [e]; exact hown1, Below.trans hbr.drew hb1⟩, by simp [intOf]; omega⟩
      · clear d15
        by_cases hq : l[i] = 34 ∨ l[i] = 92
        · have HX : Stow (Ln.escB l[i] = [92, l[i]]) := ⟨by unfold Ln.escB; rw [if_neg hout, if_pos hq]⟩
          have k1 : ¬ l[i].toNat < 32 := by omega
          have k2 : ¬ 126 < l[i].toNat := by omega
          have HXS : ([.int .u8 92, .int .u8 (l[i].toNat : Int)] : List Value) = [92, l[i]].map fun b => Value.int .u8 (b.toNat : Int) := rfl
          have HXT := Stow.mk HXS
          clear HXS hout
          by_cases h34 : l[i] = 34
          · have e1 : ((l[i].toNat : Int) == 34) = true := by rw [h34]; rfl
            clear h34 hq
            go_wp2_with (at_builtin; refine wpList_append_bytes _ hown [92, l[i]] HXT.out rfl (.tmp 39) (.tmp 41) 57 rfl Tryd.underlying57 info_u8L rfl _ rfl rfl (by simp; omega) hbr.size ?_; intro v' w1 hown1 hb1 hs1)
            have e : (l.take (i + 1)).flatMap Ln.escB = acc ++ [92, l[i]] := by rw [HN.out, HX.out]
            exact ⟨⟨i + 1, rfl, by omega, by rw [e]; exact hown1, hbr.trans hb1⟩, by simp [intOf]; omega⟩
          · have e1 : ((l[i].toNat : Int) == 34) = false := by simp; intro e; exact h34 (UInt8.toNat_inj.1 (by simp; omega))
            have e2 : ((l[i].toNat : Int) == 92) = true := by rcases hq with h | h; exact absurd h h34; rw [h]; rfl
            clear h34 hq
            go_wp2_with (at_builtin; refine wpList_append_bytes _ hown [92, l[i]] HXT.out rfl (.tmp 39) (.tmp 41) 57 rfl Tryd.underlying57 info_u8L rfl _ rfl rfl (by simp; omega) hbr.size ?_; intro v' w1 hown1 hb1 hs1)
            have e : (l.take (i + 1)).flatMap Ln.escB = acc ++ [92, l[i]] := by rw [HN.out, HX.out]
            exact ⟨⟨i + 1, rfl, by omega, by rw [e]; exact hown1, hbr.trans hb1⟩, by simp [intOf]; omega⟩
        · have HX : Stow (Ln.escB l[i] = [l[i]]) := ⟨by unfold Ln.escB; rw [if_neg hout, if_neg hq]⟩
          have e1 : ((l[i].toNat : Int) == 34) = false := by simp; intro e; exact hq (.inl (UInt8.toNat_inj.1 (by simp; omega)))
          have e2 : ((l[i].toNat : Int) == 92) = false := by simp; intro e; exact hq (.inr (UInt8.toNat_inj.1 (by simp; omega)))
          have k1 : ¬ l[i].toNat < 32 := by omega
          have k2 : ¬ 126 < l[i].toNat := by omega
          have HXS : ([.int .u8 (l[i].toNat : Int)] : List Value) = [l[i]].map fun b => Value.int .u8 (b.toNat : Int) := rfl
          have HXT := Stow.mk HXS
          clear HXS
          clear hq hout
          go_wp2_with (at_builtin; refine wpList_append_bytes _ hown [l[i]] HXT.out rfl (.tmp 16) (.tmp 18) 57 rfl Tryd.underlying57 info_u8L rfl _ rfl rfl (by simp; omega) hbr.size ?_; intro v' w1 hown1 hb1 hs1)
          have e : (l.take (i + 1)).flatMap Ln.escB = acc ++ [l[i]] := by rw [HN.out, HX.out]
          exact ⟨⟨i + 1, rfl, by omega, by rw [e]; exact hown1, hbr.trans hb1⟩, by simp [intOf]; omega⟩
    · obtain rfl : i = l.length := by omega
      go_wp2_with (refine wpList_string_row rfl (.tmp 44) 57 9 rfl _ _ _ _ hown Tryd.underlying57 Tryd.underlying5 Tryd.underlying9 rfl ?_)
      go_ret
      exact ⟨by rw [HE.out]; rfl, hbr⟩
end Go.Proofs.YtkhepehgafijfaaDoor
