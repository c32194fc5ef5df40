/- Walks of the laws LineEscapes and LineApart. Condition: the library's table lies. -/
import Derived.Test.YtkhepehgafijfaaDoorLineKnown
namespace Go.Proofs.YtkhepehgafijfaaDoor
open Go.RowKit
set_option linter.unusedVariables false

set_option maxHeartbeats 1000000 in
set_option maxRecDepth 100000 in
theorem lineEscapes_any (l : List UInt8) (w : World) (hp : Pow10 w) :
    Calls Tryd.prog 3 #[.string (bs l)] w fun e w' => e = .returned (.bool true) ∧ Below w.heap.size w w' := by
  have HP := Stow.mk hp
  clear hp
  by_cases hbig : 1000 < l.length
  · go_enter Tryd.func3, Tryd.ntmps3
    go_wp2_with fail
    refine (known20_any _ HP.out).mono ?_
    rintro e w1 ⟨rfl, hb1⟩
    go_wp2_with fail
    go_ret
    exact ⟨rfl, hb1⟩
  have hel := Ln.esc_len l
  obtain ⟨hel1, hel2⟩ := hel
  have hpl := Ln.esc_plain l
  obtain ⟨t, ht⟩ : ∃ t, Ln.esc l = t := ⟨_, rfl⟩
  rw [ht] at hpl hel1 hel2
  have HT := Stow.mk ht
  have HPL := Stow.mk hpl
  clear ht hpl
  go_enter Tryd.func3, Tryd.ntmps3
  go_wp2_with fail
  refine (escape_any l _ (by omega)).mono ?_
  rw [HT.out]
  rintro e w1 ⟨rfl, hb1⟩
  have HB1 := Stow.mk hb1
  clear hb1
  go_wp2_with fail
  go_loop [4] (fun v => ∃ i : Nat, v = .int .i64 i ∧ i ≤ t.length) (fun v => t.length - (intOf v).toNat)
  case atStart => exact ⟨0, rfl, by omega⟩
  case round =>
    obtain ⟨i, rfl, hi⟩ := hrel
    by_cases hlt : i < t.length
    · have hc := HPL.out t[i] (List.getElem_mem hlt)
      obtain ⟨hc1, hc2⟩ := hc
      have k1 : ¬ t[i].toNat < 32 := by omega
      have k2 : ¬ 126 < t[i].toNat := by omega
      have d1 : decide ((t[i].toNat : Int) < 32) = false := by simp; omega
      have d2 : decide ((126 : Int) < (t[i].toNat : Int)) = false := by simp; omega
      go_wp2_with fail
      exact ⟨⟨i + 1, rfl, by omega⟩, by simp [intOf]; omega⟩
    · obtain rfl : i = t.length := by omega
      go_wp2_with fail
      refine (refEscape_any l _ (by omega)).mono ?_
      rw [HT.out]
      rintro e w2 ⟨rfl, rfl⟩
      go_wp2_with fail
      refine (known20_any _ (HP.out.keep HB1.out)).mono ?_
      rintro e w3 ⟨rfl, hb3⟩
      go_wp2_with fail
      go_ret
      exact ⟨rfl, Below.call HB1.out hb3⟩

set_option maxHeartbeats 1000000 in
set_option maxRecDepth 100000 in
theorem lineApart_any (a b : List UInt8) (w : World) (hp : Pow10 w) :
    Calls Tryd.prog 6 #[.string (bs a), .string (bs b)] w fun e w' => e = .returned (.bool true) ∧ Below w.heap.size w w' := by
  have HP := Stow.mk hp
  clear hp
  have lk : (⟨#[45]⟩ : ByteArray) = bs [45] := rfl
  have lk4 : (⟨#[]⟩ : ByteArray) = bs [] := rfl
  have FIN : Stow (∀ w : World, Pow10 w → Calls Tryd.prog 10 #[] w fun e w' => e = .returned (.bool true) ∧ Below w.heap.size w w') := ⟨fun w h => known20_any w h⟩
  by_cases hA : 1000 < a.length
  · go_enter Tryd.func6, Tryd.ntmps6
    go_wp2_with fail
    refine (known20_any _ HP.out).mono ?_
    rintro e w1 ⟨rfl, hb1⟩
    go_wp2_with fail
    go_ret
    exact ⟨rfl, hb1⟩
  by_cases hB : 1000 < b.length
  · go_enter Tryd.func6, Tryd.ntmps6
    go_wp2_with fail
    refine (known20_any _ HP.out).mono ?_
    rintro e w1 ⟨rfl, hb1⟩
    go_wp2_with fail
    go_ret
    exact ⟨rfl, hb1⟩
  by_cases h1 : a = [] ∧ b = [45]
  · obtain ⟨rfl, rfl⟩ := h1
    go_enter Tryd.func6, Tryd.ntmps6
    go_wp2_with fail
    refine (known20_any _ HP.out).mono ?_
    rintro e w1 ⟨rfl, hb1⟩
    go_wp2_with fail
    go_ret
    exact ⟨rfl, hb1⟩
  by_cases h2 : a = [45] ∧ b = []
  · obtain ⟨rfl, rfl⟩ := h2
    go_enter Tryd.func6, Tryd.ntmps6
    go_wp2_with fail
    refine (known20_any _ HP.out).mono ?_
    rintro e w1 ⟨rfl, hb1⟩
    go_wp2_with fail
    go_ret
    exact ⟨rfl, hb1⟩
  have HAP := Stow.mk (Ln.esc_apart a b (by rintro (h | h); exact h1 h; exact h2 h))
  obtain ⟨c, hc⟩ : ∃ c, (a == b) = c := ⟨_, rfl⟩
  have hd : (Ln.esc a == Ln.esc b) = c := by
    rw [← hc, Bool.eq_iff_iff, beq_iff_eq, beq_iff_eq]; exact HAP.out
  obtain ⟨p, hp⟩ : ∃ p, (a.isEmpty) = p := ⟨_, rfl⟩
  obtain ⟨q, hq⟩ : ∃ q, (b.isEmpty) = q := ⟨_, rfl⟩
  obtain ⟨p2, hp2⟩ : ∃ p, (a == [45]) = p := ⟨_, rfl⟩
  obtain ⟨q2, hq2⟩ : ∃ q, (b == [45]) = q := ⟨_, rfl⟩
  have hn1 : ¬ (p = true ∧ q2 = true) := by rintro ⟨rfl, rfl⟩; exact h1 ⟨by simpa using hp, by simpa using hq2⟩
  have hn2 : ¬ (p2 = true ∧ q = true) := by rintro ⟨rfl, rfl⟩; exact h2 ⟨by simpa using hp2, by simpa using hq⟩
  clear h1 h2
  cases p <;> cases q <;> cases p2 <;> cases q2
  all_goals first | exact absurd ⟨rfl, rfl⟩ hn1 | exact absurd ⟨rfl, rfl⟩ hn2 | skip
  all_goals
    clear hn1 hn2
    go_enter Tryd.func6, Tryd.ntmps6
    go_wp2_with fail
    refine (escape_any a _ (by omega)).mono ?_
    rintro e w1 ⟨rfl, hb1⟩
    have HB1 := Stow.mk hb1
    clear hb1
    go_wp2_with fail
    refine (escape_any b _ (by omega)).mono ?_
    rintro e w2 ⟨rfl, hb2⟩
    have HB2 := Stow.mk hb2
    clear hb2
    cases c
    all_goals
      go_wp2_with fail
      refine (known20_any _ ((HP.out.keep HB1.out).keep HB2.out)).mono ?_
      rintro e w3 ⟨rfl, hb3⟩
      go_wp2_with fail
      go_ret
      exact ⟨rfl, Below.call (Below.call HB1.out HB2.out) hb3⟩
end Go.Proofs.YtkhepehgafijfaaDoor
