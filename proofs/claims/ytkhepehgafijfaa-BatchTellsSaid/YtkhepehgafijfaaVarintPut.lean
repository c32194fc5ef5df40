/- Walks of varint.Put and of the reference's Put: each gives the number's form. Condition: the argument is a uint64. -/
import Derived.Test.YtkhepehgafijfaaProg
import Derived.Test.YtkhepehgafijfaaLib
import Derived.Test.YtkhepehgafijfaaVarintSpec
namespace Go.Proofs.Ytkhepehgafijfaa
open Go.RowKit

theorem info_u8 : (Try.prog.info? 5).map (fun i => (i.zero, i.size, i.bytes)) = some (some (.int .u8 0), 1, 1) := by kernel_rfl

set_option maxHeartbeats 400000 in
set_option maxRecDepth 100000 in
theorem put_any (x : Int) (n : Nat) (hx : x = n) (w : World) (hn : n < 18446744073709551616) :
    Calls Try.prog 42 #[.int .u64 x] w fun e w' => e = .returned (.string (bs (Vr.put n))) ∧ Below w.heap.size w w' := by
  subst hx
  have HN : Hid (n < 2 * 128 ^ 9) := Lib.hid (by have e : 2 * 128 ^ 9 = 18446744073709551616 := rfl; omega)
  clear hn
  go_enter Try.func42, Try.ntmps42
  go_wp2
  go_loopw [0, 3] (fun m v wr => ∃ (f a : Nat) (l : List UInt8), m = .int .u64 a ∧ f + l.length = 9 ∧ Hid (a < 2 * 128 ^ f) ∧ Hid (Vr.put n = l ++ Vr.putF f a) ∧ BRow wr w.heap.size 5 v l ∧ Below w.heap.size w wr)
    (fun m _ _ => (intOf m).toNat)
  case atStart => exact ⟨9, n, [], rfl, rfl, HN, Lib.hid rfl, BRow.nil _ _ _, Below.refl _ _⟩
  case round =>
    obtain ⟨f, a, l, rfl, hf, HA, HP, hown, hnx⟩ := hrel
    have hl : l.length ≤ 9 := by omega
    by_cases h128 : a < 128
    · have hb : (Value.int .u8 (a : Int)) = .int .u8 ((UInt8.ofNat a).toNat : Int) := by simp; omega
      have Hb := Lib.hid hb; clear hb
      go_wp2_with (first
        | (at_builtin; refine wpList_append_byte hown (UInt8.ofNat a) Hb.out rfl (.tmp 14) (.tmp 17) 40 rfl Try.underlying40 info_u8 rfl rfl (by omega) hnx.size ?_; intro v' w1 hown1 _ hb1 hs1)
        | (refine wpList_string_row rfl (.tmp 18) 40 9 rfl _ _ _ _ (by assumption) Try.underlying40 Try.underlying5 Try.underlying9 rfl ?_))
      go_ret
      refine ⟨?_, hnx.trans hb1⟩
      show Ending.returned (.string _) = _
      rw [HP.out, Vr.putF_small f a h128]
    · have Hb := Lib.hid (congrArg (Value.int .u8) (bits_or_128 a))
      go_wp2_with (first
        | (at_builtin; refine wpList_append_byte hown _ Hb.out rfl (.tmp 6) (.tmp 10) 40 rfl Try.underlying40 info_u8 rfl rfl (by omega) hnx.size ?_; intro v' w1 hown1 _ hb1 hs1))
      obtain ⟨f', h1, h2, h3⟩ := Vr.put_step n f a l hf HA.out HP.out h128
      exact ⟨⟨f', a / 128, _, rfl, h1, Lib.hid h2, Lib.hid h3, hown1, hnx.trans hb1⟩, by simp [intOf]; omega⟩

theorem ofNat_mod (n : Nat) : UInt8.ofNat (n % 256) = UInt8.ofNat n := by
  apply UInt8.toNat_inj.1; simp

set_option maxHeartbeats 400000 in
set_option maxRecDepth 100000 in
theorem refByte_any (x : Int) (n : Nat) (hx : x = n) (w : World) :
    Calls Try.prog 46 #[.int .u64 x] w fun e w' => e = .returned (.string (bs [UInt8.ofNat n])) ∧ Below w.heap.size w w' := by
  subst hx
  have hk := fun (w : World) => run_string_one (P := Try.prog) w ((n : Int) % 256) (UInt8.ofNat (n % 256)) 40 9 5 5 (by simp) Try.underlying40 Try.underlying5 Try.underlying9
  go_enter Try.func46, Try.ntmps46
  go_wp2_with fail
  go_ret
  exact ⟨by rw [ofNat_mod]; rfl, (Below.refl _ _).alloc (Nat.le_refl _) _⟩

set_option maxHeartbeats 400000 in
set_option maxRecDepth 100000 in
theorem refPut_any (f : Nat) : ∀ (x : Int) (n : Nat) (w : World), x = n → n < 18446744073709551616 → f ≤ 9 → Hid (n < 2 * 128 ^ f) →
    Calls Try.prog 26 #[.int .u64 x] w fun e w' => e = .returned (.string (bs (Vr.putF f n))) ∧ Below w.heap.size w w' := by
  induction f with
  | zero =>
    intro x n w hx h64 hf HN
    subst hx
    have hn := HN.out
    simp at hn
    have hl : n < 128 := by omega
    go_enter Try.func26, Try.ntmps26
    go_wp2_with (go_at_call 46; refine (refByte_any _ n rfl _).mono ?_; rintro e w1 ⟨rfl, hb⟩)
    go_ret
    exact ⟨rfl, hb⟩
  | succ f ih =>
    intro x n w hx h64 hf HN
    subst hx
    by_cases hl : n < 128
    · go_enter Try.func26, Try.ntmps26
      go_wp2_with (go_at_call 46; refine (refByte_any _ n rfl _).mono ?_; rintro e w1 ⟨rfl, hb⟩)
      go_ret
      exact ⟨by rw [Vr.putF_small _ _ hl]; rfl, hb⟩
    · have IH := Lib.hid ih; clear ih
      have h1 : Hid (n / 128 < 2 * 128 ^ f) := Lib.hid (by have := HN.out; rw [Nat.pow_succ] at this; omega)
      have hq := (Vr.putF_len f (n / 128)).2
      go_enter Try.func26, Try.ntmps26
      go_wp2_with fail
      refine (refByte_any _ (128 + n % 128) (by omega) _).mono ?_
      rintro e w1 ⟨rfl, hb⟩
      go_wp2_with fail
      refine (IH.out _ (n / 128) _ (by omega) (by omega) (by omega) h1).mono ?_
      rintro e w2 ⟨rfl, hb2⟩
      go_wp2_with fail
      go_ret
      refine ⟨?_, hb.trans (hb2.mono hb.size)⟩
      show Ending.returned (.string (bs _)) = _
      rw [Vr.putF_big _ _ hl]
      simp
end Go.Proofs.Ytkhepehgafijfaa
