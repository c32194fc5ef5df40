/- Walks of the reference's Hex at two digits, and Escape. Condition: texts are not longer than 2^40. -/
import Derived.Test.YtkhepehgafijfaaDoorLine
namespace Go.Proofs.YtkhepehgafijfaaDoor
open Go.RowKit
set_option linter.unusedVariables false

set_option maxHeartbeats 400000 in
set_option maxRecDepth 100000 in
theorem refFits16_any (x : Int) (n : Nat) (hx : x = n) (w : World) (hn : n < 256) :
    Calls Tryd.prog 52 #[.int .u64 x, .int .u64 16, .int .i64 2] w fun e w' => e = .returned (.bool true) ∧ w' = w := by
  subst hx
  go_enter Tryd.func52, Tryd.ntmps52
  go_wp2_with fail
  go_loop [0, 7] (fun m v => ∃ i q : Nat, v = .int .i64 i ∧ m = .int .u64 q ∧ i ≤ 2 ∧ q < 256 ∧ (i = 2 → q = 0) ∧ (i = 1 → q < 16)) (fun _ v => 2 - (intOf v).toNat)
  case atStart => exact ⟨0, n, rfl, rfl, by omega, by omega, by omega, by omega⟩
  case round =>
    obtain ⟨i, q, rfl, rfl, hi, hq, h2, h1⟩ := hrel
    by_cases hlt : i < 2
    · have K := Stow.mk h1
      clear h2 h1
      go_wp2_with fail
      refine ⟨⟨i + 1, q / 16, rfl, rfl, by omega, by omega, fun h => ?_, fun h => by omega⟩, by simp [intOf]; omega⟩
      have := K.out (by omega)
      omega
    · obtain rfl : i = 2 := by omega
      obtain rfl : q = 0 := h2 rfl
      clear h2 h1
      go_wp2_with fail
      go_ret
      exact ⟨rfl, rfl⟩

theorem hex_cut (n : Nat) (h : n < 16) : List.take 1 (List.drop n ([48, 49, 50, 51, 52, 53, 54, 55, 56, 57, 97, 98, 99, 100, 101, 102] : List UInt8)) = [Ln.hexd n] := by
  have : ∀ n, n < 16 → List.take 1 (List.drop n ([48, 49, 50, 51, 52, 53, 54, 55, 56, 57, 97, 98, 99, 100, 101, 102] : List UInt8)) = [Ln.hexd n] := by decide +kernel
  exact this n h

set_option maxHeartbeats 400000 in
set_option maxRecDepth 100000 in
theorem refHex2_any (x : Int) (n : Nat) (hx : x = n) (w : World) (hn : n < 256) :
    Calls Tryd.prog 32 #[.int .u64 x, .int .i64 2] w fun e w' => e = .returned (.tuple #[.string (bs [Ln.hexd (n / 16), Ln.hexd (n % 16)]), .int .i64 0]) ∧ w' = w := by
  subst hx
  have lh : (⟨#[48, 49, 50, 51, 52, 53, 54, 55, 56, 57, 97, 98, 99, 100, 101, 102]⟩ : ByteArray) = bs [48, 49, 50, 51, 52, 53, 54, 55, 56, 57, 97, 98, 99, 100, 101, 102] := rfl
  have c1 := hex_cut (n % 16) (by omega)
  have c2 := hex_cut (n / 16 % 16) (by omega)
  have e2 : n / 16 % 16 = n / 16 := by omega
  have E2 := Stow.mk e2
  clear e2
  go_enter Tryd.func32, Tryd.ntmps32
  go_wp2_with fail
  refine (refFits16_any _ n rfl _ hn).mono ?_
  rintro e w' ⟨rfl, rfl⟩
  go_wp2_with fail
  go_loop [0, 7, 8, 9] (fun m s v _ => (v = .int .i64 0 ∧ m = .int .u64 (n : Int) ∧ s = .string (bs [])) ∨ (v = .int .i64 1 ∧ m = .int .u64 ((n / 16 : Nat) : Int) ∧ s = .string (bs [Ln.hexd (n % 16)])) ∨ (v = .int .i64 2 ∧ m = .int .u64 ((n / 16 / 16 : Nat) : Int) ∧ s = .string (bs [Ln.hexd (n / 16 % 16), Ln.hexd (n % 16)]))) (fun _ _ v _ => 2 - (intOf v).toNat)
  case atStart => exact .inl ⟨rfl, rfl, rfl⟩
  case round =>
    rcases hrel with ⟨rfl, rfl, rfl⟩ | ⟨rfl, rfl, rfl⟩ | ⟨rfl, rfl, rfl⟩
    · go_wp2_with fail
      exact ⟨.inr (.inl ⟨rfl, rfl, by simp⟩), by simp [intOf]⟩
    · go_wp2_with fail
      exact ⟨.inr (.inr ⟨rfl, rfl, by simp⟩), by simp [intOf]⟩
    · go_wp2_with fail
      go_ret2
      exact ⟨by rw [E2.out]; rfl, rfl⟩
set_option maxHeartbeats 1000000 in
set_option maxRecDepth 100000 in
theorem refEscape_any (l : List UInt8) (w : World) (hl : l.length ≤ 1099511627776) :
    Calls Tryd.prog 12 #[.string (bs l)] w fun e w' => e = .returned (.string (bs (Ln.esc l))) ∧ w' = w := by
  have lk : (⟨#[45]⟩ : ByteArray) = bs [45] := rfl
  have lk2 : (⟨#[92]⟩ : ByteArray) = bs [92] := rfl
  have lk3 : (⟨#[92, 120]⟩ : ByteArray) = bs [92, 120] := rfl
  have lk4 : (⟨#[]⟩ : ByteArray) = bs [] := rfl
  by_cases h0 : l = []
  · subst h0
    go_enter Tryd.func12, Tryd.ntmps12
    go_wp2_with fail
    go_ret
    exact ⟨rfl, rfl⟩
  have HE : Stow (Ln.esc l = l.flatMap Ln.escB) := ⟨by simp [Ln.esc, h0]⟩
  have h0e : l.isEmpty = false := by simpa using h0
  clear h0
  go_enter Tryd.func12, Tryd.ntmps12
  go_wp2_with fail
  go_loop [3, 4, 5, 6, 7] (fun o v _ _ _ => ∃ i : Nat, v = .int .i64 i ∧ i ≤ l.length ∧ o = .string (bs ((l.take i).flatMap Ln.escB))) (fun _ v _ _ _ => l.length - (intOf v).toNat)
  case atStart => exact ⟨0, rfl, by omega, rfl⟩
  case round =>
    obtain ⟨i, rfl, hi, rfl⟩ := hrel
    clear lk4
    by_cases hlt : i < l.length
    · have HN := Stow.mk (esc_take hlt)
      have hfl := (Ln.flat_len (l.take i)).2
      have hfl2 : ((l.take i).flatMap Ln.escB).length ≤ 4398046511104 := by simp only [List.length_take] at hfl; omega
      clear hfl
      have hcut : List.take 1 (List.drop i l) = [l[i]] := by
        rw [List.drop_eq_getElem_cons hlt]; rfl
      have HCUT := Stow.mk hcut
      have hb256 := UInt8.toNat_lt l[i]
      have e64 : IntKind.u64.wrap (l[i].toNat : Int) = l[i].toNat := wrap_u64_byte _
      generalize (l.take i).flatMap Ln.escB = acc at HN hfl2
      have hx34 : l[i].toNat = 34 ↔ l[i] = 34 := ⟨fun e => UInt8.toNat_inj.1 (by simp; omega), fun e => by rw [e]; rfl⟩
      have hx92 : l[i].toNat = 92 ↔ l[i] = 92 := ⟨fun e => UInt8.toNat_inj.1 (by simp; omega), fun e => by rw [e]; rfl⟩
      have HX : Stow (Ln.escB l[i] = if l[i].toNat < 32 ∨ 126 < l[i].toNat then [92, 120, Ln.hexd (l[i].toNat / 16), Ln.hexd (l[i].toNat % 16)] else if l[i].toNat = 34 ∨ l[i].toNat = 92 then [92, l[i]] else [l[i]]) := ⟨by
        unfold Ln.escB
        simp only [hx34, hx92]⟩
      clear hx34 hx92
      go_upto_region 8 with fail
      generalize l[i].toNat = n at *
      by_cases hout : n < 32 ∨ 126 < n
      · clear hcut
        by_cases h32 : n < 32
        · have d32 : decide ((n : Int) < 32) = true := by simp; omega
          have HX1 : Stow (Ln.escB l[i] = [92, 120, Ln.hexd (n / 16), Ln.hexd (n % 16)]) := ⟨by rw [HX.out, if_pos hout]⟩
          clear hout
          go_wp2_with fail
          refine (refHex2_any _ n rfl _ (by omega)).mono ?_
          rintro e w' ⟨rfl, rfl⟩
          go_wp2_with fail
          have e : (l.take (i + 1)).flatMap Ln.escB = acc ++ [92, 120, Ln.hexd (n / 16), Ln.hexd (n % 16)] := by rw [HN.out, HX1.out]
          have e2 : acc ++ [92, 120, Ln.hexd (n / 16), Ln.hexd (n % 16)] = (l.take (i + 1)).flatMap Ln.escB := e.symm
          first
            | exact ⟨⟨i + 1, rfl, by omega, by rw [e]⟩, by simp [intOf]; omega⟩
            | exact ⟨⟨i + 1, rfl, by omega, by rw [e]; simp⟩, by simp [intOf]; omega⟩
            | exact ⟨⟨i + 1, rfl, by omega, by rw [e]; rfl⟩, by simp [intOf]; omega⟩
        · have h126 : 126 < n := by omega
          have d32 : decide ((n : Int) < 32) = false := by simp; omega
          have HX1 : Stow (Ln.escB l[i] = [92, 120, Ln.hexd (n / 16), Ln.hexd (n % 16)]) := ⟨by rw [HX.out, if_pos hout]⟩
          clear hout
          go_wp2_with fail
          refine (refHex2_any _ n rfl _ (by omega)).mono ?_
          rintro e w' ⟨rfl, rfl⟩
          go_wp2_with fail
          have e : (l.take (i + 1)).flatMap Ln.escB = acc ++ [92, 120, Ln.hexd (n / 16), Ln.hexd (n % 16)] := by rw [HN.out, HX1.out]
          have e2 : acc ++ [92, 120, Ln.hexd (n / 16), Ln.hexd (n % 16)] = (l.take (i + 1)).flatMap Ln.escB := e.symm
          first
            | exact ⟨⟨i + 1, rfl, by omega, by rw [e]⟩, by simp [intOf]; omega⟩
            | exact ⟨⟨i + 1, rfl, by omega, by rw [e]; simp⟩, by simp [intOf]; omega⟩
            | exact ⟨⟨i + 1, rfl, by omega, by rw [e]; rfl⟩, by simp [intOf]; omega⟩
      · have k1 : ¬ n < 32 := by omega
        have k2 : ¬ 126 < n := by omega
        have d1 : decide ((n : Int) < 32) = false := by simp; omega
        have d2 : decide ((126 : Int) < (n : Int)) = false := by simp; omega
        by_cases h34 : n = 34
        · subst h34
          have HX1 : Stow (Ln.escB l[i] = [92, l[i]]) := ⟨by rw [HX.out, if_neg hout, if_pos (.inl rfl)]⟩
          clear hout
          go_wp2_with fail
          have e : (l.take (i + 1)).flatMap Ln.escB = acc ++ [92, l[i]] := by rw [HN.out, HX1.out]
          have e2 : acc ++ [92, l[i]] = (l.take (i + 1)).flatMap Ln.escB := e.symm
          first
            | exact ⟨⟨i + 1, rfl, by omega, by rw [e]⟩, by simp [intOf]; omega⟩
            | exact ⟨⟨i + 1, rfl, by omega, by rw [e]; simp⟩, by simp [intOf]; omega⟩
            | exact ⟨⟨i + 1, rfl, by omega, by rw [e]; rfl⟩, by simp [intOf]; omega⟩
        · have e1 : ((n : Int) == 34) = false := by simp; omega
          by_cases h92 : n = 92
          · subst h92
            have HX1 : Stow (Ln.escB l[i] = [92, l[i]]) := ⟨by rw [HX.out, if_neg hout, if_pos (.inr rfl)]⟩
            clear hout
            go_wp2_with fail
            have e : (l.take (i + 1)).flatMap Ln.escB = acc ++ [92, l[i]] := by rw [HN.out, HX1.out]
            have e2 : acc ++ [92, l[i]] = (l.take (i + 1)).flatMap Ln.escB := e.symm
            first
              | exact ⟨⟨i + 1, rfl, by omega, by rw [e]⟩, by simp [intOf]; omega⟩
              | exact ⟨⟨i + 1, rfl, by omega, by rw [e]; simp⟩, by simp [intOf]; omega⟩
              | exact ⟨⟨i + 1, rfl, by omega, by rw [e]; rfl⟩, by simp [intOf]; omega⟩
          · have e2 : ((n : Int) == 92) = false := by simp; omega
            have HX1 : Stow (Ln.escB l[i] = [l[i]]) := ⟨by rw [HX.out, if_neg hout, if_neg (by omega)]⟩
            clear hout
            go_wp2_with fail
            have e : (l.take (i + 1)).flatMap Ln.escB = acc ++ [l[i]] := by rw [HN.out, HX1.out]
            have e2 : acc ++ [l[i]] = (l.take (i + 1)).flatMap Ln.escB := e.symm
            first
              | exact ⟨⟨i + 1, rfl, by omega, by rw [e]⟩, by simp [intOf]; omega⟩
              | exact ⟨⟨i + 1, rfl, by omega, by rw [e]; simp⟩, by simp [intOf]; omega⟩
              | exact ⟨⟨i + 1, rfl, by omega, by rw [e]; rfl⟩, by simp [intOf]; omega⟩
    · obtain rfl : i = l.length := by omega
      go_wp2_with fail
      go_ret
      exact ⟨by rw [HE.out]; simp, rfl⟩
end Go.Proofs.YtkhepehgafijfaaDoor
