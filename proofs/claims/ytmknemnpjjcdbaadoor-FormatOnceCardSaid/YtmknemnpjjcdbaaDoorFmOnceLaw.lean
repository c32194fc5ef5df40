/- Walk of the law FormatOnce. Conditions: a text as an int can say; a variable of the library's holds an int. -/
import Derived.Test.YtmknemnpjjcdbaaDoorFmLaws
namespace Go.Proofs.YtmknemnpjjcdbaaDoor
open Go.RowKit
set_option linter.unusedVariables false

/-- A Format as it stands between two askings. -/
def OnceSt (g : Nat) (l : List UInt8) (w : World) : Prop :=
  Held w g (fmCells l 0 0 0 (.slice none 0 0) 0) ∨ ∃ v, Held w g (fmCells l 1 0 1 v ((Fm.compile l).2.2 : Nat)) ∧ PRow w (g + 1) v (Fm.compile l).1
theorem fmParts_any (l : List UInt8) (g : Nat) (w : World) (h : OnceSt g l w) (hl : l.length ≤ 9223372036854775807) (hm : MaxIs w) (hg : 0 < g) :
    Calls Tryd.prog 12 #[.pointer (some ⟨g, 0, none⟩)] w (PartsOf g l w) := by
  rcases h with h | ⟨v, h, hp⟩
  · exact fmParts_first l g w h hl hm hg
  · exact fmParts_again l g v w h hp
/-- The round's store. -/
theorem row_store2 {w : World} {N g n cap k : Nat} {xs : List Value} (h : w.ownsRow N 35 2 (.slice (some ⟨g, 0, none⟩) n cap) n xs) (a b : Value) :
    ((w.setCell ⟨g, k * 2, none⟩ a).setCell ⟨g, k * 2 + 1, none⟩ b).ownsRow N 35 2 (.slice (some ⟨g, 0, none⟩) n cap) n ((xs.set (k * 2) a).set (k * 2 + 1) b) :=
  (World.ownsRow.stored (World.ownsRow.stored h (k * 2) a).1 (k * 2 + 1) b).1
theorem row_cells2 {w : World} {N g n cap k : Nat} {xs : List Value} (h : w.ownsRow N 35 2 (.slice (some ⟨g, 0, none⟩) n cap) n xs) (hk : k < n) :
    (∃ u, w.cell? ⟨g, k * 2, none⟩ = some u) ∧ (∃ u, w.cell? ⟨g, k * 2 + 1, none⟩ = some u) ∧ w.frozen? ⟨g, k * 2, none⟩ = false ∧ w.frozen? ⟨g, k * 2 + 1, none⟩ = false ∧ N ≤ g ∧ g < w.heap.size := by
  have hxl : xs.length = n * 2 := by have := h.1; simpa using this
  obtain ⟨hN, hlt⟩ := World.ownsRow.lt h g rfl
  have c1 := World.ownsRow.cells h rfl (k * 2) (xs[k * 2]'(by omega)) (List.getElem?_eq_getElem _)
  have c2 := World.ownsRow.cells h rfl (k * 2 + 1) (xs[k * 2 + 1]'(by omega)) (List.getElem?_eq_getElem _)
  rw [Addr.add_lit, Nat.zero_add] at c1 c2
  exact ⟨⟨_, c1⟩, ⟨_, c2⟩, World.ownsRow.frozenAt h _, World.ownsRow.frozenAt h _, hN, hlt⟩

theorem row_block {w : World} {N n cap : Nat} {A : Option Addr} {L : List Pt} (h : PRow w N (.slice A n cap) L) (h0 : ¬ L.length = 0) : ∃ g, A = some ⟨g, 0, none⟩ ∧ N ≤ g := by
  rcases h.2 with ⟨_, h1⟩ | ⟨g, cap', cur, hv, hb, _⟩
  · exact absurd h1 h0
  · simp only [Value.slice.injEq] at hv
    exact ⟨g, hv.1, hb⟩

set_option maxHeartbeats 4000000 in
set_option maxRecDepth 100000 in
theorem once19 (l : List UInt8) (t : Int) (w : World) (hl : l.length ≤ 140737488355328) (hm : MaxIs w) :
    Calls Tryd.prog 4 #[.string (bs l), .int .i64 t] w fun e w' => e = .returned (.bool true) ∧ Below w.heap.size w w' := by
  have HM := Stow.mk hm
  have h0 : 0 < w.heap.size := by obtain ⟨m, hm⟩ := hm; exact World.block_lt_of_cell? w ⟨0, 0, none⟩ hm
  clear hm
  by_cases h4 : 400 < l.length
  · have h4i : (400 : Int) < l.length := by omega
    go_enter Tryd.func4, Tryd.ntmps4
    go_wp2_with fail
    refine (known19_any _ (HM.out.keep (Below.self w))).mono ?_
    rintro e wk ⟨rfl, hbk⟩
    go_wp2_with fail
    go_ret
    exact ⟨rfl, Below.trans (Below.self w) (hbk.mono (Below.size (Below.self w)))⟩
  have h4i : ¬ (400 : Int) < l.length := by omega
  have h4d : decide (400 < l.length) = false := by simp; omega
  by_cases ht0 : t < 0
  · have ht0d : decide (t < 0) = true := by simp; omega
    go_enter Tryd.func4, Tryd.ntmps4
    go_wp2_with fail
    refine (known19_any _ (HM.out.keep (Below.self w))).mono ?_
    rintro e wk ⟨rfl, hbk⟩
    go_wp2_with fail
    go_ret
    exact ⟨rfl, Below.trans (Below.self w) (hbk.mono (Below.size (Below.self w)))⟩
  have ht0d : decide (t < 0) = false := by simp; omega
  by_cases ht20 : 20 < t
  · have ht0d : decide (20 < t) = true := by simp; omega
    go_enter Tryd.func4, Tryd.ntmps4
    go_wp2_with fail
    refine (known19_any _ (HM.out.keep (Below.self w))).mono ?_
    rintro e wk ⟨rfl, hbk⟩
    go_wp2_with fail
    go_ret
    exact ⟨rfl, Below.trans (Below.self w) (hbk.mono (Below.size (Below.self w)))⟩
  obtain ⟨T, rfl⟩ : ∃ T : Nat, t = T := ⟨t.toNat, by omega⟩
  have ht1d : decide (20 < (T : Int)) = false := by simp; omega
  have K2 := fun W => fmRefCompile_any l W (by omega)
  obtain ⟨R, hR⟩ : ∃ R, Fm.compile l = R := ⟨_, rfl⟩
  rw [hR] at K2
  obtain ⟨P, n, c⟩ := R
  have HR := Stow.mk hR
  have HFW : Stow (P.length ≤ 241) := ⟨by have := Fm.compile_few l; rw [hR] at this; exact this⟩
  have HK2 := Stow.mk K2
  clear K2 hR
  unfold CompOf at HK2
  simp only at HK2
  go_enter Tryd.func4, Tryd.ntmps4
  go_wp2_with fail
  refine (fmNew_any l _).mono ?_
  rintro e w1 ⟨rfl, hh1, hb1⟩
  have HF1 := Stow.mk hh1
  have HB1 := Stow.mk hb1
  have hg1 := hh1.lt
  clear hh1 hb1
  go_wp2_with fail
  refine (fmMade_any w.heap.size _ 0 _ HF1.out rfl (by omega)).mono ?_
  rintro e w1' ⟨rfl, rfl⟩
  go_wp2_with fail
  refine (HK2.out _).mono ?_
  rintro e w2 ⟨v2, rfl, hp2, hb2⟩
  obtain ⟨A2, c2, rfl⟩ := hp2.form
  have HB2 : Stow (Below w.heap.size w w2) := ⟨HB1.out.trans (hb2.mono HB1.out.size)⟩
  have HF2 := Stow.mk (HF1.out.kept hb2)
  have HP2 : Stow (PRow w2 (w.heap.size + 1) (.slice A2 P.length c2) P) := ⟨PRow.base hp2 hg1⟩
  clear hp2 hb2 HF1 HB1
  go_wp2_with fail
  go_loopw [9] (fun v wr => ∃ j : Nat, v = .int .i64 j ∧ j ≤ T ∧ Stow (OnceSt w.heap.size l wr) ∧ Stow (PRow wr (w.heap.size + 1) (.slice A2 P.length c2) P) ∧ Below w.heap.size w wr) (fun v _ => T - (intOf v).toNat)
  case atStart => exact ⟨0, rfl, by omega, ⟨.inl HF2.out⟩, HP2, HB2.out⟩
  case round =>
    obtain ⟨j, rfl, hj, HS, HP, hbr⟩ := hrel
    have HBR := Stow.mk hbr
    clear hbr
    by_cases hjT : j < T
    · have hji : (j : Int) < T := by omega
      have KP := fmParts_any l w.heap.size _ HS.out (by omega) (HM.out.keep HBR.out) h0
      unfold PartsOf at KP
      rw [HR.out] at KP
      have HKP := Stow.mk KP
      clear KP
      go_wp2_with fail
      refine HKP.out.mono ?_
      rintro e w3 ⟨v, v', N, rfl, hH3, hP3, hP3', hNk, hgN, hN, hO3⟩
      obtain ⟨A3, c3, rfl⟩ := hP3'.form
      have HRK : Stow (∀ k, (Value.slice A2 P.length c2).ownBlock = some k → k < N) := ⟨fun k hk => by have := (World.ownsRow.lt HP.out k hk).2; omega⟩
      have HP3r : Stow (PRow w3 (w.heap.size + 1) (.slice A2 P.length c2) P) := ⟨HP.out.only hO3 (fun k hk => by have := (World.ownsRow.lt HP.out k hk).1; omega)⟩
      have HB3 : Stow (Below w.heap.size w w3) := ⟨HBR.out.trans (hO3.below (Nat.le_refl _) HBR.out.size)⟩
      have HF3 := Stow.mk hH3
      have HV3 := Stow.mk hP3
      have HA3 := Stow.mk hP3'
      have HNK := Stow.mk hNk
      clear hH3 hP3 hP3' hNk hO3 HKP HP HS HBR
      go_wp2_with fail
      refine (ptSame_any P _ _ _ HA3.out.slr HP3r.out.slr).mono ?_
      rintro e w4 ⟨rfl, hb4⟩
      have HP4 := Stow.mk (HP3r.out.kept hb4)
      have HF4 := Stow.mk (HF3.out.kept hb4)
      have HV4 := Stow.mk (HV3.out.kept hb4)
      have HA4 := Stow.mk (HA3.out.kept hb4)
      have HB4 : Stow (Below w.heap.size w w4) := ⟨HB3.out.trans (hb4.mono HB3.out.size)⟩
      clear hb4 HP3r HF3 HV3 HA3 HB3
      go_wp2_with fail
      refine (fmMade_any w.heap.size _ 1 _ HF4.out rfl (by omega)).mono ?_
      rintro e w4' ⟨rfl, rfl⟩
      go_wp2_with fail
      by_cases hP0 : P.length = 0
      · obtain rfl := List.eq_nil_of_length_eq_zero hP0
        have HE : Stow (OnceSt w.heap.size l w4') := ⟨.inr ⟨v, by rw [HR.out]; exact ⟨HF4.out, HV4.out⟩⟩⟩
        go_loopw [12] (fun v wi => v = .int .i64 0 ∧ wi = w4') (fun v _ => 0)
        case atStart => exact ⟨rfl, rfl⟩
        case round =>
          obtain ⟨rfl, rfl⟩ := hrel
          go_wp2_with fail
          exact ⟨⟨j + 1, rfl, by omega, HE, HP4, HB4.out⟩, by simp [intOf]; omega⟩
      obtain ⟨g3, rfl, hg3⟩ := row_block HA4.out hP0
      have HO0 : Stow (Only g3 w4' w4' ∧ ∃ xs, w4'.ownsRow N 35 2 (.slice (some ⟨g3, 0, none⟩) P.length c3) P.length xs) := ⟨Only.refl _ _, _, HA4.out⟩
      go_loopw [12] (fun v wi => ∃ k : Nat, v = .int .i64 k ∧ k ≤ P.length ∧ Stow (Only g3 w4' wi ∧ ∃ xs, wi.ownsRow N 35 2 (.slice (some ⟨g3, 0, none⟩) P.length c3) P.length xs)) (fun v _ => P.length - (intOf v).toNat)
      case atStart => exact ⟨0, rfl, by omega, HO0⟩
      case round =>
        obtain ⟨k, rfl, hk, HO⟩ := hrel
        by_cases hkl : k < P.length
        · obtain ⟨ho, xs, hx⟩ := HO.out
          obtain ⟨⟨u1, q1⟩, ⟨u2, q2⟩, f1, f2, _, hgw⟩ := row_cells2 hx hkl
          have HX := Stow.mk (And.intro ho hx)
          have hki : (k : Int) < P.length := by omega
          have hfw := HFW.out
          clear ho hx
          go_wp2_with fail
          exact ⟨⟨k + 1, rfl, by omega, ⟨(HX.out.1.trans (Only.set g3 _ _ _)).trans (Only.set g3 _ _ _), _, row_store2 HX.out.2 _ _⟩⟩, by simp [intOf]; omega⟩
        · obtain rfl : k = P.length := by omega
          have ho := HO.out.1
          have HE : Stow (OnceSt w.heap.size l wr) := ⟨.inr ⟨v, by rw [HR.out]; exact ⟨HF4.out.only ho (by omega), HV4.out.only ho (fun k hk => by have := HNK.out k hk; omega)⟩⟩⟩
          have HPE : Stow (PRow wr (w.heap.size + 1) (.slice A2 P.length c2) P) := ⟨HP4.out.only ho (fun k hk => by have := HRK.out k hk; omega)⟩
          have HBE : Stow (Below w.heap.size w wr) := ⟨HB4.out.trans (ho.below (by omega) HB4.out.size)⟩
          clear ho
          go_wp2_with fail
          exact ⟨⟨j + 1, rfl, by omega, HE, HPE, HBE.out⟩, by simp [intOf]; omega⟩
    · obtain rfl : j = T := by omega
      go_wp2_with fail
      refine (fmParts_nil _).mono ?_
      rintro e w3 ⟨rfl, rfl⟩
      go_wp2_with fail
      refine (fmMade_nil _).mono ?_
      rintro e w3 ⟨rfl, rfl⟩
      go_wp2_with fail
      refine (known19_any _ (HM.out.keep HBR.out)).mono ?_
      rintro e wk ⟨rfl, hbk⟩
      go_wp2_with fail
      go_ret
      exact ⟨rfl, Below.trans HBR.out (hbk.mono (Below.size HBR.out))⟩
end Go.Proofs.YtmknemnpjjcdbaaDoor
