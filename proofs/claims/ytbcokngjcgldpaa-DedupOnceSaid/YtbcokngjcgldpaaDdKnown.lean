/- Walk of the fixed calls. No condition. -/
import Derived.Test.YtbcokngjcgldpaaDdRefFresh
namespace Go.Proofs.Ytbcokngjcgldpaa
open Go.RowKit Go.Lib
set_option linter.unusedVariables false

/-- The contract at windows that are given. -/
theorem ddFresh_to {D D' : List Wi} {b : Bool} {node x : Int} {v : Value} {R : List Wm} {w : World} (hW : WinR w v R) (hR : wis R = D) (hok : Dd.Ok D) (hf : Dd.fresh D node x = (D', b)) :
    Calls Try.prog 22 #[v, .int .i64 node, .int .i64 x] w fun e w' => ∃ v' R', e = .returned (.tuple #[v', .bool b]) ∧ wis R' = D' ∧ WinR w' v' R' ∧ Dd.Ok D' ∧ Below w.heap.size w w' := by
  subst hR
  refine (ddFresh_any node x v R w hW hok).mono ?_
  rintro e w' ⟨v', R', rfl, h1, h2, h3, _⟩
  have hk := hok.fresh (node := node) (x := x)
  rw [hf] at h1 hk
  exact ⟨v', R', by rw [hf], h1, h2, hk, h3⟩
theorem ddFresh_new {D D' : List Wi} {b : Bool} {node x : Int} {v : Value} {R : List Wm} {w : World} (hW : WinR w v R) (hR : wis R = D) (hok : Dd.Ok D) (hf : Dd.fresh D node x = (D', b)) :
    Calls Try.prog 22 #[v, .int .i64 node, .int .i64 x] w fun e w' => ∃ v' R', e = .returned (.tuple #[v', .bool b]) ∧ wis R' = D' ∧ WinR w' v' R' ∧ Dd.Ok D' ∧ Below w.heap.size w w' ∧ NewW w.heap.size v' R' := by
  subst hR
  refine (ddFresh_any node x v R w hW hok).mono ?_
  rintro e w' ⟨v', R', rfl, h1, h2, h3, h4⟩
  have hk := hok.fresh (node := node) (x := x)
  rw [hf] at h1 hk
  exact ⟨v', R', by rw [hf], h1, h2, hk, h3, h4⟩
theorem refFresh_to {D D' : List Wi} {b : Bool} {node x : Int} {v : Value} {R : List Wm} {w : World} (hW : WinR w v R) (hR : wis R = D) (hok : Dd.Ok D) (hf : Dd.fresh D node x = (D', b)) :
    Calls Try.prog 23 #[v, .int .i64 node, .int .i64 x] w fun e w' => ∃ v' R', e = .returned (.tuple #[v', .bool b]) ∧ wis R' = D' ∧ WinR w' v' R' ∧ Dd.Ok D' ∧ Below w.heap.size w w' := by
  subst hR
  refine (refFresh_any node x v R w hW hok).mono ?_
  rintro e w' ⟨v', R', rfl, h1, h2, h3⟩
  have hk := hok.fresh (node := node) (x := x)
  rw [hf] at h1 hk
  exact ⟨v', R', by rw [hf], h1, h2, hk, h3⟩
theorem ddHas_to {D : List Wi} {b : Bool} {node x : Int} {v : Value} {R : List Wm} {w : World} (hW : WinR w v R) (hR : wis R = D) (hok : Dd.Ok D) (hf : Dd.has D node x = b) :
    Calls Try.prog 25 #[v, .int .i64 node, .int .i64 x] w fun e w' => e = .returned (.bool b) ∧ Below w.heap.size w w' := by
  subst hR hf
  exact ddHas_any node x v R w hW hok
theorem f29_1 : Dd.fresh [] 1 5 = ([⟨1, 5, [5]⟩], true) := rfl
theorem f29_2 : Dd.fresh [⟨1, 5, [5]⟩] 1 3 = ([⟨1, 5, [3, 5]⟩], true) := rfl
theorem f29_3 : Dd.fresh [⟨1, 5, [3, 5]⟩] 1 5 = ([⟨1, 5, [3, 5]⟩], false) := rfl
theorem f29_4 : Dd.fresh [⟨1, 5, [3, 5]⟩] 1 200 = ([⟨1, 200, [200]⟩], true) := rfl
theorem f29_5 : Dd.fresh [⟨1, 200, [200]⟩] 1 72 = ([⟨1, 200, [200]⟩], false) := rfl

set_option maxHeartbeats 1000000 in
set_option maxRecDepth 100000 in
theorem known29_any (w : World) : Calls Try.prog 21 #[] w fun e w' => e = .returned (.bool true) ∧ Below w.heap.size w w' := by
  go_enter Try.func21, Try.ntmps21
  go_wp2_with fail
  refine (ddFresh_to (WinR.none _) rfl Dd.Ok.nil f29_1).mono ?_
  rintro e w1 ⟨v1, R1, rfl, e1, hW1, ok1, hb1⟩
  have H1 := Stow.mk (And.intro e1 (And.intro hW1 ok1))
  clear e1 hW1 ok1
  go_wp2_with fail
  refine (ddFresh_to H1.out.2.1 H1.out.1 H1.out.2.2 f29_2).mono ?_
  rintro e w2 ⟨v2, R2, rfl, e2, hW2, ok2, hb2⟩
  have H2 := Stow.mk (And.intro e2 (And.intro hW2 ok2))
  clear e2 hW2 ok2
  go_wp2_with fail
  refine (ddFresh_to H2.out.2.1 H2.out.1 H2.out.2.2 f29_3).mono ?_
  rintro e w3 ⟨v3, R3, rfl, e3, hW3, ok3, hb3⟩
  have H3 := Stow.mk (And.intro e3 (And.intro hW3 ok3))
  clear e3 hW3 ok3
  go_wp2_with fail
  refine (ddFresh_to H3.out.2.1 H3.out.1 H3.out.2.2 f29_4).mono ?_
  rintro e w4 ⟨v4, R4, rfl, e4, hW4, ok4, hb4⟩
  have H4 := Stow.mk (And.intro e4 (And.intro hW4 ok4))
  clear e4 hW4 ok4
  go_wp2_with fail
  refine (ddFresh_to H4.out.2.1 H4.out.1 H4.out.2.2 f29_5).mono ?_
  rintro e w5 ⟨v5, R5, rfl, e5, hW5, ok5, hb5⟩
  clear e5 hW5 ok5
  have H5 := Stow.mk (H4.out.2.1.keep hb5)
  have hlit : IRow ((w5.alloc (.cells #[.int .i64 200] 3)).alloc (.cells #[.int .i64 1, .int .i64 200, .slice (some ⟨w5.heap.size, 0, none⟩) 1 1] 52)) w5.heap.size (.slice (some ⟨w5.heap.size, 0, none⟩) 1 1) [200] := World.ownsRow.alloc (World.ownsRow_lit w5 #[.int .i64 200] 1 (Nat.le_refl _) (by unfold maxLen; omega) rfl) _
  have hrow : WRow ((w5.alloc (.cells #[.int .i64 200] 3)).alloc (.cells #[.int .i64 1, .int .i64 200, .slice (some ⟨w5.heap.size, 0, none⟩) 1 1] 52)) (w5.alloc (.cells #[.int .i64 200] 3)).heap.size (.slice (some ⟨(w5.alloc (.cells #[.int .i64 200] 3)).heap.size, 0, none⟩) 1 1) [(⟨⟨1, 200, [200]⟩, some ⟨w5.heap.size, 0, none⟩, 1⟩ : Wm)] := World.ownsRow_lit (w5.alloc (.cells #[.int .i64 200] 3)) #[.int .i64 1, .int .i64 200, .slice (some ⟨w5.heap.size, 0, none⟩) 1 1] 1 (Nat.le_refl _) (by unfold maxLen; omega) rfl
  have HN : Stow (WinR ((w5.alloc (.cells #[.int .i64 200] 3)).alloc (.cells #[.int .i64 1, .int .i64 200, .slice (some ⟨w5.heap.size, 0, none⟩) 1 1] 52)) (.slice (some ⟨(w5.alloc (.cells #[.int .i64 200] 3)).heap.size, 0, none⟩) 1 1) [(⟨⟨1, 200, [200]⟩, some ⟨w5.heap.size, 0, none⟩, 1⟩ : Wm)]) := ⟨⟨hrow.slr, fun p hp => by simp at hp; subst hp; exact hlit.slr, fun e => by cases e⟩⟩
  clear hlit hrow
  go_wp2_with fail
  refine (refSame_any v4 _ R4 [(⟨⟨1, 200, [200]⟩, some ⟨w5.heap.size, 0, none⟩, 1⟩ : Wm)] _ ((H5.out.keep (Below.alloc' (Below.self _) _)).keep (Below.alloc' (Below.self _) _)) (by have := HN.out; simpa using this) H4.out.1).mono ?_
  rintro e w6 ⟨rfl, hb6⟩
  have hbs : Below w5.heap.size w5 w6 := Below.call (Below.alloc' (Below.alloc' (Below.self w5) _) _) hb6
  have HW6 := Stow.mk (H5.out.keep hbs)
  go_wp2_with fail
  refine (ddHas_to (b := true) HW6.out H4.out.1 H4.out.2.2 rfl).mono ?_
  rintro e w7 ⟨rfl, hb7⟩
  have HW7 := Stow.mk (HW6.out.keep hb7)
  go_wp2_with fail
  refine (ddHas_to (b := false) HW7.out H4.out.1 H4.out.2.2 rfl).mono ?_
  rintro e w8 ⟨rfl, hb8⟩
  have HW8 := Stow.mk (HW7.out.keep hb8)
  go_wp2_with fail
  refine (ddHas_to (b := false) HW8.out H4.out.1 H4.out.2.2 rfl).mono ?_
  rintro e w9 ⟨rfl, hb9⟩
  go_wp2_with fail
  go_ret
  refine ⟨rfl, ?_⟩
  (repeat (first | exact Below.self _ | refine Below.alloc' ?_ _ | refine Below.drew ?_ | refine Below.drewN' ?_ _ | (refine Below.call ?_ (by assumption))))
end Go.Proofs.Ytbcokngjcgldpaa
