/- Walk of the law's known. Condition: the library's table lies. -/
import Derived.Test.YtkhepehgafijfaaDoorRender
namespace Go.Proofs.YtkhepehgafijfaaDoor
open Go.RowKit
set_option linter.unusedVariables false

/-- A slice that was just laid. -/
theorem SlR.made (w : World) {c n : Nat} (L : List (List Value)) (cs : Array Value) (e : TypeId) (hcs : cs = L.flatten.toArray) (hc : ∀ x ∈ L, x.length = c) (hn : L.length = n) (hm : n ≤ maxLen) :
    SlR (w.alloc (.cells cs e)) c (.slice (some ⟨w.heap.size, 0, none⟩) n n) L := by
  subst hcs hn
  refine ⟨_, _, rfl, Nat.le_refl _, hm, fun _ => ⟨w.heap.size, 0, rfl, by simp, fun i x hi j u hu => ?_⟩⟩
  have := flat_at hc i x hi j u hu
  rw [Nat.zero_add]
  have e2 : (w.alloc (.cells L.flatten.toArray e)).cell? ⟨w.heap.size, i * c + j, none⟩ = L.flatten[i * c + j]? := by simp
  rw [e2]; exact this

def knownRc : Rc := { m := [], h := [], p := [47, 120], hs := [([107], [34])], b := [], tg := [], st := 404, ve := 0, tr := [], t0 := 3, t1 := 9 }
def knownPt : List Pt := [(3, []), (0, [32]), (5, []), (0, [32]), (8, []), (9, [107]), (9, [122]), (7, [])]
theorem known_esc : Ln.esc [97, 34, 98, 1] = [97, 92, 34, 98, 92, 120, 48, 49] := by decide
theorem known_render : renderOf knownRc knownPt = [47, 120, 32, 52, 48, 52, 32, 54, 92, 34, 45, 45] := by
  have e1 : Lib.itoa 404 = [52, 48, 52] := by simp [Lib.itoa, Lib.decDigits]
  have e2 : Lib.itoa (tookOf 3 9) = [54] := by
    have : tookOf 3 9 = 6 := by decide
    rw [this]; simp [Lib.itoa, Lib.decDigits]
  have e : allOf knownRc knownPt = [47, 120, 32, 52, 48, 52, 32, 54, 92, 34, 45, 45] := by
    simp [allOf, knownPt, valueOf, knownRc, e1, e2, Ln.esc, Ln.escB, hdGet]
  unfold renderOf
  rw [e]; rfl
theorem knownRc_fits : knownRc.fits := by
  refine ⟨by decide, by decide, by decide, by decide, by decide, by decide, by decide, ?_, ?_, ?_, ?_⟩
  all_goals (unfold I64 knownRc; simp)
theorem knownRc_few : knownRc.few := by
  refine ⟨by decide, by decide, by decide, by decide, by decide, by decide⟩

set_option maxHeartbeats 2000000 in
set_option maxRecDepth 100000 in
theorem known20_any (w : World) (hp : Pow10 w) : Calls Tryd.prog 10 #[] w fun e w' => e = .returned (.bool true) ∧ Below w.heap.size w w' := by
  have HP := Stow.mk hp
  clear hp
  go_enter Tryd.func10, Tryd.ntmps10
  go_wp2_with fail
  refine (escape_any [97, 34, 98, 1] _ (by decide)).mono ?_
  rw [known_esc]
  rintro e w1 ⟨rfl, hb1⟩
  go_wp2_with fail
  refine (escape_any [] _ (by decide)).mono ?_
  rintro e w2 ⟨rfl, hb2⟩
  have hrec : Held w2 (w.heap.size + 1) [.string ⟨#[]⟩, .string ⟨#[]⟩, .string ⟨#[47, 120]⟩, .slice (some ⟨w.heap.size, 0, none⟩) 1 1, .string ⟨#[]⟩, .string ⟨#[]⟩, .int .i64 404, .int .i64 0, .string ⟨#[]⟩, .int .i64 3, .int .i64 9] := by
    refine Held.kept (Held.kept ?_ hb1) hb2
    have e1 : (w.alloc (.cells #[.string ⟨#[107]⟩, .string ⟨#[34]⟩] 56)).heap.size = w.heap.size + 1 := by simp
    have h := Held.made (w.alloc (.cells #[.string ⟨#[107]⟩, .string ⟨#[34]⟩] 56)) [.string ⟨#[]⟩, .string ⟨#[]⟩, .string ⟨#[47, 120]⟩, .slice (some ⟨w.heap.size, 0, none⟩) 1 1, .string ⟨#[]⟩, .string ⟨#[]⟩, .int .i64 404, .int .i64 0, .string ⟨#[]⟩, .int .i64 3, .int .i64 9] 32
    rw [e1] at h
    exact h.kept (Below.alloc' (Below.self _) _)
  have hheads : SlR w2 2 (.slice (some ⟨w.heap.size, 0, none⟩) 1 1) (knownRc.hs.map Hd.cells) := by
    refine SlR.keep (SlR.keep ?_ hb1) hb2
    exact ((SlR.made (c := 2) (n := 1) w (knownRc.hs.map Hd.cells) _ _ rfl (by simp [knownRc, Hd.cells]) rfl (by unfold maxLen; omega)).alloc _).alloc _
  have hparts : SlR w2 2 (.slice (some ⟨w.heap.size + 1 + 1, 0, none⟩) 8 8) (knownPt.map Pt.cells) := by
    refine SlR.keep (SlR.keep ?_ hb1) hb2
    have e1 : ∀ o o', ((w.alloc o).alloc o').heap.size = w.heap.size + 1 + 1 := by intro o o'; simp
    have h := SlR.made (c := 2) (n := 8) ((w.alloc (.cells #[.string ⟨#[107]⟩, .string ⟨#[34]⟩] 56)).alloc (.cells #[.string ⟨#[]⟩, .string ⟨#[]⟩, .string ⟨#[47, 120]⟩, .slice (some ⟨w.heap.size, 0, none⟩) 1 1, .string ⟨#[]⟩, .string ⟨#[]⟩, .int .i64 404, .int .i64 0, .string ⟨#[]⟩, .int .i64 3, .int .i64 9] 32)) (knownPt.map Pt.cells) _ 26 rfl (by simp [knownPt, Pt.cells]) rfl (by unfold maxLen; omega)
    rw [e1] at h
    exact h
  have hp2 : Pow10 w2 := by
    refine Pow10.keep (Pow10.keep (HP.out.keep ?_) hb1) hb2
    (repeat (first | exact Below.self _ | refine Below.alloc' ?_ _ | refine Below.drew ?_ | refine Below.drewN' ?_ _ | (refine Below.call ?_ (by assumption))))
  have hbw : Below w.heap.size w w2 := by
    refine Below.call (Below.call ?_ hb1) hb2
    (repeat (first | exact Below.self _ | refine Below.alloc' ?_ _ | refine Below.drew ?_ | refine Below.drewN' ?_ _ | (refine Below.call ?_ (by assumption))))
  have HR := Stow.mk hheads
  have HT := Stow.mk hparts
  have HP2 := Stow.mk hp2
  have HBW := Stow.mk hbw
  have c0 := hrec.cell (i := 0) rfl
  have c1 := hrec.cell (i := 1) rfl
  have c2 := hrec.cell (i := 2) rfl
  have c3 := hrec.cell (i := 3) rfl
  have c4 := hrec.cell (i := 4) rfl
  have c5 := hrec.cell (i := 5) rfl
  have c6 := hrec.cell (i := 6) rfl
  have c7 := hrec.cell (i := 7) rfl
  have c8 := hrec.cell (i := 8) rfl
  have c9 := hrec.cell (i := 9) rfl
  have c10 := hrec.cell (i := 10) rfl
  have HREC := Stow.mk hrec
  clear hheads hparts hp2 hbw hrec hb1 hb2
  go_wp2_with fail
  refine (render_any knownPt _ 8 knownRc _ 1 _ HT.out HR.out knownRc_fits knownRc_few (by decide) (by decide) HP2.out).mono ?_
  rw [known_render]
  rintro e w3 ⟨rfl, hb3⟩
  clear c0 c1 c2 c3 c4 c5 c6 c7 c8 c9 c10
  have hrec := HREC.out.kept hb3
  have c0 := hrec.cell (i := 0) rfl
  have c1 := hrec.cell (i := 1) rfl
  have c2 := hrec.cell (i := 2) rfl
  have c3 := hrec.cell (i := 3) rfl
  have c4 := hrec.cell (i := 4) rfl
  have c5 := hrec.cell (i := 5) rfl
  have c6 := hrec.cell (i := 6) rfl
  have c7 := hrec.cell (i := 7) rfl
  have c8 := hrec.cell (i := 8) rfl
  have c9 := hrec.cell (i := 9) rfl
  have c10 := hrec.cell (i := 10) rfl
  have HB3 := Stow.mk hb3
  clear hrec hb3
  go_wp2_with fail
  refine (lineValue_any 99 [] knownRc _ 1 _ (HR.out.keep HB3.out) knownRc_fits (HP2.out.keep HB3.out)).mono ?_
  rw [show valueOf 99 [] knownRc = [] from rfl]
  rintro e w4 ⟨rfl, hb4⟩
  go_wp2_with fail
  go_ret
  exact ⟨rfl, Below.call (Below.call HBW.out HB3.out) hb4⟩
end Go.Proofs.YtkhepehgafijfaaDoor
