/- Walk of the law's known. Condition: a variable of the library's holds an int. -/
import Derived.Test.YtmknemnpjjcdbaaDoorFmSame
namespace Go.Proofs.YtmknemnpjjcdbaaDoor
open Go.RowKit
set_option linter.unusedVariables false

def k19a : List UInt8 := [37, 80, 65, 84, 72, 37, 32, 105, 115, 32, 53, 37, 37, 37, 82, 69, 81, 40, 97, 45, 98, 41, 37]
def k19L : List Pt := [(3, []), (0, [32, 105, 115, 32, 53, 37]), (9, [97, 45, 98])]
theorem k19c : Fm.compile k19a = (k19L, 0, 0) := by decide +kernel
theorem k19d : Fm.compile [97, 98, 37, 88, 37] = ([], 2, 3) := by decide +kernel
theorem k19e : Fm.compile [37, 72, 79, 83, 84, 37] = ([(2, [])], 0, 0) := by decide +kernel
theorem k19w : Fm.write k19L = k19a := by decide +kernel
theorem PRow.only {g : Nat} {w w' : World} {B : Nat} {v : Value} {L : List Pt} (h : PRow w B v L) (ho : Only g w w') (hne : ∀ k, v.ownBlock = some k → k ≠ g) : PRow w' B v L :=
  own_apart h ho fun k hk e => hne k hk (Option.some.inj e).symm

set_option maxHeartbeats 4000000 in
set_option maxRecDepth 100000 in
theorem known19_any (w : World) (hm : MaxIs w) : Calls Tryd.prog 6 #[] w fun e w' => e = .returned (.bool true) ∧ Below w.heap.size w w' := by
  have HM := Stow.mk hm
  have h0 : 0 < w.heap.size := by obtain ⟨m, hm⟩ := hm; exact World.block_lt_of_cell? w ⟨0, 0, none⟩ hm
  clear hm
  have K1 := fmCompile_any k19a w (by decide) HM.out
  rw [k19c] at K1
  have HK1 := Stow.mk K1
  have K3 := fun W h => fmCompile_any [97, 98, 37, 88, 37] W (by decide) h
  rw [k19d] at K3
  have HK3 := Stow.mk K3
  clear K1 K3
  unfold CompOf at HK1 HK3
  go_enter Tryd.func6, Tryd.ntmps6
  go_wp2_with fail
  refine HK1.out.mono ?_
  rintro e w1 ⟨v1, rfl, hp1, hb1⟩
  obtain ⟨A1, c1, rfl⟩ := hp1.form
  have HB1 := Stow.mk hb1
  have HP1 := Stow.mk hp1
  clear hp1 hb1
  go_wp2_with fail
  have hH0 : Held (w1.alloc (.cells #[.int .i64 3, .string ⟨#[]⟩, .int .i64 0, .string ⟨#[32, 105, 115, 32, 53, 37]⟩, .int .i64 9, .string ⟨#[97, 45, 98]⟩] 35)) w1.heap.size (k19L.flatMap Pt.cells) := Held.made w1 (k19L.flatMap Pt.cells) _
  have hB0 : Below w1.heap.size w1 (w1.alloc (.cells #[.int .i64 3, .string ⟨#[]⟩, .int .i64 0, .string ⟨#[32, 105, 115, 32, 53, 37]⟩, .int .i64 9, .string ⟨#[97, 45, 98]⟩] 35)) := Below.alloc' (Below.self _) _
  have HH0 := Stow.mk hH0
  have HP1' := Stow.mk (HP1.out.kept hB0)
  have HB1' : Stow (Below w.heap.size w (w1.alloc (.cells #[.int .i64 3, .string ⟨#[]⟩, .int .i64 0, .string ⟨#[32, 105, 115, 32, 53, 37]⟩, .int .i64 9, .string ⟨#[97, 45, 98]⟩] 35))) := ⟨HB1.out.trans (hB0.mono HB1.out.size)⟩
  have hg1 := HH0.out.lt
  clear hH0 hB0
  refine (HK3.out _ (HM.out.keep HB1'.out)).mono ?_
  rintro e w3 ⟨v3, rfl, hp3, hb3⟩
  obtain ⟨A3, c3, rfl⟩ := hp3.form
  have HH3 := Stow.mk (HH0.out.kept hb3)
  have HP3 := Stow.mk (HP1'.out.kept hb3)
  have HB3 : Stow (Below w.heap.size w w3) := ⟨HB1'.out.trans (hb3.mono HB1'.out.size)⟩
  have hg3 := HH3.out.lt
  clear HK1 HK3 HH0 HP1' HP1 HB1 HB1' hp3 hb3 hg1
  have KW := fun W h h2 => fmWrite_any k19L (some ⟨w1.heap.size, 0, none⟩) 3 W h (by unfold Fm.may k19L; intro p hp; simp at hp; rcases hp with rfl | rfl | rfl <;> simp) (by decide) (by decide) h2
  rw [k19w] at KW
  have HKW := Stow.mk KW
  clear KW
  have hSW : ∀ W, Held W w1.heap.size (k19L.flatMap Pt.cells) → SlR W 2 (.slice (some ⟨w1.heap.size, 0, none⟩) 3 3) (k19L.map Pt.cells) := fun W h => slr_held h rfl (by intro x hx; obtain ⟨m, _, rfl⟩ := List.mem_map.1 hx; rfl) (by decide)
  have HSW := Stow.mk hSW
  clear hSW
  go_wp2_with fail
  refine (HKW.out _ (HSW.out _ HH3.out) (HM.out.keep HB3.out)).mono ?_
  rintro e w4 ⟨rfl, hb4⟩
  have HH4 := Stow.mk (HH3.out.kept hb4)
  have HP4 := Stow.mk (HP3.out.kept hb4)
  have HB4 : Stow (Below w.heap.size w w4) := ⟨HB3.out.trans (hb4.mono HB3.out.size)⟩
  have hg4 : w3.heap.size ≤ w4.heap.size := hb4.size
  have HLT : Stow (∀ k, (Value.slice A1 k19L.length c1).ownBlock = some k → k < w3.heap.size) := ⟨fun k hk => (World.ownsRow.lt HP3.out k hk).2⟩
  clear hb4 HH3 HP3 HB3 HKW
  go_wp2_with fail
  refine (fmNew_any [37, 72, 79, 83, 84, 37] _).mono ?_
  rintro e w5 ⟨rfl, hh5, hb5⟩
  have HH5 := Stow.mk (HH4.out.kept hb5)
  have HP5 := Stow.mk (HP4.out.kept hb5)
  have HF5 := Stow.mk hh5
  have HB5 : Stow (Below w.heap.size w w5) := ⟨HB4.out.trans (hb5.mono HB4.out.size)⟩
  have h4w := HB4.out.size
  clear hh5 hb5 HH4 HP4
  go_wp2_with fail
  refine (fmMade_any w4.heap.size _ 0 _ HF5.out rfl (by omega)).mono ?_
  rintro e w5' ⟨rfl, rfl⟩
  go_wp2_with fail
  have KP := fmParts_first [37, 72, 79, 83, 84, 37] w4.heap.size _ HF5.out (by decide) (HM.out.keep HB5.out) (by omega)
  unfold PartsOf at KP
  rw [k19e] at KP
  refine KP.mono ?_
  clear KP
  rintro e w6 ⟨v, v', N, rfl, hH6, hP6, hP6', hNk, hgN, hN, hO6⟩
  obtain ⟨A6, c6, rfl⟩ := hP6'.form
  have HH6 := Stow.mk (HH5.out.only hO6 (by omega))
  have HPW : Stow (PRow w6 w.heap.size (.slice A1 k19L.length c1) k19L) := ⟨HP5.out.only hO6 (fun k hk => by have := HLT.out k hk; omega)⟩
  have HP6 := Stow.mk hP6'
  have HF6 := Stow.mk hH6
  have HB6 : Stow (Below w.heap.size w w6) := ⟨HB5.out.trans (hO6.below h4w HB5.out.size)⟩
  clear HH5 HP5 HF5 HB5 HB4 HLT hH6 hP6 hP6' hNk hO6
  go_wp2_with fail
  refine (ptSame_any k19L _ _ _ HPW.out.slr (HSW.out _ HH6.out)).mono ?_
  rintro e w7 ⟨rfl, hb7⟩
  have HP7 := Stow.mk (HP6.out.kept hb7)
  have HF7 := Stow.mk (HF6.out.kept hb7)
  have HB7 : Stow (Below w.heap.size w w7) := ⟨HB6.out.trans (hb7.mono HB6.out.size)⟩
  clear hb7 HPW HP6 HF6 HB6 HH6
  have h7 : Below w7.heap.size w7 (w7.alloc (.cells #[.int .i64 2, .string ⟨#[]⟩] 35)) := Below.alloc' (Below.self _) _
  have HP8 := Stow.mk (HP7.out.kept h7)
  have HF8 := Stow.mk (HF7.out.kept h7)
  have HB8 : Stow (Below w.heap.size w (w7.alloc (.cells #[.int .i64 2, .string ⟨#[]⟩] 35))) := ⟨HB7.out.trans (h7.mono HB7.out.size)⟩
  have HS8 : Stow (SlR (w7.alloc (.cells #[.int .i64 2, .string ⟨#[]⟩] 35)) 2 (.slice (some ⟨w7.heap.size, 0, none⟩) 1 1) ([(2, [])].map Pt.cells)) := ⟨slr_held (L := [(2, [])].map Pt.cells) (Held.made w7 [.int .i64 2, .string ⟨#[]⟩] _) rfl (by intro x hx; obtain ⟨m, _, rfl⟩ := List.mem_map.1 hx; rfl) (by decide)⟩
  have hkk : (k19a == [37, 80, 65, 84, 72, 37, 32, 105, 115, 32, 53, 37, 37, 37, 82, 69, 81, 40, 97, 45, 98, 41, 37]) = true := by decide +kernel
  clear h7 HP7 HF7 HB7
  go_wp2_with fail
  refine (ptSame_any [(2, [])] _ _ _ HP8.out.slr HS8.out).mono ?_
  rintro e w9 ⟨rfl, hb9⟩
  have HF9 := Stow.mk (HF8.out.kept hb9)
  have HB9 : Stow (Below w.heap.size w w9) := ⟨HB8.out.trans (hb9.mono HB8.out.size)⟩
  clear hb9 HP8 HF8 HB8 HS8
  go_wp2_with fail
  refine (fmMade_any w4.heap.size _ 1 _ HF9.out rfl (by omega)).mono ?_
  rintro e w9' ⟨rfl, rfl⟩
  go_wp2_with fail
  go_ret
  exact ⟨rfl, HB9.out⟩
end Go.Proofs.YtmknemnpjjcdbaaDoor
