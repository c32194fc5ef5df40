/- Walks of the reference's SameBack and SameWant at alike ones. Conditions: slices' own. -/
import Derived.Test.YthbpcdoddcacdaaFlSame
import Derived.Test.YthbpcdoddcacdaaFlRun
namespace Go.Proofs.Ythbpcdoddcacdaa
open Go.RowKit
set_option linter.unusedVariables false

set_option maxHeartbeats 1000000 in
set_option maxRecDepth 100000 in
theorem rsSame_any (st : Int) (b : Txt) (w : World) :
    Calls Try.prog 95 #[.agg #[.int .i64 st, .slice none 0 0, .string (bs b)], .agg #[.int .i64 st, .slice none 0 0, .string (bs b)]] w fun e w' => e = .returned (.bool true) ∧ Below w.heap.size w w' := by
  have HX := Stow.mk ((Held.made w [.int .i64 st, .slice none 0 0, .string (bs b)] 32).kept (Below.alloc' (Below.self _) (.cells [.int .i64 st, .slice none 0 0, .string (bs b)].toArray 32)))
  have HY := Stow.mk (Held.made (w.alloc (.cells [.int .i64 st, .slice none 0 0, .string (bs b)].toArray 32)) [.int .i64 st, .slice none 0 0, .string (bs b)] 32)
  have HB := Stow.mk (Below.alloc' (Below.alloc' (Below.self w) (.cells [.int .i64 st, .slice none 0 0, .string (bs b)].toArray 32)) (.cells [.int .i64 st, .slice none 0 0, .string (bs b)].toArray 32))
  obtain ⟨W0, hW0⟩ : ∃ W, (w.alloc (.cells [.int .i64 st, .slice none 0 0, .string (bs b)].toArray 32)).alloc (.cells [.int .i64 st, .slice none 0 0, .string (bs b)].toArray 32) = W := ⟨_, rfl⟩
  rw [hW0] at HB HX HY
  simp only [World.size_alloc] at HY
  have HS := Stow.mk (hdsSame_any [] none none 0 0 W0 (SlR.nil _ _) (SlR.nil _ _))
  have HW0 := Stow.mk hW0
  clear hW0
  have z4 : (b == b) = true := by simp
  go_enter Try.func95, Try.ntmps95
  go_upto_region 1 with fail
  generalize hW : World.alloc (World.alloc w _) _ = W
  obtain rfl : W = W0 := hW.symm.trans HW0.out
  clear hW HW0
  have a0 := HX.out.cell (i := 0) rfl
  have a1 := HX.out.cell (i := 1) rfl
  have b0 := HY.out.cell (i := 0) rfl
  have b1 := HY.out.cell (i := 1) rfl
  go_wp2_with fail
  refine HS.out.mono ?_
  rintro e w1 ⟨rfl, hb1⟩
  have HX := Stow.mk (HX.out.kept hb1)
  have HY := Stow.mk (HY.out.kept hb1)
  have HB := Stow.mk (HB.out.trans (hb1.mono HB.out.size))
  have a2 := HX.out.cell (i := 2) rfl
  have b2 := HY.out.cell (i := 2) rfl
  clear a0 a1 b0 b1 hb1
  go_wp2_with fail
  go_ret
  exact ⟨by first | rfl | simp, HB.out⟩
set_option maxHeartbeats 4000000 in
set_option maxRecDepth 100000 in
theorem wantSame_any (k : Int) (m h p : Txt) (hs : List Hd) (A A' : Option Addr) (c c' : Nat) (b : Txt) (st : Int) (body : Txt) (f f' : Fm) (w : World) (hf : f.c = f'.c) (hx : FmR w f) (hy : FmR w f')
    (hS : SlR w 2 (.slice A hs.length c) (hs.map Hd.cells)) (hS' : SlR w 2 (.slice A' hs.length c') (hs.map Hd.cells)) :
    Calls Try.prog 59 #[.agg (wantc k m h p A hs.length c b st body f).toArray, .agg (wantc k m h p A' hs.length c' b st body f').toArray] w fun e w' => e = .returned (.bool true) ∧ Below w.heap.size w w' := by
  have HX := Stow.mk ((Held.made w (wantc k m h p A hs.length c b st body f) 98).kept (Below.alloc' (Below.self _) (.cells (wantc k m h p A' hs.length c' b st body f').toArray 98)))
  have HY := Stow.mk (Held.made (w.alloc (.cells (wantc k m h p A hs.length c b st body f).toArray 98)) (wantc k m h p A' hs.length c' b st body f') 98)
  have HB := Stow.mk (Below.alloc' (Below.alloc' (Below.self w) (.cells (wantc k m h p A hs.length c b st body f).toArray 98)) (.cells (wantc k m h p A' hs.length c' b st body f').toArray 98))
  obtain ⟨W0, hW0⟩ : ∃ W, (w.alloc (.cells (wantc k m h p A hs.length c b st body f).toArray 98)).alloc (.cells (wantc k m h p A' hs.length c' b st body f').toArray 98) = W := ⟨_, rfl⟩
  rw [hW0] at HB HX HY
  simp only [World.size_alloc] at HY
  have HQ := Stow.mk (fun W (hb : Below w.heap.size w W) => rqSame_any m h p b hs A A' c c' W (hS.keep hb) (hS'.keep hb))
  have HRS := Stow.mk (fun W => rsSame_any st body W)
  have HFS := Stow.mk (fun W (hb : Below w.heap.size w W) => frSame_any f f' W hf (hx.keep hb) (hy.keep hb))
  have HW0 := Stow.mk hW0
  clear hW0 hx hy hS hS' hf
  go_enter Try.func59, Try.ntmps59
  go_upto_region 1 with fail
  generalize hW : World.alloc (World.alloc w _) _ = W
  obtain rfl : W = W0 := hW.symm.trans HW0.out
  clear hW HW0
  have a0 := HX.out.cell (i := 0) rfl
  have a1 := HX.out.cell (i := 1) rfl
  have a2 := HX.out.cell (i := 2) rfl
  have a3 := HX.out.cell (i := 3) rfl
  have a4 := HX.out.cell (i := 4) rfl
  have a5 := HX.out.cell (i := 5) rfl
  have b0 := HY.out.cell (i := 0) rfl
  have b1 := HY.out.cell (i := 1) rfl
  have b2 := HY.out.cell (i := 2) rfl
  have b3 := HY.out.cell (i := 3) rfl
  have b4 := HY.out.cell (i := 4) rfl
  have b5 := HY.out.cell (i := 5) rfl
  go_wp2_with fail
  refine (HQ.out _ HB.out).mono ?_
  rintro e w1 ⟨rfl, hb1⟩
  have HX := Stow.mk (HX.out.kept hb1)
  have HY := Stow.mk (HY.out.kept hb1)
  have HB := Stow.mk (HB.out.trans (hb1.mono HB.out.size))
  clear a0 a1 a2 a3 a4 a5 b0 b1 b2 b3 b4 b5 hb1
  have a6 := HX.out.cell (i := 6) rfl
  have a7 := HX.out.cell (i := 7) rfl
  have a8 := HX.out.cell (i := 8) rfl
  have b6 := HY.out.cell (i := 6) rfl
  have b7 := HY.out.cell (i := 7) rfl
  have b8 := HY.out.cell (i := 8) rfl
  go_wp2_with fail
  refine (HRS.out _).mono ?_
  rintro e w2 ⟨rfl, hb1⟩
  have HX := Stow.mk (HX.out.kept hb1)
  have HY := Stow.mk (HY.out.kept hb1)
  have HB := Stow.mk (HB.out.trans (hb1.mono HB.out.size))
  clear a6 a7 a8 b6 b7 b8 hb1
  have a9 := HX.out.cell (i := 9) rfl
  have a10 := HX.out.cell (i := 10) rfl
  have a11 := HX.out.cell (i := 11) rfl
  have a12 := HX.out.cell (i := 12) rfl
  have a13 := HX.out.cell (i := 13) rfl
  have a14 := HX.out.cell (i := 14) rfl
  have a15 := HX.out.cell (i := 15) rfl
  have a16 := HX.out.cell (i := 16) rfl
  have a17 := HX.out.cell (i := 17) rfl
  have a18 := HX.out.cell (i := 18) rfl
  have a19 := HX.out.cell (i := 19) rfl
  have a20 := HX.out.cell (i := 20) rfl
  have a21 := HX.out.cell (i := 21) rfl
  have b9 := HY.out.cell (i := 9) rfl
  have b10 := HY.out.cell (i := 10) rfl
  have b11 := HY.out.cell (i := 11) rfl
  have b12 := HY.out.cell (i := 12) rfl
  have b13 := HY.out.cell (i := 13) rfl
  have b14 := HY.out.cell (i := 14) rfl
  have b15 := HY.out.cell (i := 15) rfl
  have b16 := HY.out.cell (i := 16) rfl
  have b17 := HY.out.cell (i := 17) rfl
  have b18 := HY.out.cell (i := 18) rfl
  have b19 := HY.out.cell (i := 19) rfl
  have b20 := HY.out.cell (i := 20) rfl
  have b21 := HY.out.cell (i := 21) rfl
  go_wp2_with fail
  refine (HFS.out _ HB.out).mono ?_
  rintro e w3 ⟨rfl, hb1⟩
  have HB := Stow.mk (HB.out.trans (hb1.mono HB.out.size))
  clear a9 a10 a11 a12 a13 a14 a15 a16 a17 a18 a19 a20 a21 b9 b10 b11 b12 b13 b14 b15 b16 b17 b18 b19 b20 b21 hb1
  go_wp2_with fail
  go_ret
  exact ⟨by first | rfl | simp, HB.out⟩
end Go.Proofs.Ythbpcdoddcacdaa
