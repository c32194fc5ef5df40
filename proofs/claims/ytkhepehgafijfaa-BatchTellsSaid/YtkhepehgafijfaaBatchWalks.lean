/- Walks of the statements on batches: writing, reading. Condition: what the form itself grants of arguments. -/
import Derived.Test.YtkhepehgafijfaaBatchKnown
import Derived.Test.YtkhepehgafijfaaSpanData
namespace Go.Proofs.Ytkhepehgafijfaa
open Go.RowKit
set_option linter.unusedVariables false

/-- A batch that comes in. -/
structure BtArg where
  (x y : Int)
  A : Option Addr
  cap : Nat
  L : List Sp
def BtArg.val (b : BtArg) : Value := .agg #[.int .i64 b.x, .int .i64 b.y, .slice b.A b.L.length b.cap]
def BtArg.ok (w : World) (b : BtArg) : Prop := SlR w 11 (.slice b.A b.L.length b.cap) (b.L.map Sp.cells) ∧ ∀ s ∈ b.L, s.fits

open Cells in
set_option maxRecDepth 100000 in
theorem flat_batch (w : World) : Flat Try.prog w 24 [pInt .i64, pInt .i64, pSlice w 11 spanCells] :=
  flat_struct Try.underlying24 (by kernel_rfl) (.cons 1 rfl (by kernel_rfl) (flat_int Try.underlying3) (.cons 1 rfl (by kernel_rfl) (flat_int Try.underlying3) (.cons 1 rfl (by kernel_rfl) (flat_slice Try.underlying22 (by kernel_rfl) (flat_span w)) (.nil _) rfl rfl) rfl rfl) rfl rfl)
open Cells in
theorem batch_of_cells {w : World} {cs : List Value} (h : Rel [pInt .i64, pInt .i64, pSlice w 11 spanCells] cs) : ∃ b : BtArg, (.agg cs.toArray : Value) = b.val ∧ b.ok w := by
  obtain ⟨v0, _, rfl, h0, h⟩ := h.cons_inv
  obtain ⟨v1, _, rfl, h1, h⟩ := h.cons_inv
  obtain ⟨v2, _, rfl, h2, h⟩ := h.cons_inv
  obtain rfl := h.nil_inv
  obtain ⟨x, rfl, _⟩ := h0
  obtain ⟨y, rfl, _⟩ := h1
  obtain ⟨L, hL, hf⟩ := slr_of Sp.cells Sp.fits (fun cs hc => by
    obtain ⟨s, hs, hf⟩ := span_of_cells hc
    refine ⟨s, ?_, hf⟩
    have : cs.toArray = (Sp.cells s).toArray := by simpa [Sp.val, Sp.cells] using hs
    simpa using this) Sp.cells_len (by omega) h2
  obtain ⟨A, cap, rfl, _⟩ := hL.form
  simp only [List.length_map] at hL
  exact ⟨⟨x, y, A, cap, L⟩, by simp [BtArg.val], hL, hf⟩


set_option maxHeartbeats 2000000 in
set_option maxRecDepth 100000 in
theorem writes10 (b : BtArg) (w : World) (hb : b.ok w) : Calls Try.prog 3 #[b.val] w fun e w' => e = .returned (.bool true) ∧ Below w.heap.size w w' := by
  obtain ⟨x, y, A, cap, L⟩ := b
  obtain ⟨hS, hf⟩ := hb
  simp only [BtArg.val] at *
  have HS := Stow.mk hS
  have HF := Stow.mk hf
  clear hS hf
  obtain ⟨q, hq⟩ : ∃ q, fewB L = q := ⟨_, rfl⟩
  have HQ := Stow.mk hq
  clear hq
  cases q
  · go_enter Try.func3, Try.ntmps3
    go_wp2_with fail
    refine (few10_any x y L A cap _ (HS.out.alloc _) HF.out).mono ?_
    rw [HQ.out]
    rintro e w1 ⟨rfl, hb1⟩
    go_wp2_with fail
    refine (known10_any _).mono ?_
    rintro e wk ⟨rfl, hbk⟩
    go_wp2_with fail
    go_ret
    refine ⟨rfl, ?_⟩
    (repeat (first | exact Below.self _ | refine Below.alloc' ?_ _ | refine Below.drew ?_ | refine Below.drewN' ?_ _ | (refine Below.call ?_ (by assumption))))
  rcases hw : btWrite x y L with ⟨s, c⟩
  rcases ha : btAck x y with ⟨a, d⟩
  obtain ⟨bc, hbc⟩ : ∃ bc, btCheck x y L = bc := ⟨_, rfl⟩
  have HW := Stow.mk hw
  have HA := Stow.mk ha
  have HC := Stow.mk hbc
  clear hw ha hbc
  have hH := Held.made w [.int .i64 x, .int .i64 y, .slice A L.length cap] 24
  have HS0 := Stow.mk (HS.out.alloc (.cells #[.int .i64 x, .int .i64 y, .slice A L.length cap] 24))
  go_enter Try.func3, Try.ntmps3
  go_wp2_with fail
  refine (few10_any x y L A cap _ HS0.out HF.out).mono ?_
  rw [HQ.out]
  rintro e w1 ⟨rfl, hb1⟩
  have hH1 := hH.kept hb1
  have HS1 := Stow.mk (HS0.out.keep hb1)
  have p0 := hH1.cell (i := 0) rfl
  have p1 := hH1.cell (i := 1) rfl
  have p2 := hH1.cell (i := 2) rfl
  go_wp2_with fail
  clear p0 p1 p2
  refine (btWrite_any x y A cap L _ HS1.out HF.out).mono ?_
  rw [HW.out]
  rintro e w2 ⟨rfl, hb2⟩
  have hH2 := hH1.kept hb2
  have HS2 := Stow.mk (HS1.out.keep hb2)
  have p0 := hH2.cell (i := 0) rfl
  have p1 := hH2.cell (i := 1) rfl
  have p2 := hH2.cell (i := 2) rfl
  go_wp2_with fail
  clear p0 p1 p2
  refine (refBtWrite_any x y A cap L _ HS2.out HF.out).mono ?_
  rw [HW.out]
  rintro e w3 ⟨rfl, hb3⟩
  have hH3 := hH2.kept hb3
  have HS3 := Stow.mk (HS2.out.keep hb3)
  have p0 := hH3.cell (i := 0) rfl
  have p1 := hH3.cell (i := 1) rfl
  have p2 := hH3.cell (i := 2) rfl
  go_wp2_with fail
  clear p0 p1 p2
  refine (btAck_any x y _).mono ?_
  rw [HA.out]
  rintro e w4 ⟨rfl, hb4⟩
  have hH4 := hH3.kept hb4
  have HS4 := Stow.mk (HS3.out.keep hb4)
  have p0 := hH4.cell (i := 0) rfl
  have p1 := hH4.cell (i := 1) rfl
  have p2 := hH4.cell (i := 2) rfl
  go_wp2_with fail
  clear p0 p1 p2
  refine (refBtAck_any x y _).mono ?_
  rw [HA.out]
  rintro e w5 ⟨rfl, hb5⟩
  have hH5 := hH4.kept hb5
  have hs5 := hH5.lt
  have HS5 := Stow.mk (HS4.out.keep hb5)
  have g0 : ∀ z : Later w5.heap.size w5, z.1.cell? ⟨w.heap.size, 0, none⟩ = some (.int .i64 x) := fun z => z.cell (hH5.cell (i := 0) rfl) hs5
  have g1 : ∀ z : Later w5.heap.size w5, z.1.cell? ⟨w.heap.size, 1, none⟩ = some (.int .i64 y) := fun z => z.cell (hH5.cell (i := 1) rfl) hs5
  have g2 : ∀ z : Later w5.heap.size w5, z.1.cell? ⟨w.heap.size, 2, none⟩ = some (.slice A L.length cap) := fun z => z.cell (hH5.cell (i := 2) rfl) hs5
  have hck : ∀ z : Later w5.heap.size w5, Calls Try.prog 13 #[.agg #[.int .i64 x, .int .i64 y, .slice A L.length cap]] z.1 fun e w' => e = .returned (.int .i64 (bc : Int)) ∧ Below z.1.heap.size z.1 w' := fun z => by
    have := btCheck_any x y A cap L z.1 (HS5.out.keep z.2) HF.out
    rw [HC.out] at this; exact this
  have hrk : ∀ z : Later w5.heap.size w5, Calls Try.prog 14 #[.agg #[.int .i64 x, .int .i64 y, .slice A L.length cap]] z.1 fun e w' => e = .returned (.int .i64 (bc : Int)) ∧ Below z.1.heap.size z.1 w' := fun z => by
    have := refBtCheck_any x y A cap L z.1 (HS5.out.keep z.2) HF.out
    rw [HC.out] at this; exact this
  have HK := Stow.mk hck
  have HRK := Stow.mk hrk
  clear hck hrk
  go_wp2_with fail
  refine wp_region_later w5.heap.size (by kernel_rfl) (by kernel_rfl) ?_
  repeat (go_big_quiet_step (first
    | (go_at_call 13; exact Calls.later (Nat.le_refl _) (HK.out _))
    | (go_at_call 14; exact Calls.later (Nat.le_refl _) (HRK.out _))
    | (go_at_call 8; exact Calls.later (Nat.le_refl _) (known10_any _))))
  refine wpQuiet_nil ?_
  rintro ⟨wx, hbx⟩
  go_wp2_with fail
  go_ret
  refine ⟨rfl, ?_⟩
  (repeat (first | exact Below.self _ | refine Below.alloc' ?_ _ | refine Below.drew ?_ | refine Below.drewN' ?_ _ | (refine Below.call ?_ (by assumption))))

set_option maxHeartbeats 2000000 in
set_option maxRecDepth 100000 in
theorem reads10 (l : List UInt8) (w : World) (hl : l.length ≤ 9223372036854775807) : Calls Try.prog 4 #[.string (bs l)] w fun e w' => e = .returned (.bool true) ∧ Below w.heap.size w w' := by
  by_cases h3 : 3000 < l.length
  · go_enter Try.func4, Try.ntmps4
    go_wp2_with fail
    refine (known10_any _).mono ?_
    rintro e wk ⟨rfl, hbk⟩
    go_wp2_with fail
    go_ret
    refine ⟨rfl, ?_⟩
    (repeat (first | exact Below.self _ | refine Below.alloc' ?_ _ | refine Below.drew ?_ | refine Below.drewN' ?_ _ | (refine Below.call ?_ (by assumption))))
  rcases hr : btRead l with ⟨n1, n2, L, b⟩
  rcases ha : btReadAck l with ⟨m1, m2, c⟩
  obtain ⟨k, hk⟩ : ∃ k, kindOf l = k := ⟨_, rfl⟩
  have HR := Stow.mk hr
  have HA := Stow.mk ha
  have HK := Stow.mk hk
  clear hr ha hk
  go_enter Try.func4, Try.ntmps4
  go_wp2_with fail
  refine (btRead_any l _ hl).mono ?_
  rw [HR.out]
  rintro e w1 hbo
  obtain ⟨A, cap, rfl, hS1, hb1⟩ := hbo.form
  clear hbo
  have hH1 := Held.made w1 [.int .i64 (n1 : Int), .int .i64 (n2 : Int), .slice A L.length cap] 24
  have HS1 := Stow.mk (hS1.alloc (.cells #[.int .i64 (n1 : Int), .int .i64 (n2 : Int), .slice A L.length cap] 24))
  clear hS1
  go_wp2_with fail
  refine (refBtRead_any l _ (by omega)).mono ?_
  rw [HR.out]
  rintro e w2 hbo
  obtain ⟨A2, cap2, rfl, hS2, hb2⟩ := hbo.form
  clear hbo
  have hHx := (hH1.kept hb2).kept (Below.alloc' (Below.self _) (.cells #[.int .i64 (n1 : Int), .int .i64 (n2 : Int), .slice A2 L.length cap2] 24))
  have hHy := Held.made w2 [.int .i64 (n1 : Int), .int .i64 (n2 : Int), .slice A2 L.length cap2] 24
  have HSx := Stow.mk ((HS1.out.keep hb2).alloc (.cells #[.int .i64 (n1 : Int), .int .i64 (n2 : Int), .slice A2 L.length cap2] 24))
  have HSy := Stow.mk (hS2.alloc (.cells #[.int .i64 (n1 : Int), .int .i64 (n2 : Int), .slice A2 L.length cap2] 24))
  clear hS2
  go_wp2_with fail
  refine (readAck_any l _ hl).mono ?_
  rw [HA.out]
  rintro e w3 ⟨rfl, hb3⟩
  go_wp2_with fail
  refine (refReadAck_any l _ (by omega)).mono ?_
  rw [HA.out]
  rintro e w4 ⟨rfl, hb4⟩
  have hh := (hHx.kept hb3).kept hb4
  have hk := (hHy.kept hb3).kept hb4
  have p0 := hh.cell (i := 0) rfl
  have p1 := hh.cell (i := 1) rfl
  have p2 := hh.cell (i := 2) rfl
  have k0 := hk.cell (i := 0) rfl
  have k1 := hk.cell (i := 1) rfl
  have k2 := hk.cell (i := 2) rfl
  go_wp2_with fail
  clear p0 p1 p2 k0 k1 k2
  refine (sameBt_any n1 n2 L A A2 cap cap2 _ ((HSx.out.keep hb3).keep hb4) ((HSy.out.keep hb3).keep hb4)).mono ?_
  rintro e w5 ⟨rfl, hb5⟩
  go_wp2_with fail
  refine (kind_any l _ hl).mono ?_
  rw [HK.out]
  rintro e w' ⟨rfl, rfl⟩
  go_wp2_with fail
  refine (refKind_any l _ hl).mono ?_
  rw [HK.out]
  rintro e w' ⟨rfl, rfl⟩
  go_wp2_with fail
  refine (known10_any _).mono ?_
  rintro e w6 ⟨rfl, hb6⟩
  go_wp2_with fail
  go_ret
  refine ⟨rfl, ?_⟩
  (repeat (first | exact Below.self _ | refine Below.alloc' ?_ _ | refine Below.drew ?_ | refine Below.drewN' ?_ _ | (refine Below.call ?_ (by assumption))))
end Go.Proofs.Ytkhepehgafijfaa
