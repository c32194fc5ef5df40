/- Walk of the law's known. Condition: what the library's variables hold. -/
import Derived.Test.YtbnaicgomabigaaDoorPgRefRead
import Derived.Test.YtbnaicgomabigaaDoorPgList
namespace Go.Proofs.YtbnaicgomabigaaDoor
open Go.RowKit
set_option linter.unusedVariables false

set_option maxHeartbeats 400000 in
set_option maxRecDepth 100000 in
theorem pgCheckAll_long (A : Option Addr) (n cap : Nat) (w : World) (h : 12 < n) : Calls Tryd.prog 20 #[.slice A n cap] w fun e w' => e = .returned (.int .i64 8) ∧ w' = w := by
  have h1i : (12 : Int) < n := by omega
  go_enter Tryd.func20, Tryd.ntmps20
  go_wp2_with fail
  go_ret
  exact ⟨rfl, rfl⟩

def kO : Ob := ⟨6, [115, 104, 111, 112], [47, 120], 0⟩
theorem kw1 : Pg.write kO = [99, 97, 108, 108, 32, 115, 104, 111, 112, 32, 47, 120] := by decide +kernel
theorem kc1 : Pg.check kO = 0 := by decide +kernel
theorem kr1 : Pg.read [99, 97, 108, 108, 32, 115, 104, 111, 112, 32, 47, 120] = some kO := by decide +kernel
theorem kr2 : Pg.read [112, 117, 116, 32, 107, 32, 118, 32, 119] = some ⟨3, [107], [118, 32, 119], 0⟩ := by decide +kernel
theorem kr3 : Pg.read [99, 97, 108, 108, 32, 115, 104, 111, 112] = none := by decide +kernel
theorem kc4 : Pg.check ⟨4, [116, 114, 97, 99, 101, 115, 116, 97, 116, 101], [], 0⟩ = 7 := by decide +kernel
theorem kc5 : Pg.checkAll [kO] = 0 := by decide +kernel
theorem info_op : (Tryd.prog.info? 23).map (fun i => (i.zero, i.size, i.bytes)) = some (some (.agg #[.int .i64 0, .string ⟨#[]⟩, .string ⟨#[]⟩, .int .i64 0]), 4, 48) := by kernel_rfl
theorem slr_one4 (w : World) (o : Ob) : SlR (w.alloc (.cells #[.int .i64 o.k, .string (bs o.a), .string (bs o.b), .int .i64 o.n] 23)) 4 (.slice (some ⟨w.heap.size, 0, none⟩) 1 1) [o.cells] := by
  have h := Held.made w [.int .i64 o.k, .string (bs o.a), .string (bs o.b), .int .i64 o.n] 23
  refine ⟨_, 1, rfl, Nat.le_refl _, by unfold maxLen; omega, fun _ => ⟨w.heap.size, 0, rfl, by simp, fun i x hi j u hu => ?_⟩⟩
  have hi0 : i = 0 := by
    rcases Nat.eq_zero_or_pos i with h | h
    · exact h
    · rw [List.getElem?_eq_none (by simp; omega)] at hi; cases hi
  subst hi0
  simp at hi
  subst hi
  rw [Nat.zero_mul, Nat.zero_add]
  exact h.cell hu

set_option maxHeartbeats 2000000 in
set_option maxRecDepth 100000 in
theorem known34_any (w : World) (hm : PgEnv w) : Calls Tryd.prog 13 #[] w fun e w' => e = .returned (.bool true) ∧ Below w.heap.size w w' := by
  have HM := Stow.mk hm
  clear hm
  have HH : Stow (∀ w1, Below (w.alloc (.cells #[.int .i64 6, .string ⟨#[115, 104, 111, 112]⟩, .string ⟨#[47, 120]⟩, .int .i64 0] 23)).heap.size (w.alloc (.cells #[.int .i64 6, .string ⟨#[115, 104, 111, 112]⟩, .string ⟨#[47, 120]⟩, .int .i64 0] 23)) w1 → Held w1 w.heap.size [.int .i64 6, .string ⟨#[115, 104, 111, 112]⟩, .string ⟨#[47, 120]⟩, .int .i64 0] ∧ Below w.heap.size w w1) := ⟨fun w1 h => ⟨(Held.made w [.int .i64 6, .string ⟨#[115, 104, 111, 112]⟩, .string ⟨#[47, 120]⟩, .int .i64 0] _).kept h, Below.call (Below.alloc' (Below.self _) _) h⟩⟩
  go_enter Tryd.func13, Tryd.ntmps13
  go_wp2_with fail
  refine (pgWrite_any kO _ (by decide) (by decide) (by decide) (by decide) (HM.out.keep (HH.out _ (Below.refl _ _)).2).pow).mono ?_
  rw [kw1, kc1]
  rintro e w1 ⟨rfl, hb1⟩
  obtain ⟨hH1, hB1⟩ := HH.out w1 hb1
  have HH1 := Stow.mk hH1
  have HB1 := Stow.mk hB1
  clear hH1 hB1 hb1
  go_wp2_with fail
  refine (pgRead_any [99, 97, 108, 108, 32, 115, 104, 111, 112, 32, 47, 120] _ (by decide) (HM.out.keep HB1.out)).mono ?_
  rw [kr1]
  rintro e w2 ⟨rfl, hb2⟩
  have HH2 := Stow.mk (HH1.out.kept hb2)
  have HB2 := Stow.mk (Below.call HB1.out hb2)
  clear hb2
  simp only [Option.getD_some, Option.isSome_some, kO, Ob.val]
  have H4 : Stow (∀ W, Below (w2.alloc (.cells #[.int .i64 6, .string (bs [115, 104, 111, 112]), .string (bs [47, 120]), .int .i64 0] 23)).heap.size (w2.alloc (.cells #[.int .i64 6, .string (bs [115, 104, 111, 112]), .string (bs [47, 120]), .int .i64 0] 23)) W → Held W w2.heap.size [.int .i64 6, .string (bs [115, 104, 111, 112]), .string (bs [47, 120]), .int .i64 0] ∧ Held W w.heap.size [.int .i64 6, .string ⟨#[115, 104, 111, 112]⟩, .string ⟨#[47, 120]⟩, .int .i64 0] ∧ Below w.heap.size w W) := ⟨fun W h => ⟨(Held.made w2 [.int .i64 6, .string (bs [115, 104, 111, 112]), .string (bs [47, 120]), .int .i64 0] _).kept h, (HH2.out.kept (Below.alloc' (Below.self _) _)).kept h, Below.call (Below.alloc' HB2.out _) h⟩⟩
  go_wp2_with fail
  refine (pgRead_any [112, 117, 116, 32, 107, 32, 118, 32, 119] _ (by decide) (HM.out.keep (H4.out _ (Below.refl _ _)).2.2)).mono ?_
  rw [kr2]
  rintro e w3 ⟨rfl, hb3⟩
  obtain ⟨h4, h1, hB3⟩ := H4.out w3 hb3
  have H43 := Stow.mk h4
  have HH3 := Stow.mk h1
  have HB3 := Stow.mk hB3
  clear hb3 h4 h1 hB3
  simp only [Option.getD_some, Option.isSome_some, Ob.val]
  have H6 : Stow (∀ W, Below (w3.alloc (.cells #[.int .i64 3, .string (bs [107]), .string (bs [118, 32, 119]), .int .i64 0] 23)).heap.size (w3.alloc (.cells #[.int .i64 3, .string (bs [107]), .string (bs [118, 32, 119]), .int .i64 0] 23)) W → Held W w3.heap.size [.int .i64 3, .string (bs [107]), .string (bs [118, 32, 119]), .int .i64 0] ∧ Held W w2.heap.size [.int .i64 6, .string (bs [115, 104, 111, 112]), .string (bs [47, 120]), .int .i64 0] ∧ Held W w.heap.size [.int .i64 6, .string ⟨#[115, 104, 111, 112]⟩, .string ⟨#[47, 120]⟩, .int .i64 0] ∧ Below w.heap.size w W) := ⟨fun W h => ⟨(Held.made w3 [.int .i64 3, .string (bs [107]), .string (bs [118, 32, 119]), .int .i64 0] _).kept h, (H43.out.kept (Below.alloc' (Below.self _) _)).kept h, (HH3.out.kept (Below.alloc' (Below.self _) _)).kept h, Below.call (Below.alloc' HB3.out _) h⟩⟩
  go_wp2_with fail
  refine (pgRead_any [99, 97, 108, 108, 32, 115, 104, 111, 112] _ (by decide) (HM.out.keep (H6.out _ (Below.refl _ _)).2.2.2)).mono ?_
  rw [kr3]
  rintro e w4 ⟨rfl, hb4⟩
  obtain ⟨h6, h4, h1, hB4⟩ := H6.out w4 hb4
  have H64 := Stow.mk h6
  have H44 := Stow.mk h4
  have HH4 := Stow.mk h1
  have HB4 := Stow.mk hB4
  clear hb4 hB4
  simp only [Option.getD_none, Option.isSome_none, Pg.zero, Ob.val]
  have hl6 := h6.lt
  have hl4 := h4.lt
  have hl1 := h1.lt
  have n6 : (w4.heap.size == w3.heap.size) = false := by simp; omega
  have n4 : (w4.heap.size == w2.heap.size) = false := by simp; omega
  have n1 : (w4.heap.size == w.heap.size) = false := by simp; omega
  have a0 := h6.cell (i := 0) rfl
  have a1 := h6.cell (i := 1) rfl
  have a2 := h6.cell (i := 2) rfl
  have a3 := h6.cell (i := 3) rfl
  have b0 := h4.cell (i := 0) rfl
  have b1 := h4.cell (i := 1) rfl
  have b2 := h4.cell (i := 2) rfl
  have b3 := h4.cell (i := 3) rfl
  have c0 := h1.cell (i := 0) rfl
  have c1 := h1.cell (i := 1) rfl
  have c2 := h1.cell (i := 2) rfl
  have c3 := h1.cell (i := 3) rfl
  clear h6 h4 h1
  go_wp2_with fail
  refine (pgCheck_any ⟨4, [116, 114, 97, 99, 101, 115, 116, 97, 116, 101], [], 0⟩ _ (by decide) (by decide)).mono ?_
  rw [kc4]
  rintro e w5 ⟨rfl, hb5⟩
  have hH5 := (HH4.out.kept (Below.alloc' (Below.self _) _)).kept hb5
  have HH5 := Stow.mk hH5
  have HB5 := Stow.mk (Below.call (Below.alloc' HB4.out _) hb5)
  have hl5 := hH5.lt
  have n5 : (w5.heap.size == w.heap.size) = false := by simp; omega
  have d0 := hH5.cell (i := 0) rfl
  have d1 := hH5.cell (i := 1) rfl
  have d2 := hH5.cell (i := 2) rfl
  have d3 := hH5.cell (i := 3) rfl
  clear hb5 hH5 a0 a1 a2 a3 b0 b1 b2 b3 c0 c1 c2 c3
  obtain ⟨i, hi, hz, hsz, hby⟩ := info_parts info_op
  obtain ⟨w6, hrun, hown, hgr⟩ := run_make_full (P := Tryd.prog) w5 w5.heap.size 24 23 i _ 4 Tryd.underlying24 hi hz hsz .i64 .i64 13 (by rw [hby]; decide) (by decide) (Nat.le_refl _)
  have HB6 : Stow (Below w.heap.size w w6) := ⟨HB5.out.grown hgr HB5.out.size (by intro k hk; cases hk)⟩
  have HH6 := Stow.mk (HH5.out.kept ((Below.refl w5.heap.size w5).grown hgr (Nat.le_refl _) (by intro k hk; cases hk)))
  clear hown hgr hi hz hsz hby
  rw [show ((13 : Nat) : Int) = 13 from rfl] at hrun
  have e0 := HH6.out.cell (i := 0) rfl
  have e1 := HH6.out.cell (i := 1) rfl
  have e2 := HH6.out.cell (i := 2) rfl
  have e3 := HH6.out.cell (i := 3) rfl
  go_wp2_with fail
  refine (pgCheckAll_long _ 13 13 _ (by decide)).mono ?_
  rintro e w7 ⟨rfl, rfl⟩
  go_wp2_with fail
  refine (pgCheckAll_any _ 1 [kO] _ (slr_one4 w7 kO) (by intro m hm; simp at hm; subst hm; decide)).mono ?_
  rw [kc5]
  rintro e w8 ⟨rfl, hb8⟩
  go_wp2_with fail
  go_ret
  exact ⟨rfl, Below.call (Below.alloc' HB6.out _) hb8⟩
end Go.Proofs.YtbnaicgomabigaaDoor
