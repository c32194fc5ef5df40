/- Walk of the config's writer: pred. Conditions: the writer's memory; texts no longer than an address space. -/
import Derived.Test.YtfbhdkkmcfnghaaGreatDoorCfWr2
import Derived.Deep.RegionHeld3
namespace Go.Proofs.YtfbhdkkmcfnghaaGreatDoor
open Go.RowKit
set_option linter.unusedVariables false
set_option linter.unusedSimpArgs false

theorem cells_strW : Tryz.prog.cellsOf 9 = 1 := by kernel_rfl
set_option maxHeartbeats 2000000 in
set_option maxRecDepth 100000 in
theorem cfPred_1 {w : World} {g B : Nat} {v : Value} {l : List UInt8} (h : Wr w g B v l) (hB : B ≤ w.heap.size) (n y : List UInt8) (hb : l.length + (ln [[109, 101, 116, 104, 111, 100], y]).length ≤ 140737488355328) :
    Calls Tryz.prog 112 #[.pointer (some ⟨g, 0, none⟩), .agg #[.int .i64 1, .string (bs n), .string (bs y)]] w (WrOut g B v (l ++ ln [[109, 101, 116, 104, 111, 100], y]) w) := by
  have hb1 := Below.alloc' (Below.self w) (.cells #[.int .i64 1, .string (bs n), .string (bs y)] 98)
  have hp0 := Held.made w [.int .i64 1, .string (bs n), .string (bs y)] 98
  obtain ⟨W, hW⟩ : ∃ W, w.alloc (.cells #[.int .i64 1, .string (bs n), .string (bs y)] 98) = W := ⟨_, rfl⟩
  rw [show w.alloc (.cells [.int .i64 1, .string (bs n), .string (bs y)].toArray 98) = W from hW] at hp0
  rw [hW] at hb1
  have HP := Stow.mk hp0
  have HB1 := Stow.mk hb1
  have HWR := Stow.mk (h.keep hb1)
  have HBB := Stow.mk hb
  have HX := Stow.mk hW
  have SF := Stow.mk (fun W' (hbw : Below W.heap.size W W') => (HP.out.kept hbw).cell (i := 0) rfl)
  have hkk := SF.out W (Below.self W)
  have hix : ∀ w : World, (Instr.index 182 (.agg #[.string ⟨#[]⟩, .string ⟨#[109, 101, 116, 104, 111, 100]⟩, .string ⟨#[104, 111, 115, 116]⟩, .string ⟨#[101, 120, 97, 99, 116]⟩, .string ⟨#[112, 114, 101, 102, 105, 120]⟩, .string ⟨#[104, 101, 97, 100]⟩, .string ⟨#[104, 97, 115]⟩]) (.int .i64 1)).run Tryz.prog w = .ok (.string (bs [109, 101, 116, 104, 111, 100])) w := fun w => by
    have hz := cells_strW
    simp [Instr.index, run_underlying Tryz.underlying182, asIntOf, part, hz, go_sem]
    rfl
  have k0 := SF.out W (Below.self W)
  clear hb1 hp0 h hb hW
  go_enter Tryz.func112, Tryz.ntmps112
  go_upto_region 1 with fail
  rw [HX.out]
  go_region_held3 (fun W' => W'.cell? ⟨w.heap.size, 0, none⟩ = some (.int .i64 1)) (first | go_keep | exact hkk)
    (first | (go_at_call 150; refine (cfWords_any _).mono ?_; rintro e w1 ⟨rfl, hb1⟩; have HBl := Stow.mk ((Below.drew (Below.self W)).trans hb1); have hkk := SF.out _ HBl.out; dsimp only [wordVals]))
  have HP1 := Stow.mk (HP.out.kept HBl.out)
  have HWR1 := Stow.mk (HWR.out.keep HBl.out)
  have HB2 := Stow.mk (HB1.out.trans (HBl.out.mono HB1.out.size))
  clear hkk k0 hb1 SF
  have p0 := HP1.out.cell (i := 0) rfl
  have p1 := HP1.out.cell (i := 1) rfl
  have p2 := HP1.out.cell (i := 2) rfl
  have hb3 := Below.alloc' (Below.self w1) (.cells #[.string (bs [109, 101, 116, 104, 111, 100]), .string (bs y)] 9)
  have hlit := World.ownsRow_lit (base := w1.heap.size) (e := 9) (size := 1) w1 #[.string (bs [109, 101, 116, 104, 111, 100]), .string (bs y)] 2 (Nat.le_refl _) (by unfold maxLen; omega) rfl
  have hsl := slr_own_text (X := [[109, 101, 116, 104, 111, 100], y]) (n := 2) (by simpa [sv] using hlit) rfl
  have HL := Stow.mk (cfLine_any (HWR1.out.keep hb3) (Nat.le_trans hB (Nat.le_trans HB2.out.size hb3.size)) [[109, 101, 116, 104, 111, 100], y] (some ⟨w1.heap.size, 0, none⟩) 2 hsl (by simp) HBB.out)
  have HB3 := Stow.mk (HB2.out.trans (hb3.mono HB2.out.size))
  clear hb3 hlit hsl
  go_wp2_with fail
  refine HL.out.mono ?_
  rintro e w3 ⟨rfl, v3, hw3, ht3⟩
  have H3 := Stow.mk hw3
  have HT3 : Stow (Turn (fun k => k = g ∨ v.ownBlock = some k) w w3) := ⟨(Turn.of_below HB3.out).trans ht3 (fun i hi => .inl hi)⟩
  clear hw3 ht3 p0 p1 p2
  go_wp2_with fail
  go_end0
  exact ⟨rfl, v3, H3.out, HT3.out⟩
set_option maxHeartbeats 2000000 in
set_option maxRecDepth 100000 in
theorem cfPred_2 {w : World} {g B : Nat} {v : Value} {l : List UInt8} (h : Wr w g B v l) (hB : B ≤ w.heap.size) (n y : List UInt8) (hb : l.length + (ln [[104, 111, 115, 116], y]).length ≤ 140737488355328) :
    Calls Tryz.prog 112 #[.pointer (some ⟨g, 0, none⟩), .agg #[.int .i64 2, .string (bs n), .string (bs y)]] w (WrOut g B v (l ++ ln [[104, 111, 115, 116], y]) w) := by
  have hb1 := Below.alloc' (Below.self w) (.cells #[.int .i64 2, .string (bs n), .string (bs y)] 98)
  have hp0 := Held.made w [.int .i64 2, .string (bs n), .string (bs y)] 98
  obtain ⟨W, hW⟩ : ∃ W, w.alloc (.cells #[.int .i64 2, .string (bs n), .string (bs y)] 98) = W := ⟨_, rfl⟩
  rw [show w.alloc (.cells [.int .i64 2, .string (bs n), .string (bs y)].toArray 98) = W from hW] at hp0
  rw [hW] at hb1
  have HP := Stow.mk hp0
  have HB1 := Stow.mk hb1
  have HWR := Stow.mk (h.keep hb1)
  have HBB := Stow.mk hb
  have HX := Stow.mk hW
  have SF := Stow.mk (fun W' (hbw : Below W.heap.size W W') => (HP.out.kept hbw).cell (i := 0) rfl)
  have hkk := SF.out W (Below.self W)
  have hix : ∀ w : World, (Instr.index 182 (.agg #[.string ⟨#[]⟩, .string ⟨#[109, 101, 116, 104, 111, 100]⟩, .string ⟨#[104, 111, 115, 116]⟩, .string ⟨#[101, 120, 97, 99, 116]⟩, .string ⟨#[112, 114, 101, 102, 105, 120]⟩, .string ⟨#[104, 101, 97, 100]⟩, .string ⟨#[104, 97, 115]⟩]) (.int .i64 2)).run Tryz.prog w = .ok (.string (bs [104, 111, 115, 116])) w := fun w => by
    have hz := cells_strW
    simp [Instr.index, run_underlying Tryz.underlying182, asIntOf, part, hz, go_sem]
    rfl
  have k0 := SF.out W (Below.self W)
  clear hb1 hp0 h hb hW
  go_enter Tryz.func112, Tryz.ntmps112
  go_upto_region 1 with fail
  rw [HX.out]
  go_region_held3 (fun W' => W'.cell? ⟨w.heap.size, 0, none⟩ = some (.int .i64 2)) (first | go_keep | exact hkk)
    (first | (go_at_call 150; refine (cfWords_any _).mono ?_; rintro e w1 ⟨rfl, hb1⟩; have HBl := Stow.mk ((Below.drew (Below.self W)).trans hb1); have hkk := SF.out _ HBl.out; dsimp only [wordVals]))
  have HP1 := Stow.mk (HP.out.kept HBl.out)
  have HWR1 := Stow.mk (HWR.out.keep HBl.out)
  have HB2 := Stow.mk (HB1.out.trans (HBl.out.mono HB1.out.size))
  clear hkk k0 hb1 SF
  have p0 := HP1.out.cell (i := 0) rfl
  have p1 := HP1.out.cell (i := 1) rfl
  have p2 := HP1.out.cell (i := 2) rfl
  have hb3 := Below.alloc' (Below.self w1) (.cells #[.string (bs [104, 111, 115, 116]), .string (bs y)] 9)
  have hlit := World.ownsRow_lit (base := w1.heap.size) (e := 9) (size := 1) w1 #[.string (bs [104, 111, 115, 116]), .string (bs y)] 2 (Nat.le_refl _) (by unfold maxLen; omega) rfl
  have hsl := slr_own_text (X := [[104, 111, 115, 116], y]) (n := 2) (by simpa [sv] using hlit) rfl
  have HL := Stow.mk (cfLine_any (HWR1.out.keep hb3) (Nat.le_trans hB (Nat.le_trans HB2.out.size hb3.size)) [[104, 111, 115, 116], y] (some ⟨w1.heap.size, 0, none⟩) 2 hsl (by simp) HBB.out)
  have HB3 := Stow.mk (HB2.out.trans (hb3.mono HB2.out.size))
  clear hb3 hlit hsl
  go_wp2_with fail
  refine HL.out.mono ?_
  rintro e w3 ⟨rfl, v3, hw3, ht3⟩
  have H3 := Stow.mk hw3
  have HT3 : Stow (Turn (fun k => k = g ∨ v.ownBlock = some k) w w3) := ⟨(Turn.of_below HB3.out).trans ht3 (fun i hi => .inl hi)⟩
  clear hw3 ht3 p0 p1 p2
  go_wp2_with fail
  go_end0
  exact ⟨rfl, v3, H3.out, HT3.out⟩
set_option maxHeartbeats 2000000 in
set_option maxRecDepth 100000 in
theorem cfPred_3 {w : World} {g B : Nat} {v : Value} {l : List UInt8} (h : Wr w g B v l) (hB : B ≤ w.heap.size) (n y : List UInt8) (hb : l.length + (ln [[101, 120, 97, 99, 116], y]).length ≤ 140737488355328) :
    Calls Tryz.prog 112 #[.pointer (some ⟨g, 0, none⟩), .agg #[.int .i64 3, .string (bs n), .string (bs y)]] w (WrOut g B v (l ++ ln [[101, 120, 97, 99, 116], y]) w) := by
  have hb1 := Below.alloc' (Below.self w) (.cells #[.int .i64 3, .string (bs n), .string (bs y)] 98)
  have hp0 := Held.made w [.int .i64 3, .string (bs n), .string (bs y)] 98
  obtain ⟨W, hW⟩ : ∃ W, w.alloc (.cells #[.int .i64 3, .string (bs n), .string (bs y)] 98) = W := ⟨_, rfl⟩
  rw [show w.alloc (.cells [.int .i64 3, .string (bs n), .string (bs y)].toArray 98) = W from hW] at hp0
  rw [hW] at hb1
  have HP := Stow.mk hp0
  have HB1 := Stow.mk hb1
  have HWR := Stow.mk (h.keep hb1)
  have HBB := Stow.mk hb
  have HX := Stow.mk hW
  have SF := Stow.mk (fun W' (hbw : Below W.heap.size W W') => (HP.out.kept hbw).cell (i := 0) rfl)
  have hkk := SF.out W (Below.self W)
  have hix : ∀ w : World, (Instr.index 182 (.agg #[.string ⟨#[]⟩, .string ⟨#[109, 101, 116, 104, 111, 100]⟩, .string ⟨#[104, 111, 115, 116]⟩, .string ⟨#[101, 120, 97, 99, 116]⟩, .string ⟨#[112, 114, 101, 102, 105, 120]⟩, .string ⟨#[104, 101, 97, 100]⟩, .string ⟨#[104, 97, 115]⟩]) (.int .i64 3)).run Tryz.prog w = .ok (.string (bs [101, 120, 97, 99, 116])) w := fun w => by
    have hz := cells_strW
    simp [Instr.index, run_underlying Tryz.underlying182, asIntOf, part, hz, go_sem]
    rfl
  have k0 := SF.out W (Below.self W)
  clear hb1 hp0 h hb hW
  go_enter Tryz.func112, Tryz.ntmps112
  go_upto_region 1 with fail
  rw [HX.out]
  go_region_held3 (fun W' => W'.cell? ⟨w.heap.size, 0, none⟩ = some (.int .i64 3)) (first | go_keep | exact hkk)
    (first | (go_at_call 150; refine (cfWords_any _).mono ?_; rintro e w1 ⟨rfl, hb1⟩; have HBl := Stow.mk ((Below.drew (Below.self W)).trans hb1); have hkk := SF.out _ HBl.out; dsimp only [wordVals]))
  have HP1 := Stow.mk (HP.out.kept HBl.out)
  have HWR1 := Stow.mk (HWR.out.keep HBl.out)
  have HB2 := Stow.mk (HB1.out.trans (HBl.out.mono HB1.out.size))
  clear hkk k0 hb1 SF
  have p0 := HP1.out.cell (i := 0) rfl
  have p1 := HP1.out.cell (i := 1) rfl
  have p2 := HP1.out.cell (i := 2) rfl
  have hb3 := Below.alloc' (Below.self w1) (.cells #[.string (bs [101, 120, 97, 99, 116]), .string (bs y)] 9)
  have hlit := World.ownsRow_lit (base := w1.heap.size) (e := 9) (size := 1) w1 #[.string (bs [101, 120, 97, 99, 116]), .string (bs y)] 2 (Nat.le_refl _) (by unfold maxLen; omega) rfl
  have hsl := slr_own_text (X := [[101, 120, 97, 99, 116], y]) (n := 2) (by simpa [sv] using hlit) rfl
  have HL := Stow.mk (cfLine_any (HWR1.out.keep hb3) (Nat.le_trans hB (Nat.le_trans HB2.out.size hb3.size)) [[101, 120, 97, 99, 116], y] (some ⟨w1.heap.size, 0, none⟩) 2 hsl (by simp) HBB.out)
  have HB3 := Stow.mk (HB2.out.trans (hb3.mono HB2.out.size))
  clear hb3 hlit hsl
  go_wp2_with fail
  refine HL.out.mono ?_
  rintro e w3 ⟨rfl, v3, hw3, ht3⟩
  have H3 := Stow.mk hw3
  have HT3 : Stow (Turn (fun k => k = g ∨ v.ownBlock = some k) w w3) := ⟨(Turn.of_below HB3.out).trans ht3 (fun i hi => .inl hi)⟩
  clear hw3 ht3 p0 p1 p2
  go_wp2_with fail
  go_end0
  exact ⟨rfl, v3, H3.out, HT3.out⟩
set_option maxHeartbeats 2000000 in
set_option maxRecDepth 100000 in
theorem cfPred_4 {w : World} {g B : Nat} {v : Value} {l : List UInt8} (h : Wr w g B v l) (hB : B ≤ w.heap.size) (n y : List UInt8) (hb : l.length + (ln [[112, 114, 101, 102, 105, 120], y]).length ≤ 140737488355328) :
    Calls Tryz.prog 112 #[.pointer (some ⟨g, 0, none⟩), .agg #[.int .i64 4, .string (bs n), .string (bs y)]] w (WrOut g B v (l ++ ln [[112, 114, 101, 102, 105, 120], y]) w) := by
  have hb1 := Below.alloc' (Below.self w) (.cells #[.int .i64 4, .string (bs n), .string (bs y)] 98)
  have hp0 := Held.made w [.int .i64 4, .string (bs n), .string (bs y)] 98
  obtain ⟨W, hW⟩ : ∃ W, w.alloc (.cells #[.int .i64 4, .string (bs n), .string (bs y)] 98) = W := ⟨_, rfl⟩
  rw [show w.alloc (.cells [.int .i64 4, .string (bs n), .string (bs y)].toArray 98) = W from hW] at hp0
  rw [hW] at hb1
  have HP := Stow.mk hp0
  have HB1 := Stow.mk hb1
  have HWR := Stow.mk (h.keep hb1)
  have HBB := Stow.mk hb
  have HX := Stow.mk hW
  have SF := Stow.mk (fun W' (hbw : Below W.heap.size W W') => (HP.out.kept hbw).cell (i := 0) rfl)
  have hkk := SF.out W (Below.self W)
  have hix : ∀ w : World, (Instr.index 182 (.agg #[.string ⟨#[]⟩, .string ⟨#[109, 101, 116, 104, 111, 100]⟩, .string ⟨#[104, 111, 115, 116]⟩, .string ⟨#[101, 120, 97, 99, 116]⟩, .string ⟨#[112, 114, 101, 102, 105, 120]⟩, .string ⟨#[104, 101, 97, 100]⟩, .string ⟨#[104, 97, 115]⟩]) (.int .i64 4)).run Tryz.prog w = .ok (.string (bs [112, 114, 101, 102, 105, 120])) w := fun w => by
    have hz := cells_strW
    simp [Instr.index, run_underlying Tryz.underlying182, asIntOf, part, hz, go_sem]
    rfl
  have k0 := SF.out W (Below.self W)
  clear hb1 hp0 h hb hW
  go_enter Tryz.func112, Tryz.ntmps112
  go_upto_region 1 with fail
  rw [HX.out]
  go_region_held3 (fun W' => W'.cell? ⟨w.heap.size, 0, none⟩ = some (.int .i64 4)) (first | go_keep | exact hkk)
    (first | (go_at_call 150; refine (cfWords_any _).mono ?_; rintro e w1 ⟨rfl, hb1⟩; have HBl := Stow.mk ((Below.drew (Below.self W)).trans hb1); have hkk := SF.out _ HBl.out; dsimp only [wordVals]))
  have HP1 := Stow.mk (HP.out.kept HBl.out)
  have HWR1 := Stow.mk (HWR.out.keep HBl.out)
  have HB2 := Stow.mk (HB1.out.trans (HBl.out.mono HB1.out.size))
  clear hkk k0 hb1 SF
  have p0 := HP1.out.cell (i := 0) rfl
  have p1 := HP1.out.cell (i := 1) rfl
  have p2 := HP1.out.cell (i := 2) rfl
  have hb3 := Below.alloc' (Below.self w1) (.cells #[.string (bs [112, 114, 101, 102, 105, 120]), .string (bs y)] 9)
  have hlit := World.ownsRow_lit (base := w1.heap.size) (e := 9) (size := 1) w1 #[.string (bs [112, 114, 101, 102, 105, 120]), .string (bs y)] 2 (Nat.le_refl _) (by unfold maxLen; omega) rfl
  have hsl := slr_own_text (X := [[112, 114, 101, 102, 105, 120], y]) (n := 2) (by simpa [sv] using hlit) rfl
  have HL := Stow.mk (cfLine_any (HWR1.out.keep hb3) (Nat.le_trans hB (Nat.le_trans HB2.out.size hb3.size)) [[112, 114, 101, 102, 105, 120], y] (some ⟨w1.heap.size, 0, none⟩) 2 hsl (by simp) HBB.out)
  have HB3 := Stow.mk (HB2.out.trans (hb3.mono HB2.out.size))
  clear hb3 hlit hsl
  go_wp2_with fail
  refine HL.out.mono ?_
  rintro e w3 ⟨rfl, v3, hw3, ht3⟩
  have H3 := Stow.mk hw3
  have HT3 : Stow (Turn (fun k => k = g ∨ v.ownBlock = some k) w w3) := ⟨(Turn.of_below HB3.out).trans ht3 (fun i hi => .inl hi)⟩
  clear hw3 ht3 p0 p1 p2
  go_wp2_with fail
  go_end0
  exact ⟨rfl, v3, H3.out, HT3.out⟩
set_option maxHeartbeats 2000000 in
set_option maxRecDepth 100000 in
theorem cfPred_5 {w : World} {g B : Nat} {v : Value} {l : List UInt8} (h : Wr w g B v l) (hB : B ≤ w.heap.size) (n y : List UInt8) (hb : l.length + (ln [[104, 101, 97, 100], n, y]).length ≤ 140737488355328) :
    Calls Tryz.prog 112 #[.pointer (some ⟨g, 0, none⟩), .agg #[.int .i64 5, .string (bs n), .string (bs y)]] w (WrOut g B v (l ++ ln [[104, 101, 97, 100], n, y]) w) := by
  have hb1 := Below.alloc' (Below.self w) (.cells #[.int .i64 5, .string (bs n), .string (bs y)] 98)
  have hp0 := Held.made w [.int .i64 5, .string (bs n), .string (bs y)] 98
  obtain ⟨W, hW⟩ : ∃ W, w.alloc (.cells #[.int .i64 5, .string (bs n), .string (bs y)] 98) = W := ⟨_, rfl⟩
  rw [show w.alloc (.cells [.int .i64 5, .string (bs n), .string (bs y)].toArray 98) = W from hW] at hp0
  rw [hW] at hb1
  have HP := Stow.mk hp0
  have HB1 := Stow.mk hb1
  have HWR := Stow.mk (h.keep hb1)
  have HBB := Stow.mk hb
  have HX := Stow.mk hW
  have SF := Stow.mk (fun W' (hbw : Below W.heap.size W W') => (HP.out.kept hbw).cell (i := 0) rfl)
  have hkk := SF.out W (Below.self W)
  have hix : ∀ w : World, (Instr.index 182 (.agg #[.string ⟨#[]⟩, .string ⟨#[109, 101, 116, 104, 111, 100]⟩, .string ⟨#[104, 111, 115, 116]⟩, .string ⟨#[101, 120, 97, 99, 116]⟩, .string ⟨#[112, 114, 101, 102, 105, 120]⟩, .string ⟨#[104, 101, 97, 100]⟩, .string ⟨#[104, 97, 115]⟩]) (.int .i64 5)).run Tryz.prog w = .ok (.string (bs [104, 101, 97, 100])) w := fun w => by
    have hz := cells_strW
    simp [Instr.index, run_underlying Tryz.underlying182, asIntOf, part, hz, go_sem]
    rfl
  have k0 := SF.out W (Below.self W)
  clear hb1 hp0 h hb hW
  go_enter Tryz.func112, Tryz.ntmps112
  go_upto_region 1 with fail
  rw [HX.out]
  go_region_held3 (fun W' => W'.cell? ⟨w.heap.size, 0, none⟩ = some (.int .i64 5)) (first | go_keep | exact hkk)
    (first | (go_at_call 150; refine (cfWords_any _).mono ?_; rintro e w1 ⟨rfl, hb1⟩; have HBl := Stow.mk ((Below.drew (Below.self W)).trans hb1); have hkk := SF.out _ HBl.out; dsimp only [wordVals]))
  have HP1 := Stow.mk (HP.out.kept HBl.out)
  have HWR1 := Stow.mk (HWR.out.keep HBl.out)
  have HB2 := Stow.mk (HB1.out.trans (HBl.out.mono HB1.out.size))
  clear hkk k0 hb1 SF
  have p0 := HP1.out.cell (i := 0) rfl
  have p1 := HP1.out.cell (i := 1) rfl
  have p2 := HP1.out.cell (i := 2) rfl
  have hb3 := Below.alloc' (Below.self w1) (.cells #[.string (bs [104, 101, 97, 100]), .string (bs n), .string (bs y)] 9)
  have hlit := World.ownsRow_lit (base := w1.heap.size) (e := 9) (size := 1) w1 #[.string (bs [104, 101, 97, 100]), .string (bs n), .string (bs y)] 3 (Nat.le_refl _) (by unfold maxLen; omega) rfl
  have hsl := slr_own_text (X := [[104, 101, 97, 100], n, y]) (n := 3) (by simpa [sv] using hlit) rfl
  have HL := Stow.mk (cfLine_any (HWR1.out.keep hb3) (Nat.le_trans hB (Nat.le_trans HB2.out.size hb3.size)) [[104, 101, 97, 100], n, y] (some ⟨w1.heap.size, 0, none⟩) 3 hsl (by simp) HBB.out)
  have HB3 := Stow.mk (HB2.out.trans (hb3.mono HB2.out.size))
  clear hb3 hlit hsl
  go_wp2_with fail
  refine HL.out.mono ?_
  rintro e w3 ⟨rfl, v3, hw3, ht3⟩
  have H3 := Stow.mk hw3
  have HT3 : Stow (Turn (fun k => k = g ∨ v.ownBlock = some k) w w3) := ⟨(Turn.of_below HB3.out).trans ht3 (fun i hi => .inl hi)⟩
  clear hw3 ht3 p0 p1 p2
  go_wp2_with fail
  go_end0
  exact ⟨rfl, v3, H3.out, HT3.out⟩
set_option maxHeartbeats 2000000 in
set_option maxRecDepth 100000 in
theorem cfPred_6 {w : World} {g B : Nat} {v : Value} {l : List UInt8} (h : Wr w g B v l) (hB : B ≤ w.heap.size) (n y : List UInt8) (hb : l.length + (ln [[104, 97, 115], n]).length ≤ 140737488355328) :
    Calls Tryz.prog 112 #[.pointer (some ⟨g, 0, none⟩), .agg #[.int .i64 6, .string (bs n), .string (bs y)]] w (WrOut g B v (l ++ ln [[104, 97, 115], n]) w) := by
  have hb1 := Below.alloc' (Below.self w) (.cells #[.int .i64 6, .string (bs n), .string (bs y)] 98)
  have hp0 := Held.made w [.int .i64 6, .string (bs n), .string (bs y)] 98
  obtain ⟨W, hW⟩ : ∃ W, w.alloc (.cells #[.int .i64 6, .string (bs n), .string (bs y)] 98) = W := ⟨_, rfl⟩
  rw [show w.alloc (.cells [.int .i64 6, .string (bs n), .string (bs y)].toArray 98) = W from hW] at hp0
  rw [hW] at hb1
  have HP := Stow.mk hp0
  have HB1 := Stow.mk hb1
  have HWR := Stow.mk (h.keep hb1)
  have HBB := Stow.mk hb
  have HX := Stow.mk hW
  have SF := Stow.mk (fun W' (hbw : Below W.heap.size W W') => (HP.out.kept hbw).cell (i := 0) rfl)
  have hkk := SF.out W (Below.self W)
  have hix : ∀ w : World, (Instr.index 182 (.agg #[.string ⟨#[]⟩, .string ⟨#[109, 101, 116, 104, 111, 100]⟩, .string ⟨#[104, 111, 115, 116]⟩, .string ⟨#[101, 120, 97, 99, 116]⟩, .string ⟨#[112, 114, 101, 102, 105, 120]⟩, .string ⟨#[104, 101, 97, 100]⟩, .string ⟨#[104, 97, 115]⟩]) (.int .i64 6)).run Tryz.prog w = .ok (.string (bs [104, 97, 115])) w := fun w => by
    have hz := cells_strW
    simp [Instr.index, run_underlying Tryz.underlying182, asIntOf, part, hz, go_sem]
    rfl
  have k0 := SF.out W (Below.self W)
  clear hb1 hp0 h hb hW
  go_enter Tryz.func112, Tryz.ntmps112
  go_upto_region 1 with fail
  rw [HX.out]
  go_region_held3 (fun W' => W'.cell? ⟨w.heap.size, 0, none⟩ = some (.int .i64 6)) (first | go_keep | exact hkk)
    (first | (go_at_call 150; refine (cfWords_any _).mono ?_; rintro e w1 ⟨rfl, hb1⟩; have HBl := Stow.mk ((Below.drew (Below.self W)).trans hb1); have hkk := SF.out _ HBl.out; dsimp only [wordVals]))
  have HP1 := Stow.mk (HP.out.kept HBl.out)
  have HWR1 := Stow.mk (HWR.out.keep HBl.out)
  have HB2 := Stow.mk (HB1.out.trans (HBl.out.mono HB1.out.size))
  clear hkk k0 hb1 SF
  have p0 := HP1.out.cell (i := 0) rfl
  have p1 := HP1.out.cell (i := 1) rfl
  have p2 := HP1.out.cell (i := 2) rfl
  have hb3 := Below.alloc' (Below.self w1) (.cells #[.string (bs [104, 97, 115]), .string (bs n)] 9)
  have hlit := World.ownsRow_lit (base := w1.heap.size) (e := 9) (size := 1) w1 #[.string (bs [104, 97, 115]), .string (bs n)] 2 (Nat.le_refl _) (by unfold maxLen; omega) rfl
  have hsl := slr_own_text (X := [[104, 97, 115], n]) (n := 2) (by simpa [sv] using hlit) rfl
  have HL := Stow.mk (cfLine_any (HWR1.out.keep hb3) (Nat.le_trans hB (Nat.le_trans HB2.out.size hb3.size)) [[104, 97, 115], n] (some ⟨w1.heap.size, 0, none⟩) 2 hsl (by simp) HBB.out)
  have HB3 := Stow.mk (HB2.out.trans (hb3.mono HB2.out.size))
  clear hb3 hlit hsl
  go_wp2_with fail
  refine HL.out.mono ?_
  rintro e w3 ⟨rfl, v3, hw3, ht3⟩
  have H3 := Stow.mk hw3
  have HT3 : Stow (Turn (fun k => k = g ∨ v.ownBlock = some k) w w3) := ⟨(Turn.of_below HB3.out).trans ht3 (fun i hi => .inl hi)⟩
  clear hw3 ht3 p0 p1 p2
  go_wp2_with fail
  go_end0
  exact ⟨rfl, v3, H3.out, HT3.out⟩
def Pd.words (p : Pd) : List (List UInt8) := if p.k = 6 then [Pd.word 6, p.n] else if p.k = 5 then [Pd.word 5, p.n, p.v] else [Pd.word p.k, p.v]
theorem cfPred_any {w : World} {g B : Nat} {v : Value} {l : List UInt8} (h : Wr w g B v l) (hB : B ≤ w.heap.size) (p : Pd) (hk : 1 ≤ p.k ∧ p.k ≤ 6) (hb : l.length + (ln p.words).length ≤ 140737488355328) :
    Calls Tryz.prog 112 #[.pointer (some ⟨g, 0, none⟩), .agg p.cells.toArray] w (WrOut g B v (l ++ ln p.words) w) := by
  obtain ⟨k, n, y⟩ := p
  simp only at hk
  obtain rfl | rfl | rfl | rfl | rfl | rfl : k = 1 ∨ k = 2 ∨ k = 3 ∨ k = 4 ∨ k = 5 ∨ k = 6 := by omega
  · exact cfPred_1 h hB n y hb
  · exact cfPred_2 h hB n y hb
  · exact cfPred_3 h hB n y hb
  · exact cfPred_4 h hB n y hb
  · exact cfPred_5 h hB n y hb
  · exact cfPred_6 h hB n y hb
end Go.Proofs.YtfbhdkkmcfnghaaGreatDoor
