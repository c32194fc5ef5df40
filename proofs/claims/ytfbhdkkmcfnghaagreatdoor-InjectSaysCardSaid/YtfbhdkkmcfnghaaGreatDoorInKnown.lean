/- Walk of the law's known. Condition: a variable of the library's holds an int. -/
import Derived.Test.YtfbhdkkmcfnghaaGreatDoorInState
import Derived.Test.YtfbhdkkmcfnghaaGreatDoorHdFew
import Derived.Deep.RegionHeld3
namespace Go.Proofs.YtfbhdkkmcfnghaaGreatDoor
open Go.RowKit
set_option linter.unusedVariables false

def kIL : List Hd := [([97], [49]), (In.ts, [120, 61, 121])]
def kIP : Pr := ⟨0, 1, 2, 1⟩
def kIW : List Hd := [([97], [49]), (In.ts, [109, 101, 115, 104, 61, 48, 48, 48, 48, 48, 48, 48, 48, 48, 48, 48, 48, 48, 48, 48, 50, 44, 120, 61, 121]), (In.tp, [48, 48, 45, 48, 48, 48, 48, 48, 48, 48, 48, 48, 48, 48, 48, 48, 48, 48, 48, 48, 48, 48, 48, 48, 48, 48, 48, 48, 48, 48, 48, 48, 48, 48, 49, 45, 48, 48, 48, 48, 48, 48, 48, 48, 48, 48, 48, 48, 48, 48, 48, 50, 45, 48, 49])]
theorem kI_put : In.put kIL kIP = kIW := by decide +kernel
theorem kI_err : In.prErr kIP = 0 := by decide +kernel
theorem kI_from : In.from_ kIW = (kIP, 0) := by
  have h := In.from_into kIL kI_err ⟨by decide, by decide, by decide⟩
  have e : In.into kIL kIP = kIW := by rw [← kI_put]; unfold In.put; rw [if_pos kI_err]
  rw [e] at h
  exact h
theorem kI_none : In.from_ [] = (In.zero, 9) := rfl
theorem kI_strip : In.strip kIW = [([97], [49])] := by decide +kernel

theorem heads_made (w : World) (L : List Hd) (cs : Array Value) (hcs : cs = (L.flatMap Hd.cells).toArray) (hm : L.length ≤ maxLen) : ORow (w.alloc (.cells cs 64)) w.heap.size (.slice (some ⟨w.heap.size, 0, none⟩) L.length L.length) L := by
  subst hcs
  exact ⟨hd_flat_len L, .inr ⟨w.heap.size, L.length, _, rfl, Nat.le_refl _, heap_alloc_new w _, Nat.le_refl _, hm, hd_flat_len L, List.take_of_length_le (Nat.le_of_eq (hd_flat_len L))⟩⟩

set_option maxHeartbeats 2000000 in
set_option maxRecDepth 100000 in
theorem known23_any (w : World) (hm : MaxIs w) : Calls Tryz.prog 9 #[] w fun e w' => e = .returned (.bool true) ∧ Below w.heap.size w w' := by
  have HM := Stow.mk hm
  clear hm
  obtain ⟨K, hK⟩ : ∃ K, kIW = K := ⟨_, rfl⟩
  have kput := kI_put
  have kfrom := kI_from
  have kstrip := kI_strip
  have hl3 : kIW.length = 3 := rfl
  have hval : ∀ m ∈ kIW, m.2.length ≤ 140737488355328 := by decide
  have hcs : kIW.flatMap Hd.cells = [.string ⟨#[97]⟩, .string ⟨#[49]⟩, .string ⟨#[116, 114, 97, 99, 101, 115, 116, 97, 116, 101]⟩, .string ⟨#[109, 101, 115, 104, 61, 48, 48, 48, 48, 48, 48, 48, 48, 48, 48, 48, 48, 48, 48, 48, 50, 44, 120, 61, 121]⟩, .string ⟨#[116, 114, 97, 99, 101, 112, 97, 114, 101, 110, 116]⟩, .string ⟨#[48, 48, 45, 48, 48, 48, 48, 48, 48, 48, 48, 48, 48, 48, 48, 48, 48, 48, 48, 48, 48, 48, 48, 48, 48, 48, 48, 48, 48, 48, 48, 48, 48, 48, 49, 45, 48, 48, 48, 48, 48, 48, 48, 48, 48, 48, 48, 48, 48, 48, 48, 50, 45, 48, 49]⟩] := rfl
  have htk : (kIW.map Hd.cells).take 1 = [([97], [49])].map Hd.cells := rfl
  rw [hK] at kput kfrom kstrip hl3 hval hcs htk
  have HCS := Stow.mk hcs
  have HTK := Stow.mk htk
  have KPUT := Stow.mk kput
  have KFROM := Stow.mk kfrom
  have KSTRIP := Stow.mk kstrip
  have HVAL := Stow.mk hval
  have HL3 := Stow.mk hl3
  clear hK hcs htk kput kfrom kstrip hval hl3
  go_enter Tryz.func9, Tryz.ntmps9
  go_wp2_with fail
  generalize hWe : World.alloc _ _ = W
  have hW : ORow W (w.heap.size + 1) (.slice (some ⟨w.heap.size + 1, 0, none⟩) 2 2) kIL ∧ Below w.heap.size w W ∧ Held W w.heap.size [.int .u64 0, .int .u64 1, .int .u64 2, .int .i64 1] := by
    subst hWe
    have e1 : (w.alloc (.cells #[.int .u64 0, .int .u64 1, .int .u64 2, .int .i64 1] 27)).heap.size = w.heap.size + 1 := by simp
    have h1 := heads_made (w.alloc (.cells #[.int .u64 0, .int .u64 1, .int .u64 2, .int .i64 1] 27)) kIL _ rfl (by unfold maxLen; decide)
    rw [e1] at h1
    exact ⟨h1, Below.alloc' (Below.alloc' (Below.self _) _) _, (Held.made w [.int .u64 0, .int .u64 1, .int .u64 2, .int .i64 1] _).kept (Below.alloc' (Below.self _) _)⟩
  obtain ⟨hO, hB, hP⟩ := hW
  have HB := Stow.mk hB
  have HP := Stow.mk hP
  have HS := Stow.mk hO.slr
  clear hO hB hP hWe
  refine (inInto_any kIL _ 2 kIP _ HS.out (by decide) (by decide) ⟨by decide, by decide, by decide⟩ (HM.out.keep HB.out)).mono ?_
  rw [KPUT.out, kI_err]
  rintro e w1 ⟨v1, rfl, hr1, hb1⟩
  obtain ⟨A1, c1, rfl⟩ := hr1.form
  have HB1 : Stow (Below w.heap.size w w1) := ⟨HB.out.trans (hb1.mono HB.out.size)⟩
  have HP1 := Stow.mk (HP.out.kept hb1)
  have HR1 := Stow.mk hr1.slr
  clear hb1 hr1
  go_wp2_with fail
  generalize hWe : World.alloc _ _ = W
  have hW : ORow W w1.heap.size (.slice (some ⟨w1.heap.size, 0, none⟩) 3 3) K ∧ Below w1.heap.size w1 W := by
    subst hWe
    exact ⟨by have := heads_made w1 K _ (congrArg List.toArray HCS.out).symm (by have := HL3.out; unfold maxLen; omega); rw [HL3.out] at this; exact this, Below.alloc' (Below.self _) _⟩
  obtain ⟨hO, hB⟩ := hW
  have HBW : Stow (Below w.heap.size w W) := ⟨HB1.out.trans (hB.mono HB1.out.size)⟩
  have HPW := Stow.mk (HP1.out.kept hB)
  have HRW := Stow.mk (HR1.out.keep hB)
  have HOW := Stow.mk hO.slr
  clear hO hB hWe
  refine (inFrom_any K A1 c1 _ HRW.out HVAL.out).mono ?_
  rw [KFROM.out]
  rintro e w2 ⟨rfl, hb2⟩
  have HB2 : Stow (Below w.heap.size w w2) := ⟨HBW.out.trans (hb2.mono HBW.out.size)⟩
  have HP2 := Stow.mk (HPW.out.kept hb2)
  have HR2 := Stow.mk (HRW.out.keep hb2)
  have HO2 := Stow.mk (HOW.out.keep hb2)
  clear hb2
  have HX := Stow.mk (Held.made w2 [.int .u64 0, .int .u64 1, .int .u64 2, .int .i64 1] 27)
  unfold Pr.val kIP
  go_wp2_with fail
  refine (inFrom_any [] none 0 _ (SlR.nil _ _) (by intro m hm; simp at hm)).mono ?_
  rw [kI_none]
  rintro e w3 ⟨rfl, hb3⟩
  have hb23 : Below w2.heap.size w2 w3 := Below.call (Below.alloc' (Below.self _) _) hb3
  have HB3 : Stow (Below w.heap.size w w3) := ⟨HB2.out.trans (hb23.mono HB2.out.size)⟩
  have HP3 := Stow.mk (HP2.out.kept hb23)
  have HR3 := Stow.mk (HR2.out.keep hb23)
  have HO3 := Stow.mk (HO2.out.keep hb23)
  have HX3 := Stow.mk (HX.out.kept hb3)
  clear hb23 hb3
  unfold Pr.val In.zero
  go_wp2_with fail
  generalize hWe : World.alloc _ _ = W4
  have hb34 : Below w3.heap.size w3 W4 := by subst hWe; exact Below.alloc' (Below.self _) _
  have HB4 : Stow (Below w.heap.size w W4) := ⟨HB3.out.trans (hb34.mono HB3.out.size)⟩
  have HP4 := Stow.mk (HP3.out.kept hb34)
  have HR4 := Stow.mk (HR3.out.keep hb34)
  have HO4 := Stow.mk (HO3.out.keep hb34)
  have HX4 := Stow.mk (HX3.out.kept hb34)
  have hc1 : K.length ≤ c1 := by
    obtain ⟨_, _, he, hcap, _⟩ := HR4.out.form
    simp only [Value.slice.injEq, List.length_map] at he hcap
    omega
  have hin : (0 : Int) ≤ 1 ∧ (1 : Int) ≤ c1 := by have := HL3.out; exact ⟨by omega, by omega⟩
  have HT4 : Stow (SlR W4 2 (.slice A1 1 c1) ([([97], [49])].map Hd.cells)) := ⟨by rw [← HTK.out]; exact (HR4.out).take 1 (by have := HL3.out; rw [List.length_map]; omega)⟩
  clear hb34 hWe hc1
  have SF : Stow (∀ W', Below W4.heap.size W4 W' → W'.cell? ⟨w.heap.size, 0, none⟩ = some (.int .u64 0) ∧ W'.cell? ⟨w.heap.size, 1, none⟩ = some (.int .u64 1) ∧ W'.cell? ⟨w.heap.size, 2, none⟩ = some (.int .u64 2) ∧ W'.cell? ⟨w.heap.size, 3, none⟩ = some (.int .i64 1) ∧ W'.cell? ⟨w2.heap.size, 0, none⟩ = some (.int .u64 0) ∧ W'.cell? ⟨w2.heap.size, 1, none⟩ = some (.int .u64 1) ∧ W'.cell? ⟨w2.heap.size, 2, none⟩ = some (.int .u64 2) ∧ W'.cell? ⟨w2.heap.size, 3, none⟩ = some (.int .i64 1)) := ⟨fun W' hb =>
    ⟨(HP4.out.kept hb).cell (i := 0) rfl, (HP4.out.kept hb).cell (i := 1) rfl, (HP4.out.kept hb).cell (i := 2) rfl, (HP4.out.kept hb).cell (i := 3) rfl, (HX4.out.kept hb).cell (i := 0) rfl, (HX4.out.kept hb).cell (i := 1) rfl, (HX4.out.kept hb).cell (i := 2) rfl, (HX4.out.kept hb).cell (i := 3) rfl⟩⟩
  obtain ⟨p0, p1, p2, p3, x0, x1, x2, x3⟩ := SF.out W4 (Below.self _)
  go_region_held3 (fun W' => W'.cell? ⟨w.heap.size, 0, none⟩ = some (.int .u64 0) ∧ W'.cell? ⟨w.heap.size, 1, none⟩ = some (.int .u64 1) ∧ W'.cell? ⟨w.heap.size, 2, none⟩ = some (.int .u64 2) ∧ W'.cell? ⟨w.heap.size, 3, none⟩ = some (.int .i64 1) ∧ W'.cell? ⟨w2.heap.size, 0, none⟩ = some (.int .u64 0) ∧ W'.cell? ⟨w2.heap.size, 1, none⟩ = some (.int .u64 1) ∧ W'.cell? ⟨w2.heap.size, 2, none⟩ = some (.int .u64 2) ∧ W'.cell? ⟨w2.heap.size, 3, none⟩ = some (.int .i64 1)) (first | go_keep | exact hk)
    (first
      | (go_at_call 14; refine (hdSame_any [([97], [49])] _ _ _ hr6.slr (HT4.out.keep hB6)).mono ?_; rintro e w7 ⟨rfl, hb7⟩; have hB7 : Below W4.heap.size W4 w7 := Below.trans hB6 (hb7.mono hB6.size); have hk := SF.out w7 hB7)
      | (go_at_call 15; refine (inStrip_any A1 c1 K _ (HR4.out.keep hB5) (by have := HL3.out; omega)).mono ?_; rw [KSTRIP.out]; rintro e w6 ⟨v6, rfl, hr6, hb6⟩; have hB6 : Below W4.heap.size W4 w6 := Below.trans hB5 (hb6.mono hB5.size); have hk := SF.out w6 hB6)
      | (go_at_call 14; refine (hdSame_any K _ _ _ HR4.out.drew HO4.out.drew).mono ?_; rintro e w5 ⟨rfl, hb5⟩; have hB5 : Below W4.heap.size W4 w5 := Below.call (Below.drew (Below.self W4)) hb5; have hk := SF.out w5 hB5))
  go_wp2_with fail
  go_ret
  exact ⟨rfl, HB4.out.trans (hB7.mono HB4.out.size)⟩
end Go.Proofs.YtfbhdkkmcfnghaaGreatDoor
