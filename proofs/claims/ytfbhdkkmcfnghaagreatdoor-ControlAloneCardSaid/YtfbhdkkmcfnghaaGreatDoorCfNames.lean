/- Walks of conf.printable, names. Conditions: texts' lengths. -/
import Derived.Test.YtfbhdkkmcfnghaaGreatDoorCfMem
namespace Go.Proofs.YtfbhdkkmcfnghaaGreatDoor
open Go.RowKit
set_option linter.unusedVariables false
set_option linter.unusedSimpArgs false

set_option maxHeartbeats 400000 in
set_option maxRecDepth 100000 in
theorem cfPrintable_any (l : List UInt8) (w : World) (hl : l.length ≤ 9223372036854775807) :
    Calls Tryz.prog 62 #[.string (bs l)] w fun e w' => e = .returned (.bool (Cf.fmtOk l)) ∧ w' = w := by
  go_enter Tryz.func62, Tryz.ntmps62
  go_wp2_with fail
  go_loop [3, 6] (fun _ v => ∃ i : Nat, v = .int .i64 (i : Int) ∧ i ≤ l.length ∧ Stow ((l.take i).all (fun b => decide (32 ≤ b.toNat) && decide (b.toNat ≤ 126)) = true)) (fun _ v => l.length - (intOf v).toNat)
  case atStart => exact ⟨0, rfl, by omega, ⟨rfl⟩⟩
  case round =>
    obtain ⟨i, rfl, hi', HA⟩ := hrel
    by_cases hlt : i < l.length
    · have hlb : i < (bs l).size := hlt
      obtain ⟨u, hu⟩ : ∃ u, (l[i]'hlb).toNat = u := ⟨_, rfl⟩
      have HU : Stow ((l[i]'hlt).toNat = u) := ⟨hu⟩
      by_cases h2 : 32 ≤ u
      all_goals by_cases h3 : u ≤ 126
      all_goals try (have d1 : decide (u < 32) = false := by simp; omega)
      all_goals try (have d1 : decide (u < 32) = true := by simp; omega)
      all_goals try (have d2 : decide (126 < u) = false := by simp; omega)
      all_goals try (have d2 : decide (126 < u) = true := by simp; omega)
      all_goals go_wp2_with fail
      all_goals first
        | exact ⟨⟨i + 1, rfl, by omega, ⟨all_take_succ hlt HA.out (each_byte HU.out (by omega) (by omega))⟩⟩, by simp [intOf]; omega⟩
        | (go_ret
           exact ⟨by unfold Cf.fmtOk Ms.eachB; rw [all_false_of hlt (each_byte_no HU.out (by omega))]; rfl, rfl⟩)
    · obtain rfl : i = l.length := by omega
      have HE : Stow (Cf.fmtOk l = decide (l.length ≤ 120)) := ⟨by
        have h := HA.out
        rw [List.take_length] at h
        unfold Cf.fmtOk Ms.eachB
        rw [h]
        simp⟩
      by_cases h120 : l.length ≤ 120
      · have h120i : (l.length : Int) ≤ 120 := by omega
        go_wp2_with fail
        go_ret
        exact ⟨by rw [HE.out]; simp [h120], rfl⟩
      · have h120i : ¬ (l.length : Int) ≤ 120 := by omega
        go_wp2_with fail
        go_ret
        exact ⟨by rw [HE.out]; simp [h120], rfl⟩
set_option maxHeartbeats 2000000 in
set_option maxRecDepth 100000 in
theorem cfNames_any (rank : Int) (A : Option Addr) (n cap : Nat) (tg : List UInt8) (ap st dp dt mp : Int) (mi : List UInt8) (sm : Int) (ps : List Pd) (w : World) (h1 : tg.length ≤ 140737488355328) (h2 : mi.length ≤ 140737488355328) :
    Calls Tryz.prog 117 #[.agg #[.int .i64 rank, .slice A n cap, .string (bs tg), .int .i64 ap, .int .i64 st, .int .i64 dp, .int .i64 dt, .int .i64 mp, .string (bs mi), .int .i64 sm]] w fun e w' => e = .returned (.bool (Cf.namesOk ⟨rank, ps, tg, ap, st, dp, dt, mp, mi, sm⟩)) ∧ Below w.heap.size w w' := by
  rcases mi with _ | ⟨c0, m0⟩
  · cases ht : nameOk tg with
    | false =>
      have HE : Stow (Cf.namesOk ⟨rank, ps, tg, ap, st, dp, dt, mp, [], sm⟩ = false) := ⟨by simp [Cf.namesOk, ht]⟩
      have hp0 := Held.made w [.int .i64 rank, .slice A n cap, .string (bs tg), .int .i64 ap, .int .i64 st, .int .i64 dp, .int .i64 dt, .int .i64 mp, .string (bs []), .int .i64 sm] 95
      have HB := Stow.mk (Below.alloc' (Below.self w) (.cells #[.int .i64 rank, .slice A n cap, .string (bs tg), .int .i64 ap, .int .i64 st, .int .i64 dp, .int .i64 dt, .int .i64 mp, .string (bs []), .int .i64 sm] 95))
      obtain ⟨W, hW⟩ : ∃ W, w.alloc (.cells #[.int .i64 rank, .slice A n cap, .string (bs tg), .int .i64 ap, .int .i64 st, .int .i64 dp, .int .i64 dt, .int .i64 mp, .string (bs []), .int .i64 sm] 95) = W := ⟨_, rfl⟩
      rw [show w.alloc (.cells [.int .i64 rank, .slice A n cap, .string (bs tg), .int .i64 ap, .int .i64 st, .int .i64 dp, .int .i64 dt, .int .i64 mp, .string (bs []), .int .i64 sm].toArray 95) = W from hW] at hp0
      rw [hW] at HB
      have HW := Stow.mk hW
      have HP := Stow.mk hp0
      clear hp0 hW
      go_enter Tryz.func117, Tryz.ntmps117
      go_upto_region 1 with fail
      rw [HW.out]
      clear HW
      have p0 := HP.out.cell (i := 0) rfl
      have p1 := HP.out.cell (i := 1) rfl
      have p2 := HP.out.cell (i := 2) rfl
      have p3 := HP.out.cell (i := 3) rfl
      have p4 := HP.out.cell (i := 4) rfl
      have p5 := HP.out.cell (i := 5) rfl
      have p6 := HP.out.cell (i := 6) rfl
      have p7 := HP.out.cell (i := 7) rfl
      have p8 := HP.out.cell (i := 8) rfl
      have p9 := HP.out.cell (i := 9) rfl
      have HN := Stow.mk (name_any tg W (by omega))
      rw [ht] at HN
      clear ht
      go_wp2_with fail
      refine HN.out.mono ?_
      rintro e w1 ⟨rfl, rfl⟩
      go_wp2_with fail
      go_ret
      exact ⟨by rw [HE.out]; rfl, HB.out⟩
    | true =>
      have HE : Stow (Cf.namesOk ⟨rank, ps, tg, ap, st, dp, dt, mp, [], sm⟩ = decide (mp = 0)) := ⟨by simp [Cf.namesOk, ht]⟩
      have hp0 := Held.made w [.int .i64 rank, .slice A n cap, .string (bs tg), .int .i64 ap, .int .i64 st, .int .i64 dp, .int .i64 dt, .int .i64 mp, .string (bs []), .int .i64 sm] 95
      have HB := Stow.mk (Below.alloc' (Below.self w) (.cells #[.int .i64 rank, .slice A n cap, .string (bs tg), .int .i64 ap, .int .i64 st, .int .i64 dp, .int .i64 dt, .int .i64 mp, .string (bs []), .int .i64 sm] 95))
      obtain ⟨W, hW⟩ : ∃ W, w.alloc (.cells #[.int .i64 rank, .slice A n cap, .string (bs tg), .int .i64 ap, .int .i64 st, .int .i64 dp, .int .i64 dt, .int .i64 mp, .string (bs []), .int .i64 sm] 95) = W := ⟨_, rfl⟩
      rw [show w.alloc (.cells [.int .i64 rank, .slice A n cap, .string (bs tg), .int .i64 ap, .int .i64 st, .int .i64 dp, .int .i64 dt, .int .i64 mp, .string (bs []), .int .i64 sm].toArray 95) = W from hW] at hp0
      rw [hW] at HB
      have HW := Stow.mk hW
      have HP := Stow.mk hp0
      clear hp0 hW
      go_enter Tryz.func117, Tryz.ntmps117
      go_upto_region 1 with fail
      rw [HW.out]
      clear HW
      have p0 := HP.out.cell (i := 0) rfl
      have p1 := HP.out.cell (i := 1) rfl
      have p2 := HP.out.cell (i := 2) rfl
      have p3 := HP.out.cell (i := 3) rfl
      have p4 := HP.out.cell (i := 4) rfl
      have p5 := HP.out.cell (i := 5) rfl
      have p6 := HP.out.cell (i := 6) rfl
      have p7 := HP.out.cell (i := 7) rfl
      have p8 := HP.out.cell (i := 8) rfl
      have p9 := HP.out.cell (i := 9) rfl
      have HN := Stow.mk (name_any tg W (by omega))
      rw [ht] at HN
      clear ht
      go_wp2_with fail
      refine HN.out.mono ?_
      rintro e w1 ⟨rfl, rfl⟩
      go_wp2_with fail
      go_ret
      refine ⟨?_, HB.out⟩
      rw [HE.out]
      rfl
  · cases ht : nameOk tg with
    | false =>
      have HE : Stow (Cf.namesOk ⟨rank, ps, tg, ap, st, dp, dt, mp, c0 :: m0, sm⟩ = false) := ⟨by simp [Cf.namesOk, ht]⟩
      have hp0 := Held.made w [.int .i64 rank, .slice A n cap, .string (bs tg), .int .i64 ap, .int .i64 st, .int .i64 dp, .int .i64 dt, .int .i64 mp, .string (bs (c0 :: m0)), .int .i64 sm] 95
      have HB := Stow.mk (Below.alloc' (Below.self w) (.cells #[.int .i64 rank, .slice A n cap, .string (bs tg), .int .i64 ap, .int .i64 st, .int .i64 dp, .int .i64 dt, .int .i64 mp, .string (bs (c0 :: m0)), .int .i64 sm] 95))
      obtain ⟨W, hW⟩ : ∃ W, w.alloc (.cells #[.int .i64 rank, .slice A n cap, .string (bs tg), .int .i64 ap, .int .i64 st, .int .i64 dp, .int .i64 dt, .int .i64 mp, .string (bs (c0 :: m0)), .int .i64 sm] 95) = W := ⟨_, rfl⟩
      rw [show w.alloc (.cells [.int .i64 rank, .slice A n cap, .string (bs tg), .int .i64 ap, .int .i64 st, .int .i64 dp, .int .i64 dt, .int .i64 mp, .string (bs (c0 :: m0)), .int .i64 sm].toArray 95) = W from hW] at hp0
      rw [hW] at HB
      have HW := Stow.mk hW
      have HP := Stow.mk hp0
      clear hp0 hW
      go_enter Tryz.func117, Tryz.ntmps117
      go_upto_region 1 with fail
      rw [HW.out]
      clear HW
      have p0 := HP.out.cell (i := 0) rfl
      have p1 := HP.out.cell (i := 1) rfl
      have p2 := HP.out.cell (i := 2) rfl
      have p3 := HP.out.cell (i := 3) rfl
      have p4 := HP.out.cell (i := 4) rfl
      have p5 := HP.out.cell (i := 5) rfl
      have p6 := HP.out.cell (i := 6) rfl
      have p7 := HP.out.cell (i := 7) rfl
      have p8 := HP.out.cell (i := 8) rfl
      have p9 := HP.out.cell (i := 9) rfl
      have HN := Stow.mk (name_any tg W (by omega))
      rw [ht] at HN
      clear ht
      go_wp2_with fail
      refine HN.out.mono ?_
      rintro e w1 ⟨rfl, rfl⟩
      go_wp2_with fail
      go_ret
      exact ⟨by rw [HE.out]; rfl, HB.out⟩
    | true =>
      have HE : Stow (Cf.namesOk ⟨rank, ps, tg, ap, st, dp, dt, mp, c0 :: m0, sm⟩ = nameOk (c0 :: m0)) := ⟨by simp [Cf.namesOk, ht]⟩
      have hp0 := Held.made w [.int .i64 rank, .slice A n cap, .string (bs tg), .int .i64 ap, .int .i64 st, .int .i64 dp, .int .i64 dt, .int .i64 mp, .string (bs (c0 :: m0)), .int .i64 sm] 95
      have HB := Stow.mk (Below.alloc' (Below.self w) (.cells #[.int .i64 rank, .slice A n cap, .string (bs tg), .int .i64 ap, .int .i64 st, .int .i64 dp, .int .i64 dt, .int .i64 mp, .string (bs (c0 :: m0)), .int .i64 sm] 95))
      obtain ⟨W, hW⟩ : ∃ W, w.alloc (.cells #[.int .i64 rank, .slice A n cap, .string (bs tg), .int .i64 ap, .int .i64 st, .int .i64 dp, .int .i64 dt, .int .i64 mp, .string (bs (c0 :: m0)), .int .i64 sm] 95) = W := ⟨_, rfl⟩
      rw [show w.alloc (.cells [.int .i64 rank, .slice A n cap, .string (bs tg), .int .i64 ap, .int .i64 st, .int .i64 dp, .int .i64 dt, .int .i64 mp, .string (bs (c0 :: m0)), .int .i64 sm].toArray 95) = W from hW] at hp0
      rw [hW] at HB
      have HW := Stow.mk hW
      have HP := Stow.mk hp0
      clear hp0 hW
      go_enter Tryz.func117, Tryz.ntmps117
      go_upto_region 1 with fail
      rw [HW.out]
      clear HW
      have p0 := HP.out.cell (i := 0) rfl
      have p1 := HP.out.cell (i := 1) rfl
      have p2 := HP.out.cell (i := 2) rfl
      have p3 := HP.out.cell (i := 3) rfl
      have p4 := HP.out.cell (i := 4) rfl
      have p5 := HP.out.cell (i := 5) rfl
      have p6 := HP.out.cell (i := 6) rfl
      have p7 := HP.out.cell (i := 7) rfl
      have p8 := HP.out.cell (i := 8) rfl
      have p9 := HP.out.cell (i := 9) rfl
      have HN := Stow.mk (name_any tg W (by omega))
      have HN2 := Stow.mk (name_any (c0 :: m0) W (by omega))
      rw [ht] at HN
      clear ht
      go_wp2_with fail
      refine HN.out.mono ?_
      rintro e w1 ⟨rfl, rfl⟩
      go_wp2_with fail
      refine HN2.out.mono ?_
      rintro e w2 ⟨rfl, rfl⟩
      go_wp2_with fail
      go_ret
      refine ⟨?_, HB.out⟩
      rw [HE.out]
      rfl
end Go.Proofs.YtfbhdkkmcfnghaaGreatDoor
