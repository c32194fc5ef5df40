/- Walk of the reference's Check of a predicate. Condition: the texts' lengths. -/
import Derived.Test.YtfbhdkkmcfnghaaGreatDoorPdErr
namespace Go.Proofs.YtfbhdkkmcfnghaaGreatDoor
open Go.RowKit
set_option linter.unusedVariables false
set_option linter.unusedSimpArgs false

set_option maxHeartbeats 2000000 in
set_option maxRecDepth 100000 in
theorem refPd_1 (n v : List UInt8) (w : World) (hn : n.length ≤ 140737488355328) (hv : v.length ≤ 140737488355328) : Calls Tryz.prog 118 #[.agg #[.int .i64 1, .string (bs n), .string (bs v)]] w fun e w' => e = .returned (.int .i64 ((Pd.mk 1 n v).err : Nat)) ∧ Below w.heap.size w w' := by
  rcases n with _ | ⟨c0, n0⟩
  · cases hne : Ms.methodOk v with
    | false =>
      have HER : Stow ((Pd.mk 1 [] v).err = 3) := ⟨by simp [Pd.err, Pd.named, Pd.valued, Pd.chk, hne]⟩
      have hp0 := Held.made w [.int .i64 1, .string (bs []), .string (bs v)] 98
      have HB := Stow.mk (Below.alloc' (Below.self w) (.cells #[.int .i64 1, .string (bs []), .string (bs v)] 98))
      obtain ⟨W, hW⟩ : ∃ W, w.alloc (.cells #[.int .i64 1, .string (bs []), .string (bs v)] 98) = W := ⟨_, rfl⟩
      rw [show w.alloc (.cells [.int .i64 1, .string (bs []), .string (bs v)].toArray 98) = W from hW] at hp0
      rw [hW] at HB
      have HW := Stow.mk hW
      have p0 := hp0.cell (i := 0) rfl
      have p1 := hp0.cell (i := 1) rfl
      have p2 := hp0.cell (i := 2) rfl
      clear hp0 hW
      go_enter Tryz.func118, Tryz.ntmps118
      go_upto_region 1 with fail
      rw [HW.out]
      clear HW
      have HNM := Stow.mk (refMethod_any v W (by omega))
      rw [hne] at HNM
      clear hne
      go_wp2_with fail
      refine HNM.out.mono ?_
      rintro e w3 ⟨rfl, rfl⟩
      go_wp2_with fail
      go_ret
      exact ⟨by rw [HER.out]; rfl, HB.out⟩
    | true =>
      have HER : Stow ((Pd.mk 1 [] v).err = 0) := ⟨by simp [Pd.err, Pd.named, Pd.valued, Pd.chk, hne]⟩
      have hp0 := Held.made w [.int .i64 1, .string (bs []), .string (bs v)] 98
      have HB := Stow.mk (Below.alloc' (Below.self w) (.cells #[.int .i64 1, .string (bs []), .string (bs v)] 98))
      obtain ⟨W, hW⟩ : ∃ W, w.alloc (.cells #[.int .i64 1, .string (bs []), .string (bs v)] 98) = W := ⟨_, rfl⟩
      rw [show w.alloc (.cells [.int .i64 1, .string (bs []), .string (bs v)].toArray 98) = W from hW] at hp0
      rw [hW] at HB
      have HW := Stow.mk hW
      have p0 := hp0.cell (i := 0) rfl
      have p1 := hp0.cell (i := 1) rfl
      have p2 := hp0.cell (i := 2) rfl
      clear hp0 hW
      go_enter Tryz.func118, Tryz.ntmps118
      go_upto_region 1 with fail
      rw [HW.out]
      clear HW
      have HNM := Stow.mk (refMethod_any v W (by omega))
      rw [hne] at HNM
      clear hne
      go_wp2_with fail
      refine HNM.out.mono ?_
      rintro e w3 ⟨rfl, rfl⟩
      go_wp2_with fail
      go_ret
      exact ⟨by rw [HER.out]; rfl, HB.out⟩
  · have HER : Stow ((Pd.mk 1 (c0 :: n0) v).err = 2) := ⟨by simp [Pd.err, Pd.named]⟩
    have hp0 := Held.made w [.int .i64 1, .string (bs (c0 :: n0)), .string (bs v)] 98
    have HB := Stow.mk (Below.alloc' (Below.self w) (.cells #[.int .i64 1, .string (bs (c0 :: n0)), .string (bs v)] 98))
    obtain ⟨W, hW⟩ : ∃ W, w.alloc (.cells #[.int .i64 1, .string (bs (c0 :: n0)), .string (bs v)] 98) = W := ⟨_, rfl⟩
    rw [show w.alloc (.cells [.int .i64 1, .string (bs (c0 :: n0)), .string (bs v)].toArray 98) = W from hW] at hp0
    rw [hW] at HB
    have HW := Stow.mk hW
    have p0 := hp0.cell (i := 0) rfl
    have p1 := hp0.cell (i := 1) rfl
    have p2 := hp0.cell (i := 2) rfl
    clear hp0 hW
    go_enter Tryz.func118, Tryz.ntmps118
    go_upto_region 1 with fail
    rw [HW.out]
    clear HW
    go_wp2_with fail
    go_ret
    exact ⟨by rw [HER.out]; rfl, HB.out⟩
set_option maxHeartbeats 2000000 in
set_option maxRecDepth 100000 in
theorem refPd_2 (n v : List UInt8) (w : World) (hn : n.length ≤ 140737488355328) (hv : v.length ≤ 140737488355328) : Calls Tryz.prog 118 #[.agg #[.int .i64 2, .string (bs n), .string (bs v)]] w fun e w' => e = .returned (.int .i64 ((Pd.mk 2 n v).err : Nat)) ∧ Below w.heap.size w w' := by
  rcases n with _ | ⟨c0, n0⟩
  · cases hne : nameOk v with
    | false =>
      have HER : Stow ((Pd.mk 2 [] v).err = 7) := ⟨by simp [Pd.err, Pd.named, Pd.valued, Pd.chk, hne]⟩
      have hp0 := Held.made w [.int .i64 2, .string (bs []), .string (bs v)] 98
      have HB := Stow.mk (Below.alloc' (Below.self w) (.cells #[.int .i64 2, .string (bs []), .string (bs v)] 98))
      obtain ⟨W, hW⟩ : ∃ W, w.alloc (.cells #[.int .i64 2, .string (bs []), .string (bs v)] 98) = W := ⟨_, rfl⟩
      rw [show w.alloc (.cells [.int .i64 2, .string (bs []), .string (bs v)].toArray 98) = W from hW] at hp0
      rw [hW] at HB
      have HW := Stow.mk hW
      have p0 := hp0.cell (i := 0) rfl
      have p1 := hp0.cell (i := 1) rfl
      have p2 := hp0.cell (i := 2) rfl
      clear hp0 hW
      go_enter Tryz.func118, Tryz.ntmps118
      go_upto_region 1 with fail
      rw [HW.out]
      clear HW
      have HNM := Stow.mk (refName_any v W (by omega))
      rw [hne] at HNM
      clear hne
      go_wp2_with fail
      refine HNM.out.mono ?_
      rintro e w3 ⟨rfl, rfl⟩
      go_wp2_with fail
      go_ret
      exact ⟨by rw [HER.out]; rfl, HB.out⟩
    | true =>
      have HER : Stow ((Pd.mk 2 [] v).err = 0) := ⟨by simp [Pd.err, Pd.named, Pd.valued, Pd.chk, hne]⟩
      have hp0 := Held.made w [.int .i64 2, .string (bs []), .string (bs v)] 98
      have HB := Stow.mk (Below.alloc' (Below.self w) (.cells #[.int .i64 2, .string (bs []), .string (bs v)] 98))
      obtain ⟨W, hW⟩ : ∃ W, w.alloc (.cells #[.int .i64 2, .string (bs []), .string (bs v)] 98) = W := ⟨_, rfl⟩
      rw [show w.alloc (.cells [.int .i64 2, .string (bs []), .string (bs v)].toArray 98) = W from hW] at hp0
      rw [hW] at HB
      have HW := Stow.mk hW
      have p0 := hp0.cell (i := 0) rfl
      have p1 := hp0.cell (i := 1) rfl
      have p2 := hp0.cell (i := 2) rfl
      clear hp0 hW
      go_enter Tryz.func118, Tryz.ntmps118
      go_upto_region 1 with fail
      rw [HW.out]
      clear HW
      have HNM := Stow.mk (refName_any v W (by omega))
      rw [hne] at HNM
      clear hne
      go_wp2_with fail
      refine HNM.out.mono ?_
      rintro e w3 ⟨rfl, rfl⟩
      go_wp2_with fail
      go_ret
      exact ⟨by rw [HER.out]; rfl, HB.out⟩
  · have HER : Stow ((Pd.mk 2 (c0 :: n0) v).err = 2) := ⟨by simp [Pd.err, Pd.named]⟩
    have hp0 := Held.made w [.int .i64 2, .string (bs (c0 :: n0)), .string (bs v)] 98
    have HB := Stow.mk (Below.alloc' (Below.self w) (.cells #[.int .i64 2, .string (bs (c0 :: n0)), .string (bs v)] 98))
    obtain ⟨W, hW⟩ : ∃ W, w.alloc (.cells #[.int .i64 2, .string (bs (c0 :: n0)), .string (bs v)] 98) = W := ⟨_, rfl⟩
    rw [show w.alloc (.cells [.int .i64 2, .string (bs (c0 :: n0)), .string (bs v)].toArray 98) = W from hW] at hp0
    rw [hW] at HB
    have HW := Stow.mk hW
    have p0 := hp0.cell (i := 0) rfl
    have p1 := hp0.cell (i := 1) rfl
    have p2 := hp0.cell (i := 2) rfl
    clear hp0 hW
    go_enter Tryz.func118, Tryz.ntmps118
    go_upto_region 1 with fail
    rw [HW.out]
    clear HW
    go_wp2_with fail
    go_ret
    exact ⟨by rw [HER.out]; rfl, HB.out⟩
set_option maxHeartbeats 2000000 in
set_option maxRecDepth 100000 in
theorem refPd_3 (n v : List UInt8) (w : World) (hn : n.length ≤ 140737488355328) (hv : v.length ≤ 140737488355328) : Calls Tryz.prog 118 #[.agg #[.int .i64 3, .string (bs n), .string (bs v)]] w fun e w' => e = .returned (.int .i64 ((Pd.mk 3 n v).err : Nat)) ∧ Below w.heap.size w w' := by
  rcases n with _ | ⟨c0, n0⟩
  · cases hne : Ms.pathOk v with
    | false =>
      have HER : Stow ((Pd.mk 3 [] v).err = 12) := ⟨by simp [Pd.err, Pd.named, Pd.valued, Pd.chk, hne]⟩
      have hp0 := Held.made w [.int .i64 3, .string (bs []), .string (bs v)] 98
      have HB := Stow.mk (Below.alloc' (Below.self w) (.cells #[.int .i64 3, .string (bs []), .string (bs v)] 98))
      obtain ⟨W, hW⟩ : ∃ W, w.alloc (.cells #[.int .i64 3, .string (bs []), .string (bs v)] 98) = W := ⟨_, rfl⟩
      rw [show w.alloc (.cells [.int .i64 3, .string (bs []), .string (bs v)].toArray 98) = W from hW] at hp0
      rw [hW] at HB
      have HW := Stow.mk hW
      have p0 := hp0.cell (i := 0) rfl
      have p1 := hp0.cell (i := 1) rfl
      have p2 := hp0.cell (i := 2) rfl
      clear hp0 hW
      go_enter Tryz.func118, Tryz.ntmps118
      go_upto_region 1 with fail
      rw [HW.out]
      clear HW
      have HNM := Stow.mk (refPath_any v W (by omega))
      rw [hne] at HNM
      clear hne
      go_wp2_with fail
      refine HNM.out.mono ?_
      rintro e w3 ⟨rfl, rfl⟩
      go_wp2_with fail
      go_ret
      exact ⟨by rw [HER.out]; rfl, HB.out⟩
    | true =>
      have HER : Stow ((Pd.mk 3 [] v).err = 0) := ⟨by simp [Pd.err, Pd.named, Pd.valued, Pd.chk, hne]⟩
      have hp0 := Held.made w [.int .i64 3, .string (bs []), .string (bs v)] 98
      have HB := Stow.mk (Below.alloc' (Below.self w) (.cells #[.int .i64 3, .string (bs []), .string (bs v)] 98))
      obtain ⟨W, hW⟩ : ∃ W, w.alloc (.cells #[.int .i64 3, .string (bs []), .string (bs v)] 98) = W := ⟨_, rfl⟩
      rw [show w.alloc (.cells [.int .i64 3, .string (bs []), .string (bs v)].toArray 98) = W from hW] at hp0
      rw [hW] at HB
      have HW := Stow.mk hW
      have p0 := hp0.cell (i := 0) rfl
      have p1 := hp0.cell (i := 1) rfl
      have p2 := hp0.cell (i := 2) rfl
      clear hp0 hW
      go_enter Tryz.func118, Tryz.ntmps118
      go_upto_region 1 with fail
      rw [HW.out]
      clear HW
      have HNM := Stow.mk (refPath_any v W (by omega))
      rw [hne] at HNM
      clear hne
      go_wp2_with fail
      refine HNM.out.mono ?_
      rintro e w3 ⟨rfl, rfl⟩
      go_wp2_with fail
      go_ret
      exact ⟨by rw [HER.out]; rfl, HB.out⟩
  · have HER : Stow ((Pd.mk 3 (c0 :: n0) v).err = 2) := ⟨by simp [Pd.err, Pd.named]⟩
    have hp0 := Held.made w [.int .i64 3, .string (bs (c0 :: n0)), .string (bs v)] 98
    have HB := Stow.mk (Below.alloc' (Below.self w) (.cells #[.int .i64 3, .string (bs (c0 :: n0)), .string (bs v)] 98))
    obtain ⟨W, hW⟩ : ∃ W, w.alloc (.cells #[.int .i64 3, .string (bs (c0 :: n0)), .string (bs v)] 98) = W := ⟨_, rfl⟩
    rw [show w.alloc (.cells [.int .i64 3, .string (bs (c0 :: n0)), .string (bs v)].toArray 98) = W from hW] at hp0
    rw [hW] at HB
    have HW := Stow.mk hW
    have p0 := hp0.cell (i := 0) rfl
    have p1 := hp0.cell (i := 1) rfl
    have p2 := hp0.cell (i := 2) rfl
    clear hp0 hW
    go_enter Tryz.func118, Tryz.ntmps118
    go_upto_region 1 with fail
    rw [HW.out]
    clear HW
    go_wp2_with fail
    go_ret
    exact ⟨by rw [HER.out]; rfl, HB.out⟩
set_option maxHeartbeats 2000000 in
set_option maxRecDepth 100000 in
theorem refPd_4 (n v : List UInt8) (w : World) (hn : n.length ≤ 140737488355328) (hv : v.length ≤ 140737488355328) : Calls Tryz.prog 118 #[.agg #[.int .i64 4, .string (bs n), .string (bs v)]] w fun e w' => e = .returned (.int .i64 ((Pd.mk 4 n v).err : Nat)) ∧ Below w.heap.size w w' := by
  rcases n with _ | ⟨c0, n0⟩
  · cases hne : Ms.pathOk v with
    | false =>
      have HER : Stow ((Pd.mk 4 [] v).err = 12) := ⟨by simp [Pd.err, Pd.named, Pd.valued, Pd.chk, hne]⟩
      have hp0 := Held.made w [.int .i64 4, .string (bs []), .string (bs v)] 98
      have HB := Stow.mk (Below.alloc' (Below.self w) (.cells #[.int .i64 4, .string (bs []), .string (bs v)] 98))
      obtain ⟨W, hW⟩ : ∃ W, w.alloc (.cells #[.int .i64 4, .string (bs []), .string (bs v)] 98) = W := ⟨_, rfl⟩
      rw [show w.alloc (.cells [.int .i64 4, .string (bs []), .string (bs v)].toArray 98) = W from hW] at hp0
      rw [hW] at HB
      have HW := Stow.mk hW
      have p0 := hp0.cell (i := 0) rfl
      have p1 := hp0.cell (i := 1) rfl
      have p2 := hp0.cell (i := 2) rfl
      clear hp0 hW
      go_enter Tryz.func118, Tryz.ntmps118
      go_upto_region 1 with fail
      rw [HW.out]
      clear HW
      have HNM := Stow.mk (refPath_any v W (by omega))
      rw [hne] at HNM
      clear hne
      go_wp2_with fail
      refine HNM.out.mono ?_
      rintro e w3 ⟨rfl, rfl⟩
      go_wp2_with fail
      go_ret
      exact ⟨by rw [HER.out]; rfl, HB.out⟩
    | true =>
      have HER : Stow ((Pd.mk 4 [] v).err = 0) := ⟨by simp [Pd.err, Pd.named, Pd.valued, Pd.chk, hne]⟩
      have hp0 := Held.made w [.int .i64 4, .string (bs []), .string (bs v)] 98
      have HB := Stow.mk (Below.alloc' (Below.self w) (.cells #[.int .i64 4, .string (bs []), .string (bs v)] 98))
      obtain ⟨W, hW⟩ : ∃ W, w.alloc (.cells #[.int .i64 4, .string (bs []), .string (bs v)] 98) = W := ⟨_, rfl⟩
      rw [show w.alloc (.cells [.int .i64 4, .string (bs []), .string (bs v)].toArray 98) = W from hW] at hp0
      rw [hW] at HB
      have HW := Stow.mk hW
      have p0 := hp0.cell (i := 0) rfl
      have p1 := hp0.cell (i := 1) rfl
      have p2 := hp0.cell (i := 2) rfl
      clear hp0 hW
      go_enter Tryz.func118, Tryz.ntmps118
      go_upto_region 1 with fail
      rw [HW.out]
      clear HW
      have HNM := Stow.mk (refPath_any v W (by omega))
      rw [hne] at HNM
      clear hne
      go_wp2_with fail
      refine HNM.out.mono ?_
      rintro e w3 ⟨rfl, rfl⟩
      go_wp2_with fail
      go_ret
      exact ⟨by rw [HER.out]; rfl, HB.out⟩
  · have HER : Stow ((Pd.mk 4 (c0 :: n0) v).err = 2) := ⟨by simp [Pd.err, Pd.named]⟩
    have hp0 := Held.made w [.int .i64 4, .string (bs (c0 :: n0)), .string (bs v)] 98
    have HB := Stow.mk (Below.alloc' (Below.self w) (.cells #[.int .i64 4, .string (bs (c0 :: n0)), .string (bs v)] 98))
    obtain ⟨W, hW⟩ : ∃ W, w.alloc (.cells #[.int .i64 4, .string (bs (c0 :: n0)), .string (bs v)] 98) = W := ⟨_, rfl⟩
    rw [show w.alloc (.cells [.int .i64 4, .string (bs (c0 :: n0)), .string (bs v)].toArray 98) = W from hW] at hp0
    rw [hW] at HB
    have HW := Stow.mk hW
    have p0 := hp0.cell (i := 0) rfl
    have p1 := hp0.cell (i := 1) rfl
    have p2 := hp0.cell (i := 2) rfl
    clear hp0 hW
    go_enter Tryz.func118, Tryz.ntmps118
    go_upto_region 1 with fail
    rw [HW.out]
    clear HW
    go_wp2_with fail
    go_ret
    exact ⟨by rw [HER.out]; rfl, HB.out⟩
set_option maxHeartbeats 2000000 in
set_option maxRecDepth 100000 in
theorem refPd_5 (n v : List UInt8) (w : World) (hn : n.length ≤ 140737488355328) (hv : v.length ≤ 140737488355328) : Calls Tryz.prog 118 #[.agg #[.int .i64 5, .string (bs n), .string (bs v)]] w fun e w' => e = .returned (.int .i64 ((Pd.mk 5 n v).err : Nat)) ∧ Below w.heap.size w w' := by
  cases hne : nameOk n with
  | false =>
    have HER : Stow ((Pd.mk 5 n v).err = 7) := ⟨by simp [Pd.err, Pd.named, Pd.valued, hne]⟩
    have hp0 := Held.made w [.int .i64 5, .string (bs n), .string (bs v)] 98
    have HB := Stow.mk (Below.alloc' (Below.self w) (.cells #[.int .i64 5, .string (bs n), .string (bs v)] 98))
    obtain ⟨W, hW⟩ : ∃ W, w.alloc (.cells #[.int .i64 5, .string (bs n), .string (bs v)] 98) = W := ⟨_, rfl⟩
    rw [show w.alloc (.cells [.int .i64 5, .string (bs n), .string (bs v)].toArray 98) = W from hW] at hp0
    rw [hW] at HB
    have HW := Stow.mk hW
    have p0 := hp0.cell (i := 0) rfl
    have p1 := hp0.cell (i := 1) rfl
    have p2 := hp0.cell (i := 2) rfl
    clear hp0 hW
    go_enter Tryz.func118, Tryz.ntmps118
    go_upto_region 1 with fail
    rw [HW.out]
    clear HW
    have HNM := Stow.mk (refName_any n W (by omega))
    rw [hne] at HNM
    clear hne
    go_wp2_with fail
    refine HNM.out.mono ?_
    rintro e w3 ⟨rfl, rfl⟩
    go_wp2_with fail
    go_ret
    exact ⟨by rw [HER.out]; rfl, HB.out⟩
  | true =>
    cases hve : Ms.valueOk v with
    | false =>
      have HER : Stow ((Pd.mk 5 n v).err = 15) := ⟨by simp [Pd.err, Pd.named, Pd.valued, Pd.chk, hne, hve]⟩
      have hp0 := Held.made w [.int .i64 5, .string (bs n), .string (bs v)] 98
      have HB := Stow.mk (Below.alloc' (Below.self w) (.cells #[.int .i64 5, .string (bs n), .string (bs v)] 98))
      obtain ⟨W, hW⟩ : ∃ W, w.alloc (.cells #[.int .i64 5, .string (bs n), .string (bs v)] 98) = W := ⟨_, rfl⟩
      rw [show w.alloc (.cells [.int .i64 5, .string (bs n), .string (bs v)].toArray 98) = W from hW] at hp0
      rw [hW] at HB
      have HW := Stow.mk hW
      have p0 := hp0.cell (i := 0) rfl
      have p1 := hp0.cell (i := 1) rfl
      have p2 := hp0.cell (i := 2) rfl
      clear hp0 hW
      go_enter Tryz.func118, Tryz.ntmps118
      go_upto_region 1 with fail
      rw [HW.out]
      clear HW
      have HNM := Stow.mk (refName_any n W (by omega))
      have HVL := Stow.mk (refValue_any v W (by omega))
      rw [hne] at HNM
      rw [hve] at HVL
      clear hne hve
      go_wp2_with fail
      refine HNM.out.mono ?_
      rintro e w3 ⟨rfl, rfl⟩
      go_wp2_with fail
      refine HVL.out.mono ?_
      rintro e w3 ⟨rfl, rfl⟩
      go_wp2_with fail
      go_ret
      exact ⟨by rw [HER.out]; rfl, HB.out⟩
    | true =>
      have HER : Stow ((Pd.mk 5 n v).err = 0) := ⟨by simp [Pd.err, Pd.named, Pd.valued, Pd.chk, hne, hve]⟩
      have hp0 := Held.made w [.int .i64 5, .string (bs n), .string (bs v)] 98
      have HB := Stow.mk (Below.alloc' (Below.self w) (.cells #[.int .i64 5, .string (bs n), .string (bs v)] 98))
      obtain ⟨W, hW⟩ : ∃ W, w.alloc (.cells #[.int .i64 5, .string (bs n), .string (bs v)] 98) = W := ⟨_, rfl⟩
      rw [show w.alloc (.cells [.int .i64 5, .string (bs n), .string (bs v)].toArray 98) = W from hW] at hp0
      rw [hW] at HB
      have HW := Stow.mk hW
      have p0 := hp0.cell (i := 0) rfl
      have p1 := hp0.cell (i := 1) rfl
      have p2 := hp0.cell (i := 2) rfl
      clear hp0 hW
      go_enter Tryz.func118, Tryz.ntmps118
      go_upto_region 1 with fail
      rw [HW.out]
      clear HW
      have HNM := Stow.mk (refName_any n W (by omega))
      have HVL := Stow.mk (refValue_any v W (by omega))
      rw [hne] at HNM
      rw [hve] at HVL
      clear hne hve
      go_wp2_with fail
      refine HNM.out.mono ?_
      rintro e w3 ⟨rfl, rfl⟩
      go_wp2_with fail
      refine HVL.out.mono ?_
      rintro e w3 ⟨rfl, rfl⟩
      go_wp2_with fail
      go_ret
      exact ⟨by rw [HER.out]; rfl, HB.out⟩
set_option maxHeartbeats 2000000 in
set_option maxRecDepth 100000 in
theorem refPd_6 (n v : List UInt8) (w : World) (hn : n.length ≤ 140737488355328) (hv : v.length ≤ 140737488355328) : Calls Tryz.prog 118 #[.agg #[.int .i64 6, .string (bs n), .string (bs v)]] w fun e w' => e = .returned (.int .i64 ((Pd.mk 6 n v).err : Nat)) ∧ Below w.heap.size w w' := by
  rcases v with _ | ⟨c0, v0⟩
  · cases hne : nameOk n with
    | false =>
      have HER : Stow ((Pd.mk 6 n []).err = 7) := ⟨by simp [Pd.err, Pd.named, Pd.valued, hne]⟩
      have hp0 := Held.made w [.int .i64 6, .string (bs n), .string (bs [])] 98
      have HB := Stow.mk (Below.alloc' (Below.self w) (.cells #[.int .i64 6, .string (bs n), .string (bs [])] 98))
      obtain ⟨W, hW⟩ : ∃ W, w.alloc (.cells #[.int .i64 6, .string (bs n), .string (bs [])] 98) = W := ⟨_, rfl⟩
      rw [show w.alloc (.cells [.int .i64 6, .string (bs n), .string (bs [])].toArray 98) = W from hW] at hp0
      rw [hW] at HB
      have HW := Stow.mk hW
      have p0 := hp0.cell (i := 0) rfl
      have p1 := hp0.cell (i := 1) rfl
      have p2 := hp0.cell (i := 2) rfl
      clear hp0 hW
      go_enter Tryz.func118, Tryz.ntmps118
      go_upto_region 1 with fail
      rw [HW.out]
      clear HW
      have HNM := Stow.mk (refName_any n W (by omega))
      rw [hne] at HNM
      clear hne
      go_wp2_with fail
      refine HNM.out.mono ?_
      rintro e w3 ⟨rfl, rfl⟩
      go_wp2_with fail
      go_ret
      exact ⟨by rw [HER.out]; rfl, HB.out⟩
    | true =>
      have HER : Stow ((Pd.mk 6 n []).err = 0) := ⟨by simp [Pd.err, Pd.named, Pd.valued, Pd.chk, hne]⟩
      have hp0 := Held.made w [.int .i64 6, .string (bs n), .string (bs [])] 98
      have HB := Stow.mk (Below.alloc' (Below.self w) (.cells #[.int .i64 6, .string (bs n), .string (bs [])] 98))
      obtain ⟨W, hW⟩ : ∃ W, w.alloc (.cells #[.int .i64 6, .string (bs n), .string (bs [])] 98) = W := ⟨_, rfl⟩
      rw [show w.alloc (.cells [.int .i64 6, .string (bs n), .string (bs [])].toArray 98) = W from hW] at hp0
      rw [hW] at HB
      have HW := Stow.mk hW
      have p0 := hp0.cell (i := 0) rfl
      have p1 := hp0.cell (i := 1) rfl
      have p2 := hp0.cell (i := 2) rfl
      clear hp0 hW
      go_enter Tryz.func118, Tryz.ntmps118
      go_upto_region 1 with fail
      rw [HW.out]
      clear HW
      have HNM := Stow.mk (refName_any n W (by omega))
      rw [hne] at HNM
      clear hne
      go_wp2_with fail
      refine HNM.out.mono ?_
      rintro e w3 ⟨rfl, rfl⟩
      go_wp2_with fail
      go_ret
      exact ⟨by rw [HER.out]; rfl, HB.out⟩
  · have HER : Stow ((Pd.mk 6 n (c0 :: v0)).err = 2) := ⟨by simp [Pd.err, Pd.named, Pd.valued]⟩
    have hp0 := Held.made w [.int .i64 6, .string (bs n), .string (bs (c0 :: v0))] 98
    have HB := Stow.mk (Below.alloc' (Below.self w) (.cells #[.int .i64 6, .string (bs n), .string (bs (c0 :: v0))] 98))
    obtain ⟨W, hW⟩ : ∃ W, w.alloc (.cells #[.int .i64 6, .string (bs n), .string (bs (c0 :: v0))] 98) = W := ⟨_, rfl⟩
    rw [show w.alloc (.cells [.int .i64 6, .string (bs n), .string (bs (c0 :: v0))].toArray 98) = W from hW] at hp0
    rw [hW] at HB
    have HW := Stow.mk hW
    have p0 := hp0.cell (i := 0) rfl
    have p1 := hp0.cell (i := 1) rfl
    have p2 := hp0.cell (i := 2) rfl
    clear hp0 hW
    go_enter Tryz.func118, Tryz.ntmps118
    go_upto_region 1 with fail
    rw [HW.out]
    clear HW
    go_wp2_with fail
    go_ret
    exact ⟨by rw [HER.out]; rfl, HB.out⟩
set_option maxHeartbeats 2000000 in
set_option maxRecDepth 100000 in
theorem refPd_bad (k : Int) (hk : k < 1 ∨ 6 < k) (n v : List UInt8) (w : World) : Calls Tryz.prog 118 #[.agg #[.int .i64 k, .string (bs n), .string (bs v)]] w fun e w' => e = .returned (.int .i64 2) ∧ Below w.heap.size w w' := by
  by_cases h1 : k < 1
  · have hp0 := Held.made w [.int .i64 k, .string (bs n), .string (bs v)] 98
    have HB := Stow.mk (Below.alloc' (Below.self w) (.cells #[.int .i64 k, .string (bs n), .string (bs v)] 98))
    obtain ⟨W, hW⟩ : ∃ W, w.alloc (.cells #[.int .i64 k, .string (bs n), .string (bs v)] 98) = W := ⟨_, rfl⟩
    rw [show w.alloc (.cells [.int .i64 k, .string (bs n), .string (bs v)].toArray 98) = W from hW] at hp0
    rw [hW] at HB
    have HW := Stow.mk hW
    have p0 := hp0.cell (i := 0) rfl
    have p1 := hp0.cell (i := 1) rfl
    have p2 := hp0.cell (i := 2) rfl
    clear hp0 hW
    go_enter Tryz.func118, Tryz.ntmps118
    go_upto_region 1 with fail
    rw [HW.out]
    clear HW
    go_wp2_with fail
    go_ret
    exact ⟨rfl, HB.out⟩
  · have h6 : 6 < k := by omega
    have hp0 := Held.made w [.int .i64 k, .string (bs n), .string (bs v)] 98
    have HB := Stow.mk (Below.alloc' (Below.self w) (.cells #[.int .i64 k, .string (bs n), .string (bs v)] 98))
    obtain ⟨W, hW⟩ : ∃ W, w.alloc (.cells #[.int .i64 k, .string (bs n), .string (bs v)] 98) = W := ⟨_, rfl⟩
    rw [show w.alloc (.cells [.int .i64 k, .string (bs n), .string (bs v)].toArray 98) = W from hW] at hp0
    rw [hW] at HB
    have HW := Stow.mk hW
    have p0 := hp0.cell (i := 0) rfl
    have p1 := hp0.cell (i := 1) rfl
    have p2 := hp0.cell (i := 2) rfl
    clear hp0 hW
    go_enter Tryz.func118, Tryz.ntmps118
    go_upto_region 1 with fail
    rw [HW.out]
    clear HW
    go_wp2_with fail
    go_ret
    exact ⟨rfl, HB.out⟩
theorem refPd_any (p : Pd) (w : World) (hp : p.fits) : Calls Tryz.prog 118 #[.agg p.cells.toArray] w fun e w' => e = .returned (.int .i64 (p.err : Nat)) ∧ Below w.heap.size w w' := by
  obtain ⟨k, n, v⟩ := p
  obtain ⟨hn, hv⟩ := hp
  by_cases hk : k < 1 ∨ 6 < k
  · have he : (Pd.mk k n v).err = 2 := by unfold Pd.err; rw [if_pos hk]
    rw [he]
    exact refPd_bad k hk n v w
  · obtain rfl | rfl | rfl | rfl | rfl | rfl : k = 1 ∨ k = 2 ∨ k = 3 ∨ k = 4 ∨ k = 5 ∨ k = 6 := by omega
    · exact refPd_1 n v w hn hv
    · exact refPd_2 n v w hn hv
    · exact refPd_3 n v w hn hv
    · exact refPd_4 n v w hn hv
    · exact refPd_5 n v w hn hv
    · exact refPd_6 n v w hn hv
end Go.Proofs.YtfbhdkkmcfnghaaGreatDoor
