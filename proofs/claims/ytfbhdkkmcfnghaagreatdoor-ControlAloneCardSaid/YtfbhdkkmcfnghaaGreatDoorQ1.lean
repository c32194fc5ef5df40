/- Walk of the reference's Check of a predicate. Condition: the texts' lengths.; Walks of the reference's Format, one, Check. Conditions: the rules' memory.; Walks of rule.parts and rule.Check. Conditions: the rule's and the names' memory.; Walk of the reference's Check of a rule. Conditions: the rule's and the names' memory.; Walks of table.printable, version, Check and of the reference's Check. Conditions: the rules' and the names' memory. -/
import Derived.Test.YtfbhdkkmcfnghaaGreatDoorPdErr
import Derived.Test.YtfbhdkkmcfnghaaGreatDoorCfOne
import Derived.Test.YtfbhdkkmcfnghaaGreatDoorQ0

section
namespace Go.Proofs.YtfbhdkkmcfnghaaGreatDoor
open Go.RowKit
set_option linter.unusedVariables false
set_option linter.unusedSimpArgs false

set_option maxHeartbeats 2000000 in
set_option maxRecDepth 100000 in
theorem refPd_1 (n v : List UInt8) (w : World) (hn : n.length ≤ 140737488355328) (hv : v.length ≤ 140737488355328) : Calls Tryz.prog 118 #[.agg #[.int .i64 1, .string (bs n), .string (bs v)]] w fun e w' => e = .returned (.int .i64 ((Pd.mk 1 n v).err : Nat)) ∧ Below w.heap.size w w' := by
  rcases n with _ | ⟨c0, n0⟩
  · cases hne : Ms.methodOk v with
    | false =>
      have HER : Stow ((Pd.mk 1 [] v).err = 3) := ⟨by simp [Pd.err, Pd.named, Pd.valued, Pd.chk, hne]⟩
      have hp0 := Held.made w [.int .i64 1, .string (bs []), .string (bs v)] 98
      have HB := Stow.mk (Below.alloc' (Below.self w) (.cells #[.int .i64 1, .string (bs []), .string (bs v)] 98))
      obtain ⟨W, hW⟩ : ∃ W, w.alloc (.cells #[.int .i64 1, .string (bs []), .string (bs v)] 98) = W := ⟨_, rfl⟩
      rw [show w.alloc (.cells [.int .i64 1, .string (bs []), .string (bs v)].toArray 98) = W from hW] at hp0
      rw [hW] at HB
      have HW := Stow.mk hW
      have p0 := hp0.cell (i := 0) rfl
      have p1 := hp0.cell (i := 1) rfl
      have p2 := hp0.cell (i := 2) rfl
      clear hp0 hW
      go_enter Tryz.func118, Tryz.ntmps118
      go_upto_region 1 with fail
      rw [HW.out]
      clear HW
      have HNM := Stow.mk (refMethod_any v W (by omega))
      rw [hne] at HNM
      clear hne
      go_wp2_with fail
      refine HNM.out.mono ?_
      rintro e w3 ⟨rfl, rfl⟩
      go_wp2_with fail
      go_ret
      exact ⟨by rw [HER.out]; rfl, HB.out⟩
    | true =>
      have HER : Stow ((Pd.mk 1 [] v).err = 0) := ⟨by simp [Pd.err, Pd.named, Pd.valued, Pd.chk, hne]⟩
      have hp0 := Held.made w [.int .i64 1, .string (bs []), .string (bs v)] 98
      have HB := Stow.mk (Below.alloc' (Below.self w) (.cells #[.int .i64 1, .string (bs []), .string (bs v)] 98))
      obtain ⟨W, hW⟩ : ∃ W, w.alloc (.cells #[.int .i64 1, .string (bs []), .string (bs v)] 98) = W := ⟨_, rfl⟩
      rw [show w.alloc (.cells [.int .i64 1, .string (bs []), .string (bs v)].toArray 98) = W from hW] at hp0
      rw [hW] at HB
      have HW := Stow.mk hW
      have p0 := hp0.cell (i := 0) rfl
      have p1 := hp0.cell (i := 1) rfl
      have p2 := hp0.cell (i := 2) rfl
      clear hp0 hW
      go_enter Tryz.func118, Tryz.ntmps118
      go_upto_region 1 with fail
      rw [HW.out]
      clear HW
      have HNM := Stow.mk (refMethod_any v W (by omega))
      rw [hne] at HNM
      clear hne
      go_wp2_with fail
      refine HNM.out.mono ?_
      rintro e w3 ⟨rfl, rfl⟩
      go_wp2_with fail
      go_ret
      exact ⟨by rw [HER.out]; rfl, HB.out⟩
  · have HER : Stow ((Pd.mk 1 (c0 :: n0) v).err = 2) := ⟨by simp [Pd.err, Pd.named]⟩
    have hp0 := Held.made w [.int .i64 1, .string (bs (c0 :: n0)), .string (bs v)] 98
    have HB := Stow.mk (Below.alloc' (Below.self w) (.cells #[.int .i64 1, .string (bs (c0 :: n0)), .string (bs v)] 98))
    obtain ⟨W, hW⟩ : ∃ W, w.alloc (.cells #[.int .i64 1, .string (bs (c0 :: n0)), .string (bs v)] 98) = W := ⟨_, rfl⟩
    rw [show w.alloc (.cells [.int .i64 1, .string (bs (c0 :: n0)), .string (bs v)].toArray 98) = W from hW] at hp0
    rw [hW] at HB
    have HW := Stow.mk hW
    have p0 := hp0.cell (i := 0) rfl
    have p1 := hp0.cell (i := 1) rfl
    have p2 := hp0.cell (i := 2) rfl
    clear hp0 hW
    go_enter Tryz.func118, Tryz.ntmps118
    go_upto_region 1 with fail
    rw [HW.out]
    clear HW
    go_wp2_with fail
    go_ret
    exact ⟨by rw [HER.out]; rfl, HB.out⟩
set_option maxHeartbeats 2000000 in
set_option maxRecDepth 100000 in
theorem refPd_2 (n v : List UInt8) (w : World) (hn : n.length ≤ 140737488355328) (hv : v.length ≤ 140737488355328) : Calls Tryz.prog 118 #[.agg #[.int .i64 2, .string (bs n), .string (bs v)]] w fun e w' => e = .returned (.int .i64 ((Pd.mk 2 n v).err : Nat)) ∧ Below w.heap.size w w' := by
  rcases n with _ | ⟨c0, n0⟩
  · cases hne : nameOk v with
    | false =>
      have HER : Stow ((Pd.mk 2 [] v).err = 7) := ⟨by simp [Pd.err, Pd.named, Pd.valued, Pd.chk, hne]⟩
      have hp0 := Held.made w [.int .i64 2, .string (bs []), .string (bs v)] 98
      have HB := Stow.mk (Below.alloc' (Below.self w) (.cells #[.int .i64 2, .string (bs []), .string (bs v)] 98))
      obtain ⟨W, hW⟩ : ∃ W, w.alloc (.cells #[.int .i64 2, .string (bs []), .string (bs v)] 98) = W := ⟨_, rfl⟩
      rw [show w.alloc (.cells [.int .i64 2, .string (bs []), .string (bs v)].toArray 98) = W from hW] at hp0
      rw [hW] at HB
      have HW := Stow.mk hW
      have p0 := hp0.cell (i := 0) rfl
      have p1 := hp0.cell (i := 1) rfl
      have p2 := hp0.cell (i := 2) rfl
      clear hp0 hW
      go_enter Tryz.func118, Tryz.ntmps118
      go_upto_region 1 with fail
      rw [HW.out]
      clear HW
      have HNM := Stow.mk (refName_any v W (by omega))
      rw [hne] at HNM
      clear hne
      go_wp2_with fail
      refine HNM.out.mono ?_
      rintro e w3 ⟨rfl, rfl⟩
      go_wp2_with fail
      go_ret
      exact ⟨by rw [HER.out]; rfl, HB.out⟩
    | true =>
      have HER : Stow ((Pd.mk 2 [] v).err = 0) := ⟨by simp [Pd.err, Pd.named, Pd.valued, Pd.chk, hne]⟩
      have hp0 := Held.made w [.int .i64 2, .string (bs []), .string (bs v)] 98
      have HB := Stow.mk (Below.alloc' (Below.self w) (.cells #[.int .i64 2, .string (bs []), .string (bs v)] 98))
      obtain ⟨W, hW⟩ : ∃ W, w.alloc (.cells #[.int .i64 2, .string (bs []), .string (bs v)] 98) = W := ⟨_, rfl⟩
      rw [show w.alloc (.cells [.int .i64 2, .string (bs []), .string (bs v)].toArray 98) = W from hW] at hp0
      rw [hW] at HB
      have HW := Stow.mk hW
      have p0 := hp0.cell (i := 0) rfl
      have p1 := hp0.cell (i := 1) rfl
      have p2 := hp0.cell (i := 2) rfl
      clear hp0 hW
      go_enter Tryz.func118, Tryz.ntmps118
      go_upto_region 1 with fail
      rw [HW.out]
      clear HW
      have HNM := Stow.mk (refName_any v W (by omega))
      rw [hne] at HNM
      clear hne
      go_wp2_with fail
      refine HNM.out.mono ?_
      rintro e w3 ⟨rfl, rfl⟩
      go_wp2_with fail
      go_ret
      exact ⟨by rw [HER.out]; rfl, HB.out⟩
  · have HER : Stow ((Pd.mk 2 (c0 :: n0) v).err = 2) := ⟨by simp [Pd.err, Pd.named]⟩
    have hp0 := Held.made w [.int .i64 2, .string (bs (c0 :: n0)), .string (bs v)] 98
    have HB := Stow.mk (Below.alloc' (Below.self w) (.cells #[.int .i64 2, .string (bs (c0 :: n0)), .string (bs v)] 98))
    obtain ⟨W, hW⟩ : ∃ W, w.alloc (.cells #[.int .i64 2, .string (bs (c0 :: n0)), .string (bs v)] 98) = W := ⟨_, rfl⟩
    rw [show w.alloc (.cells [.int .i64 2, .string (bs (c0 :: n0)), .string (bs v)].toArray 98) = W from hW] at hp0
    rw [hW] at HB
    have HW := Stow.mk hW
    have p0 := hp0.cell (i := 0) rfl
    have p1 := hp0.cell (i := 1) rfl
    have p2 := hp0.cell (i := 2) rfl
    clear hp0 hW
    go_enter Tryz.func118, Tryz.ntmps118
    go_upto_region 1 with fail
    rw [HW.out]
    clear HW
    go_wp2_with fail
    go_ret
    exact ⟨by rw [HER.out]; rfl, HB.out⟩
set_option maxHeartbeats 2000000 in
set_option maxRecDepth 100000 in
theorem refPd_3 (n v : List UInt8) (w : World) (hn : n.length ≤ 140737488355328) (hv : v.length ≤ 140737488355328) : Calls Tryz.prog 118 #[.agg #[.int .i64 3, .string (bs n), .string (bs v)]] w fun e w' => e = .returned (.int .i64 ((Pd.mk 3 n v).err : Nat)) ∧ Below w.heap.size w w' := by
  rcases n with _ | ⟨c0, n0⟩
  · cases hne : Ms.pathOk v with
    | false =>
      have HER : Stow ((Pd.mk 3 [] v).err = 12) := ⟨by simp [Pd.err, Pd.named, Pd.valued, Pd.chk, hne]⟩
      have hp0 := Held.made w [.int .i64 3, .string (bs []), .string (bs v)] 98
      have HB := Stow.mk (Below.alloc' (Below.self w) (.cells #[.int .i64 3, .string (bs []), .string (bs v)] 98))
      obtain ⟨W, hW⟩ : ∃ W, w.alloc (.cells #[.int .i64 3, .string (bs []), .string (bs v)] 98) = W := ⟨_, rfl⟩
      rw [show w.alloc (.cells [.int .i64 3, .string (bs []), .string (bs v)].toArray 98) = W from hW] at hp0
      rw [hW] at HB
      have HW := Stow.mk hW
      have p0 := hp0.cell (i := 0) rfl
      have p1 := hp0.cell (i := 1) rfl
      have p2 := hp0.cell (i := 2) rfl
      clear hp0 hW
      go_enter Tryz.func118, Tryz.ntmps118
      go_upto_region 1 with fail
      rw [HW.out]
      clear HW
      have HNM := Stow.mk (refPath_any v W (by omega))
      rw [hne] at HNM
      clear hne
      go_wp2_with fail
      refine HNM.out.mono ?_
      rintro e w3 ⟨rfl, rfl⟩
      go_wp2_with fail
      go_ret
      exact ⟨by rw [HER.out]; rfl, HB.out⟩
    | true =>
      have HER : Stow ((Pd.mk 3 [] v).err = 0) := ⟨by simp [Pd.err, Pd.named, Pd.valued, Pd.chk, hne]⟩
      have hp0 := Held.made w [.int .i64 3, .string (bs []), .string (bs v)] 98
      have HB := Stow.mk (Below.alloc' (Below.self w) (.cells #[.int .i64 3, .string (bs []), .string (bs v)] 98))
      obtain ⟨W, hW⟩ : ∃ W, w.alloc (.cells #[.int .i64 3, .string (bs []), .string (bs v)] 98) = W := ⟨_, rfl⟩
      rw [show w.alloc (.cells [.int .i64 3, .string (bs []), .string (bs v)].toArray 98) = W from hW] at hp0
      rw [hW] at HB
      have HW := Stow.mk hW
      have p0 := hp0.cell (i := 0) rfl
      have p1 := hp0.cell (i := 1) rfl
      have p2 := hp0.cell (i := 2) rfl
      clear hp0 hW
      go_enter Tryz.func118, Tryz.ntmps118
      go_upto_region 1 with fail
      rw [HW.out]
      clear HW
      have HNM := Stow.mk (refPath_any v W (by omega))
      rw [hne] at HNM
      clear hne
      go_wp2_with fail
      refine HNM.out.mono ?_
      rintro e w3 ⟨rfl, rfl⟩
      go_wp2_with fail
      go_ret
      exact ⟨by rw [HER.out]; rfl, HB.out⟩
  · have HER : Stow ((Pd.mk 3 (c0 :: n0) v).err = 2) := ⟨by simp [Pd.err, Pd.named]⟩
    have hp0 := Held.made w [.int .i64 3, .string (bs (c0 :: n0)), .string (bs v)] 98
    have HB := Stow.mk (Below.alloc' (Below.self w) (.cells #[.int .i64 3, .string (bs (c0 :: n0)), .string (bs v)] 98))
    obtain ⟨W, hW⟩ : ∃ W, w.alloc (.cells #[.int .i64 3, .string (bs (c0 :: n0)), .string (bs v)] 98) = W := ⟨_, rfl⟩
    rw [show w.alloc (.cells [.int .i64 3, .string (bs (c0 :: n0)), .string (bs v)].toArray 98) = W from hW] at hp0
    rw [hW] at HB
    have HW := Stow.mk hW
    have p0 := hp0.cell (i := 0) rfl
    have p1 := hp0.cell (i := 1) rfl
    have p2 := hp0.cell (i := 2) rfl
    clear hp0 hW
    go_enter Tryz.func118, Tryz.ntmps118
    go_upto_region 1 with fail
    rw [HW.out]
    clear HW
    go_wp2_with fail
    go_ret
    exact ⟨by rw [HER.out]; rfl, HB.out⟩
set_option maxHeartbeats 2000000 in
set_option maxRecDepth 100000 in
theorem refPd_4 (n v : List UInt8) (w : World) (hn : n.length ≤ 140737488355328) (hv : v.length ≤ 140737488355328) : Calls Tryz.prog 118 #[.agg #[.int .i64 4, .string (bs n), .string (bs v)]] w fun e w' => e = .returned (.int .i64 ((Pd.mk 4 n v).err : Nat)) ∧ Below w.heap.size w w' := by
  rcases n with _ | ⟨c0, n0⟩
  · cases hne : Ms.pathOk v with
    | false =>
      have HER : Stow ((Pd.mk 4 [] v).err = 12) := ⟨by simp [Pd.err, Pd.named, Pd.valued, Pd.chk, hne]⟩
      have hp0 := Held.made w [.int .i64 4, .string (bs []), .string (bs v)] 98
      have HB := Stow.mk (Below.alloc' (Below.self w) (.cells #[.int .i64 4, .string (bs []), .string (bs v)] 98))
      obtain ⟨W, hW⟩ : ∃ W, w.alloc (.cells #[.int .i64 4, .string (bs []), .string (bs v)] 98) = W := ⟨_, rfl⟩
      rw [show w.alloc (.cells [.int .i64 4, .string (bs []), .string (bs v)].toArray 98) = W from hW] at hp0
      rw [hW] at HB
      have HW := Stow.mk hW
      have p0 := hp0.cell (i := 0) rfl
      have p1 := hp0.cell (i := 1) rfl
      have p2 := hp0.cell (i := 2) rfl
      clear hp0 hW
      go_enter Tryz.func118, Tryz.ntmps118
      go_upto_region 1 with fail
      rw [HW.out]
      clear HW
      have HNM := Stow.mk (refPath_any v W (by omega))
      rw [hne] at HNM
      clear hne
      go_wp2_with fail
      refine HNM.out.mono ?_
      rintro e w3 ⟨rfl, rfl⟩
      go_wp2_with fail
      go_ret
      exact ⟨by rw [HER.out]; rfl, HB.out⟩
    | true =>
      have HER : Stow ((Pd.mk 4 [] v).err = 0) := ⟨by simp [Pd.err, Pd.named, Pd.valued, Pd.chk, hne]⟩
      have hp0 := Held.made w [.int .i64 4, .string (bs []), .string (bs v)] 98
      have HB := Stow.mk (Below.alloc' (Below.self w) (.cells #[.int .i64 4, .string (bs []), .string (bs v)] 98))
      obtain ⟨W, hW⟩ : ∃ W, w.alloc (.cells #[.int .i64 4, .string (bs []), .string (bs v)] 98) = W := ⟨_, rfl⟩
      rw [show w.alloc (.cells [.int .i64 4, .string (bs []), .string (bs v)].toArray 98) = W from hW] at hp0
      rw [hW] at HB
      have HW := Stow.mk hW
      have p0 := hp0.cell (i := 0) rfl
      have p1 := hp0.cell (i := 1) rfl
      have p2 := hp0.cell (i := 2) rfl
      clear hp0 hW
      go_enter Tryz.func118, Tryz.ntmps118
      go_upto_region 1 with fail
      rw [HW.out]
      clear HW
      have HNM := Stow.mk (refPath_any v W (by omega))
      rw [hne] at HNM
      clear hne
      go_wp2_with fail
      refine HNM.out.mono ?_
      rintro e w3 ⟨rfl, rfl⟩
      go_wp2_with fail
      go_ret
      exact ⟨by rw [HER.out]; rfl, HB.out⟩
  · have HER : Stow ((Pd.mk 4 (c0 :: n0) v).err = 2) := ⟨by simp [Pd.err, Pd.named]⟩
    have hp0 := Held.made w [.int .i64 4, .string (bs (c0 :: n0)), .string (bs v)] 98
    have HB := Stow.mk (Below.alloc' (Below.self w) (.cells #[.int .i64 4, .string (bs (c0 :: n0)), .string (bs v)] 98))
    obtain ⟨W, hW⟩ : ∃ W, w.alloc (.cells #[.int .i64 4, .string (bs (c0 :: n0)), .string (bs v)] 98) = W := ⟨_, rfl⟩
    rw [show w.alloc (.cells [.int .i64 4, .string (bs (c0 :: n0)), .string (bs v)].toArray 98) = W from hW] at hp0
    rw [hW] at HB
    have HW := Stow.mk hW
    have p0 := hp0.cell (i := 0) rfl
    have p1 := hp0.cell (i := 1) rfl
    have p2 := hp0.cell (i := 2) rfl
    clear hp0 hW
    go_enter Tryz.func118, Tryz.ntmps118
    go_upto_region 1 with fail
    rw [HW.out]
    clear HW
    go_wp2_with fail
    go_ret
    exact ⟨by rw [HER.out]; rfl, HB.out⟩
set_option maxHeartbeats 2000000 in
set_option maxRecDepth 100000 in
theorem refPd_5 (n v : List UInt8) (w : World) (hn : n.length ≤ 140737488355328) (hv : v.length ≤ 140737488355328) : Calls Tryz.prog 118 #[.agg #[.int .i64 5, .string (bs n), .string (bs v)]] w fun e w' => e = .returned (.int .i64 ((Pd.mk 5 n v).err : Nat)) ∧ Below w.heap.size w w' := by
  cases hne : nameOk n with
  | false =>
    have HER : Stow ((Pd.mk 5 n v).err = 7) := ⟨by simp [Pd.err, Pd.named, Pd.valued, hne]⟩
    have hp0 := Held.made w [.int .i64 5, .string (bs n), .string (bs v)] 98
    have HB := Stow.mk (Below.alloc' (Below.self w) (.cells #[.int .i64 5, .string (bs n), .string (bs v)] 98))
    obtain ⟨W, hW⟩ : ∃ W, w.alloc (.cells #[.int .i64 5, .string (bs n), .string (bs v)] 98) = W := ⟨_, rfl⟩
    rw [show w.alloc (.cells [.int .i64 5, .string (bs n), .string (bs v)].toArray 98) = W from hW] at hp0
    rw [hW] at HB
    have HW := Stow.mk hW
    have p0 := hp0.cell (i := 0) rfl
    have p1 := hp0.cell (i := 1) rfl
    have p2 := hp0.cell (i := 2) rfl
    clear hp0 hW
    go_enter Tryz.func118, Tryz.ntmps118
    go_upto_region 1 with fail
    rw [HW.out]
    clear HW
    have HNM := Stow.mk (refName_any n W (by omega))
    rw [hne] at HNM
    clear hne
    go_wp2_with fail
    refine HNM.out.mono ?_
    rintro e w3 ⟨rfl, rfl⟩
    go_wp2_with fail
    go_ret
    exact ⟨by rw [HER.out]; rfl, HB.out⟩
  | true =>
    cases hve : Ms.valueOk v with
    | false =>
      have HER : Stow ((Pd.mk 5 n v).err = 15) := ⟨by simp [Pd.err, Pd.named, Pd.valued, Pd.chk, hne, hve]⟩
      have hp0 := Held.made w [.int .i64 5, .string (bs n), .string (bs v)] 98
      have HB := Stow.mk (Below.alloc' (Below.self w) (.cells #[.int .i64 5, .string (bs n), .string (bs v)] 98))
      obtain ⟨W, hW⟩ : ∃ W, w.alloc (.cells #[.int .i64 5, .string (bs n), .string (bs v)] 98) = W := ⟨_, rfl⟩
      rw [show w.alloc (.cells [.int .i64 5, .string (bs n), .string (bs v)].toArray 98) = W from hW] at hp0
      rw [hW] at HB
      have HW := Stow.mk hW
      have p0 := hp0.cell (i := 0) rfl
      have p1 := hp0.cell (i := 1) rfl
      have p2 := hp0.cell (i := 2) rfl
      clear hp0 hW
      go_enter Tryz.func118, Tryz.ntmps118
      go_upto_region 1 with fail
      rw [HW.out]
      clear HW
      have HNM := Stow.mk (refName_any n W (by omega))
      have HVL := Stow.mk (refValue_any v W (by omega))
      rw [hne] at HNM
      rw [hve] at HVL
      clear hne hve
      go_wp2_with fail
      refine HNM.out.mono ?_
      rintro e w3 ⟨rfl, rfl⟩
      go_wp2_with fail
      refine HVL.out.mono ?_
      rintro e w3 ⟨rfl, rfl⟩
      go_wp2_with fail
      go_ret
      exact ⟨by rw [HER.out]; rfl, HB.out⟩
    | true =>
      have HER : Stow ((Pd.mk 5 n v).err = 0) := ⟨by simp [Pd.err, Pd.named, Pd.valued, Pd.chk, hne, hve]⟩
      have hp0 := Held.made w [.int .i64 5, .string (bs n), .string (bs v)] 98
      have HB := Stow.mk (Below.alloc' (Below.self w) (.cells #[.int .i64 5, .string (bs n), .string (bs v)] 98))
      obtain ⟨W, hW⟩ : ∃ W, w.alloc (.cells #[.int .i64 5, .string (bs n), .string (bs v)] 98) = W := ⟨_, rfl⟩
      rw [show w.alloc (.cells [.int .i64 5, .string (bs n), .string (bs v)].toArray 98) = W from hW] at hp0
      rw [hW] at HB
      have HW := Stow.mk hW
      have p0 := hp0.cell (i := 0) rfl
      have p1 := hp0.cell (i := 1) rfl
      have p2 := hp0.cell (i := 2) rfl
      clear hp0 hW
      go_enter Tryz.func118, Tryz.ntmps118
      go_upto_region 1 with fail
      rw [HW.out]
      clear HW
      have HNM := Stow.mk (refName_any n W (by omega))
      have HVL := Stow.mk (refValue_any v W (by omega))
      rw [hne] at HNM
      rw [hve] at HVL
      clear hne hve
      go_wp2_with fail
      refine HNM.out.mono ?_
      rintro e w3 ⟨rfl, rfl⟩
      go_wp2_with fail
      refine HVL.out.mono ?_
      rintro e w3 ⟨rfl, rfl⟩
      go_wp2_with fail
      go_ret
      exact ⟨by rw [HER.out]; rfl, HB.out⟩
set_option maxHeartbeats 2000000 in
set_option maxRecDepth 100000 in
theorem refPd_6 (n v : List UInt8) (w : World) (hn : n.length ≤ 140737488355328) (hv : v.length ≤ 140737488355328) : Calls Tryz.prog 118 #[.agg #[.int .i64 6, .string (bs n), .string (bs v)]] w fun e w' => e = .returned (.int .i64 ((Pd.mk 6 n v).err : Nat)) ∧ Below w.heap.size w w' := by
  rcases v with _ | ⟨c0, v0⟩
  · cases hne : nameOk n with
    | false =>
      have HER : Stow ((Pd.mk 6 n []).err = 7) := ⟨by simp [Pd.err, Pd.named, Pd.valued, hne]⟩
      have hp0 := Held.made w [.int .i64 6, .string (bs n), .string (bs [])] 98
      have HB := Stow.mk (Below.alloc' (Below.self w) (.cells #[.int .i64 6, .string (bs n), .string (bs [])] 98))
      obtain ⟨W, hW⟩ : ∃ W, w.alloc (.cells #[.int .i64 6, .string (bs n), .string (bs [])] 98) = W := ⟨_, rfl⟩
      rw [show w.alloc (.cells [.int .i64 6, .string (bs n), .string (bs [])].toArray 98) = W from hW] at hp0
      rw [hW] at HB
      have HW := Stow.mk hW
      have p0 := hp0.cell (i := 0) rfl
      have p1 := hp0.cell (i := 1) rfl
      have p2 := hp0.cell (i := 2) rfl
      clear hp0 hW
      go_enter Tryz.func118, Tryz.ntmps118
      go_upto_region 1 with fail
      rw [HW.out]
      clear HW
      have HNM := Stow.mk (refName_any n W (by omega))
      rw [hne] at HNM
      clear hne
      go_wp2_with fail
      refine HNM.out.mono ?_
      rintro e w3 ⟨rfl, rfl⟩
      go_wp2_with fail
      go_ret
      exact ⟨by rw [HER.out]; rfl, HB.out⟩
    | true =>
      have HER : Stow ((Pd.mk 6 n []).err = 0) := ⟨by simp [Pd.err, Pd.named, Pd.valued, Pd.chk, hne]⟩
      have hp0 := Held.made w [.int .i64 6, .string (bs n), .string (bs [])] 98
      have HB := Stow.mk (Below.alloc' (Below.self w) (.cells #[.int .i64 6, .string (bs n), .string (bs [])] 98))
      obtain ⟨W, hW⟩ : ∃ W, w.alloc (.cells #[.int .i64 6, .string (bs n), .string (bs [])] 98) = W := ⟨_, rfl⟩
      rw [show w.alloc (.cells [.int .i64 6, .string (bs n), .string (bs [])].toArray 98) = W from hW] at hp0
      rw [hW] at HB
      have HW := Stow.mk hW
      have p0 := hp0.cell (i := 0) rfl
      have p1 := hp0.cell (i := 1) rfl
      have p2 := hp0.cell (i := 2) rfl
      clear hp0 hW
      go_enter Tryz.func118, Tryz.ntmps118
      go_upto_region 1 with fail
      rw [HW.out]
      clear HW
      have HNM := Stow.mk (refName_any n W (by omega))
      rw [hne] at HNM
      clear hne
      go_wp2_with fail
      refine HNM.out.mono ?_
      rintro e w3 ⟨rfl, rfl⟩
      go_wp2_with fail
      go_ret
      exact ⟨by rw [HER.out]; rfl, HB.out⟩
  · have HER : Stow ((Pd.mk 6 n (c0 :: v0)).err = 2) := ⟨by simp [Pd.err, Pd.named, Pd.valued]⟩
    have hp0 := Held.made w [.int .i64 6, .string (bs n), .string (bs (c0 :: v0))] 98
    have HB := Stow.mk (Below.alloc' (Below.self w) (.cells #[.int .i64 6, .string (bs n), .string (bs (c0 :: v0))] 98))
    obtain ⟨W, hW⟩ : ∃ W, w.alloc (.cells #[.int .i64 6, .string (bs n), .string (bs (c0 :: v0))] 98) = W := ⟨_, rfl⟩
    rw [show w.alloc (.cells [.int .i64 6, .string (bs n), .string (bs (c0 :: v0))].toArray 98) = W from hW] at hp0
    rw [hW] at HB
    have HW := Stow.mk hW
    have p0 := hp0.cell (i := 0) rfl
    have p1 := hp0.cell (i := 1) rfl
    have p2 := hp0.cell (i := 2) rfl
    clear hp0 hW
    go_enter Tryz.func118, Tryz.ntmps118
    go_upto_region 1 with fail
    rw [HW.out]
    clear HW
    go_wp2_with fail
    go_ret
    exact ⟨by rw [HER.out]; rfl, HB.out⟩
set_option maxHeartbeats 2000000 in
set_option maxRecDepth 100000 in
theorem refPd_bad (k : Int) (hk : k < 1 ∨ 6 < k) (n v : List UInt8) (w : World) : Calls Tryz.prog 118 #[.agg #[.int .i64 k, .string (bs n), .string (bs v)]] w fun e w' => e = .returned (.int .i64 2) ∧ Below w.heap.size w w' := by
  by_cases h1 : k < 1
  · have hp0 := Held.made w [.int .i64 k, .string (bs n), .string (bs v)] 98
    have HB := Stow.mk (Below.alloc' (Below.self w) (.cells #[.int .i64 k, .string (bs n), .string (bs v)] 98))
    obtain ⟨W, hW⟩ : ∃ W, w.alloc (.cells #[.int .i64 k, .string (bs n), .string (bs v)] 98) = W := ⟨_, rfl⟩
    rw [show w.alloc (.cells [.int .i64 k, .string (bs n), .string (bs v)].toArray 98) = W from hW] at hp0
    rw [hW] at HB
    have HW := Stow.mk hW
    have p0 := hp0.cell (i := 0) rfl
    have p1 := hp0.cell (i := 1) rfl
    have p2 := hp0.cell (i := 2) rfl
    clear hp0 hW
    go_enter Tryz.func118, Tryz.ntmps118
    go_upto_region 1 with fail
    rw [HW.out]
    clear HW
    go_wp2_with fail
    go_ret
    exact ⟨rfl, HB.out⟩
  · have h6 : 6 < k := by omega
    have hp0 := Held.made w [.int .i64 k, .string (bs n), .string (bs v)] 98
    have HB := Stow.mk (Below.alloc' (Below.self w) (.cells #[.int .i64 k, .string (bs n), .string (bs v)] 98))
    obtain ⟨W, hW⟩ : ∃ W, w.alloc (.cells #[.int .i64 k, .string (bs n), .string (bs v)] 98) = W := ⟨_, rfl⟩
    rw [show w.alloc (.cells [.int .i64 k, .string (bs n), .string (bs v)].toArray 98) = W from hW] at hp0
    rw [hW] at HB
    have HW := Stow.mk hW
    have p0 := hp0.cell (i := 0) rfl
    have p1 := hp0.cell (i := 1) rfl
    have p2 := hp0.cell (i := 2) rfl
    clear hp0 hW
    go_enter Tryz.func118, Tryz.ntmps118
    go_upto_region 1 with fail
    rw [HW.out]
    clear HW
    go_wp2_with fail
    go_ret
    exact ⟨rfl, HB.out⟩
theorem refPd_any (p : Pd) (w : World) (hp : p.fits) : Calls Tryz.prog 118 #[.agg p.cells.toArray] w fun e w' => e = .returned (.int .i64 (p.err : Nat)) ∧ Below w.heap.size w w' := by
  obtain ⟨k, n, v⟩ := p
  obtain ⟨hn, hv⟩ := hp
  by_cases hk : k < 1 ∨ 6 < k
  · have he : (Pd.mk k n v).err = 2 := by unfold Pd.err; rw [if_pos hk]
    rw [he]
    exact refPd_bad k hk n v w
  · obtain rfl | rfl | rfl | rfl | rfl | rfl : k = 1 ∨ k = 2 ∨ k = 3 ∨ k = 4 ∨ k = 5 ∨ k = 6 := by omega
    · exact refPd_1 n v w hn hv
    · exact refPd_2 n v w hn hv
    · exact refPd_3 n v w hn hv
    · exact refPd_4 n v w hn hv
    · exact refPd_5 n v w hn hv
    · exact refPd_6 n v w hn hv
end Go.Proofs.YtfbhdkkmcfnghaaGreatDoor
end

section
namespace Go.Proofs.YtfbhdkkmcfnghaaGreatDoor
open Go.RowKit
set_option linter.unusedVariables false
set_option linter.unusedSimpArgs false

set_option maxHeartbeats 400000 in
set_option maxRecDepth 100000 in
theorem refFormat_any (l : List UInt8) (w : World) (hl : l.length ≤ 9223372036854775807) :
    Calls Tryz.prog 64 #[.string (bs l)] w fun e w' => e = .returned (.bool (Cf.fmtOk l)) ∧ w' = w := by
  by_cases h120 : 120 < l.length
  · have h120i : (120 : Int) < l.length := by omega
    have HE : Stow (Cf.fmtOk l = false) := ⟨by unfold Cf.fmtOk; simp; intro _; omega⟩
    go_enter Tryz.func64, Tryz.ntmps64
    go_wp2_with fail
    go_ret
    exact ⟨by rw [HE.out]; rfl, rfl⟩
  have h120i : ¬ (120 : Int) < l.length := by omega
  go_enter Tryz.func64, Tryz.ntmps64
  go_wp2_with fail
  go_loop [3] (fun v => ∃ i : Nat, v = .int .i64 (i : Int) ∧ i ≤ l.length ∧ Stow ((l.take i).all (fun b => decide (32 ≤ b.toNat) && decide (b.toNat ≤ 126)) = true)) (fun v => l.length - (intOf v).toNat)
  case atStart => exact ⟨0, rfl, by omega, ⟨rfl⟩⟩
  case round =>
    obtain ⟨i, rfl, hi', HA⟩ := hrel
    by_cases hlt : i < l.length
    · have hlb : i < (bs l).size := hlt
      obtain ⟨u, hu⟩ : ∃ u, (l[i]'hlb).toNat = u := ⟨_, rfl⟩
      have HU : Stow ((l[i]'hlt).toNat = u) := ⟨hu⟩
      by_cases h2 : 32 ≤ u
      all_goals by_cases h3 : u ≤ 126
      all_goals try (have d1 : decide (u < 32) = false := by simp; omega)
      all_goals try (have d1 : decide (u < 32) = true := by simp; omega)
      all_goals try (have d2 : decide (126 < u) = false := by simp; omega)
      all_goals try (have d2 : decide (126 < u) = true := by simp; omega)
      all_goals go_wp2_with fail
      all_goals first
        | exact ⟨⟨i + 1, rfl, by omega, ⟨all_take_succ hlt HA.out (each_byte HU.out (by omega) (by omega))⟩⟩, by simp [intOf]; omega⟩
        | (go_ret
           exact ⟨by unfold Cf.fmtOk Ms.eachB; rw [all_false_of hlt (each_byte_no HU.out (by omega))]; rfl, rfl⟩)
    · obtain rfl : i = l.length := by omega
      have HE : Stow (Cf.fmtOk l = true) := ⟨by
        have h := HA.out
        rw [List.take_length] at h
        unfold Cf.fmtOk Ms.eachB
        rw [h]
        simp
        omega⟩
      go_wp2_with fail
      go_ret
      exact ⟨by rw [HE.out]; rfl, rfl⟩
set_option maxHeartbeats 4000000 in
set_option maxRecDepth 100000 in
theorem refOne_any (m : Rm) (w : World) (h : RmR w m) : Calls Tryz.prog 65 #[.agg m.cells.toArray] w fun e w' => e = .returned (.int .i64 (Cf.one m.r : Nat)) ∧ Below w.heap.size w w' := by
  obtain ⟨⟨rank, ps, tg, ap, st, dp, dt, mp, mi, sm⟩, A, cap⟩ := m
  have HM := Stow.mk h
  obtain ⟨n, hn⟩ : ∃ n, ps.length = n := ⟨_, rfl⟩
  have HNL := Stow.mk hn
  have hnl : n ≤ 9223372036854775807 := by have := SlR.len h.row; rw [List.length_map] at this; simp only at this; omega
  clear h
  unfold Rm.cells
  simp only
  rw [hn]
  by_cases h4 : 4 < n
  · have h4i : (4 : Int) < n := by omega
    have HE := Stow.mk (Cf.one_full (r := ⟨rank, ps, tg, ap, st, dp, dt, mp, mi, sm⟩) (by simp only; omega))
    clear hn
    have hp0 := Held.made w [.int .i64 rank, .slice A n cap, .string (bs tg), .int .i64 ap, .int .i64 st, .int .i64 dp, .int .i64 dt, .int .i64 mp, .string (bs mi), .int .i64 sm] 95
    have HB := Stow.mk (Below.alloc' (Below.self w) (.cells #[.int .i64 rank, .slice A n cap, .string (bs tg), .int .i64 ap, .int .i64 st, .int .i64 dp, .int .i64 dt, .int .i64 mp, .string (bs mi), .int .i64 sm] 95))
    obtain ⟨W, hW⟩ : ∃ W, w.alloc (.cells #[.int .i64 rank, .slice A n cap, .string (bs tg), .int .i64 ap, .int .i64 st, .int .i64 dp, .int .i64 dt, .int .i64 mp, .string (bs mi), .int .i64 sm] 95) = W := ⟨_, rfl⟩
    rw [show w.alloc (.cells [.int .i64 rank, .slice A n cap, .string (bs tg), .int .i64 ap, .int .i64 st, .int .i64 dp, .int .i64 dt, .int .i64 mp, .string (bs mi), .int .i64 sm].toArray 95) = W from hW] at hp0
    rw [hW] at HB
    have HW := Stow.mk hW
    have HP := Stow.mk hp0
    clear hp0 hW
    go_enter Tryz.func65, Tryz.ntmps65
    go_upto_region 1 with fail
    rw [HW.out]
    clear HW
    have p0 := HP.out.cell (i := 0) rfl
    have p1 := HP.out.cell (i := 1) rfl
    have p2 := HP.out.cell (i := 2) rfl
    have p3 := HP.out.cell (i := 3) rfl
    have p4 := HP.out.cell (i := 4) rfl
    have p5 := HP.out.cell (i := 5) rfl
    have p6 := HP.out.cell (i := 6) rfl
    have p7 := HP.out.cell (i := 7) rfl
    have p8 := HP.out.cell (i := 8) rfl
    have p9 := HP.out.cell (i := 9) rfl
    go_wp2_with fail
    go_ret
    exact ⟨by rw [HE.out]; rfl, HB.out⟩
  have h4i : ¬ (4 : Int) < n := by omega
  have hle4 : n ≤ 4 := by omega
  clear hn
  have hp0 := Held.made w [.int .i64 rank, .slice A n cap, .string (bs tg), .int .i64 ap, .int .i64 st, .int .i64 dp, .int .i64 dt, .int .i64 mp, .string (bs mi), .int .i64 sm] 95
  have HB := Stow.mk (Below.alloc' (Below.self w) (.cells #[.int .i64 rank, .slice A n cap, .string (bs tg), .int .i64 ap, .int .i64 st, .int .i64 dp, .int .i64 dt, .int .i64 mp, .string (bs mi), .int .i64 sm] 95))
  obtain ⟨W, hW⟩ : ∃ W, w.alloc (.cells #[.int .i64 rank, .slice A n cap, .string (bs tg), .int .i64 ap, .int .i64 st, .int .i64 dp, .int .i64 dt, .int .i64 mp, .string (bs mi), .int .i64 sm] 95) = W := ⟨_, rfl⟩
  rw [show w.alloc (.cells [.int .i64 rank, .slice A n cap, .string (bs tg), .int .i64 ap, .int .i64 st, .int .i64 dp, .int .i64 dt, .int .i64 mp, .string (bs mi), .int .i64 sm].toArray 95) = W from hW] at hp0
  rw [hW] at HB
  have HW := Stow.mk hW
  have HP := Stow.mk hp0
  clear hp0 hW
  go_enter Tryz.func65, Tryz.ntmps65
  go_upto_region 1 with fail
  rw [HW.out]
  clear HW
  have p0 := HP.out.cell (i := 0) rfl
  have p1 := HP.out.cell (i := 1) rfl
  have p2 := HP.out.cell (i := 2) rfl
  have p3 := HP.out.cell (i := 3) rfl
  have p4 := HP.out.cell (i := 4) rfl
  have p5 := HP.out.cell (i := 5) rfl
  have p6 := HP.out.cell (i := 6) rfl
  have p7 := HP.out.cell (i := 7) rfl
  have p8 := HP.out.cell (i := 8) rfl
  have p9 := HP.out.cell (i := 9) rfl
  go_wp2_with fail
  clear p0 p1 p2 p3 p4 p5 p6 p7 p8 p9
  go_loopw [3, 4] (fun u _ wr => ∃ i : Nat, u = .int .i64 (i : Int) ∧ i ≤ n ∧ Stow (∀ j (hj : j < ps.length), j < i → ps[j].err = 0) ∧ Stow (Below W.heap.size W wr)) (fun u _ _ => n - (intOf u).toNat)
  case atStart => exact ⟨0, rfl, by omega, ⟨fun j hj h => by omega⟩, ⟨Below.self _⟩⟩
  case round =>
    obtain ⟨i, rfl, hi, HZ, HBR⟩ := hrel
    by_cases hlt : i < n
    · have hlt' : i < ps.length := by rw [HNL.out]; exact hlt
      obtain ⟨b, off, rfl, hblt, _⟩ := SlR.open HM.out.row (by simp; omega)
      obtain ⟨q0, q1, q2⟩ := pd_at (SlR.keep HM.out.row (HB.out.trans (HBR.out.mono HB.out.size))) hlt'
      have hf := HM.out.fits _ (List.getElem_mem hlt')
      obtain ⟨p, hp⟩ : ∃ p, ps[i] = p := ⟨_, rfl⟩
      have HPI := Stow.mk hp
      rw [hp] at q0 q1 q2 hf
      obtain ⟨k, pn, pv⟩ := p
      have HBX := Stow.mk (Below.self wr)
      have p1 := (HP.out.kept HBR.out).cell (i := 1) rfl
      have HCK := Stow.mk (refPd_any ⟨k, pn, pv⟩ wr hf)
      obtain ⟨er, her⟩ : ∃ e, (Pd.mk k pn pv).err = e := ⟨_, rfl⟩
      rw [her] at HCK
      unfold Pd.cells at HCK
      have HER := Stow.mk her
      have hii : (i : Int) < n := by omega
      have hi0 : (0 : Int) ≤ i := by omega
      simp only at q0 q1 q2
      clear hp her hf
      by_cases h0 : er = 0
      · subst h0
        go_wp2_with fail
        refine HCK.out.mono ?_
        rintro e w1 ⟨rfl, hb1⟩
        have HB1 := Stow.mk (HBR.out.trans ((HBX.out.trans (hb1.mono HBX.out.size)).mono HBR.out.size))
        clear hb1 q0 q1 q2
        go_wp2_with fail
        refine ⟨⟨i + 1, by simp, by omega, ⟨fun j hj hji => ?_⟩, HB1⟩, by simp [intOf]; omega⟩
        by_cases hjl : j < i
        · exact HZ.out j hj hjl
        · obtain rfl : j = i := by omega
          rw [HPI.out, HER.out]
      · have hne : ((er : Int) == 0) = false := by simp; omega
        have HE : Stow (Cf.one ⟨rank, ps, tg, ap, st, dp, dt, mp, mi, sm⟩ = er) := ⟨by
          have h1 : Cf.firstErr Pd.err ps = er := by
            have := Cf.firstErr_at (e := Pd.err) hlt' (fun j hj => HZ.out j (by omega) hj) (by rw [HPI.out, HER.out]; exact h0)
            rw [this, HPI.out, HER.out]
          rw [Cf.one_pd (by simp only; have := HNL.out; omega) (by simp only; rw [h1]; exact h0)]
          exact h1⟩
        have hnz : ¬ (er : Int) = 0 := by omega
        go_wp2_with fail
        refine HCK.out.mono ?_
        rintro e w1 ⟨rfl, hb1⟩
        have HB1 := Stow.mk (HB.out.trans ((HBR.out.trans ((HBX.out.trans (hb1.mono HBX.out.size)).mono HBR.out.size)).mono HB.out.size))
        clear hb1 q0 q1 q2
        go_wp2_with fail
        go_ret
        exact ⟨by rw [HE.out]; rfl, HB1.out⟩
    · obtain rfl : i = n := by omega
      have HF : Stow (Cf.firstErr Pd.err ps = 0) := ⟨Cf.firstErr_none (fun j hj => HZ.out j hj (by rw [← HNL.out]; exact hj))⟩
      have hii : ¬ (i : Int) < i := by omega
      have HP := Stow.mk (HP.out.kept HBR.out)
      have HN1 := Stow.mk (refName_any tg wr (by have := HM.out.tg; simp only at this; omega))
      have HN2 := Stow.mk (refName_any mi wr (by have := HM.out.mi; simp only at this; omega))
      have HBZ := Stow.mk (HB.out.trans (HBR.out.mono HB.out.size))
      have h4n : ¬ 4 < ps.length := by rw [HNL.out]; omega
      have HG4 := Stow.mk h4n
      clear h4n
      cases ht : nameOk tg with
      | false =>
        have HE := Stow.mk (Cf.one_names (r := ⟨rank, ps, tg, ap, st, dp, dt, mp, mi, sm⟩) HG4.out HF.out (by unfold Cf.namesOk; simp [ht]))
        rw [ht] at HN1
        clear ht
        have p0 := HP.out.cell (i := 0) rfl
        have p1 := HP.out.cell (i := 1) rfl
        have p2 := HP.out.cell (i := 2) rfl
        have p3 := HP.out.cell (i := 3) rfl
        have p4 := HP.out.cell (i := 4) rfl
        have p5 := HP.out.cell (i := 5) rfl
        have p6 := HP.out.cell (i := 6) rfl
        have p7 := HP.out.cell (i := 7) rfl
        have p8 := HP.out.cell (i := 8) rfl
        have p9 := HP.out.cell (i := 9) rfl
        go_wp2_with fail
        refine HN1.out.mono ?_
        rintro e w1 ⟨rfl, rfl⟩
        go_wp2_with fail
        go_ret
        exact ⟨by rw [HE.out]; rfl, HBZ.out⟩
      | true =>
        rw [ht] at HN1
        rcases mi with _ | ⟨c0, m0⟩
        · by_cases hmp : mp = 0
          · subst hmp
            have HE := Stow.mk (Cf.one_nums (r := ⟨rank, ps, tg, ap, st, dp, dt, 0, [], sm⟩) HG4.out HF.out (by unfold Cf.namesOk; simp [ht]))
            clear ht
            have p0 := HP.out.cell (i := 0) rfl
            have p1 := HP.out.cell (i := 1) rfl
            have p2 := HP.out.cell (i := 2) rfl
            have p3 := HP.out.cell (i := 3) rfl
            have p4 := HP.out.cell (i := 4) rfl
            have p5 := HP.out.cell (i := 5) rfl
            have p6 := HP.out.cell (i := 6) rfl
            have p7 := HP.out.cell (i := 7) rfl
            have p8 := HP.out.cell (i := 8) rfl
            have p9 := HP.out.cell (i := 9) rfl
            go_wp2_with fail
            refine HN1.out.mono ?_
            rintro e w1 ⟨rfl, rfl⟩
            have HV := Stow.mk (Held.made w1 ((Cf.nums ⟨rank, ps, tg, ap, st, dp, dt, 0, [], sm⟩).map fun n => Value.int .i64 n) 3)
            have HB2 := Stow.mk (HBZ.out.trans ((Below.alloc' (Below.self w1) (.cells ((Cf.nums ⟨rank, ps, tg, ap, st, dp, dt, 0, [], sm⟩).map fun n => Value.int .i64 n).toArray 3)).mono HBZ.out.size))
            go_upto_region 12 with fail
            generalize hX : World.alloc w1 _ = X
            rw [show w1.alloc (.cells ((Cf.nums ⟨rank, ps, tg, ap, st, dp, dt, 0, [], sm⟩).map fun n => Value.int .i64 n).toArray 3) = X from hX] at HV HB2
            obtain ⟨V, hV⟩ : ∃ V, Cf.nums ⟨rank, ps, tg, ap, st, dp, dt, 0, [], sm⟩ = V := ⟨_, rfl⟩
            have hVL : V.length = 7 := by rw [← hV]; rfl
            rw [hV] at HV HE
            have HVL := Stow.mk hVL
            clear hX hV hVL p0 p1 p2 p3 p4 p5 p6 p7 p8 p9
            go_loop [6, 68] (fun _ u => ∃ j : Nat, u = .int .i64 (j : Int) ∧ j ≤ 7 ∧ Stow (∀ k (hk : k < V.length), k < j → Cf.inR V[k] = true)) (fun _ u => 7 - (intOf u).toNat)
            case atStart => exact ⟨0, rfl, by omega, ⟨fun k hk h => by omega⟩⟩
            case round =>
              obtain ⟨j, rfl, hj, HIN⟩ := hrel
              by_cases hlt : j < 7
              · have hlt' : j < V.length := by rw [HVL.out]; exact hlt
                have q := HV.out.cell (i := j) (v := .int .i64 V[j]) (by simp [hlt'])
                obtain ⟨x, hx⟩ : ∃ x, V[j] = x := ⟨_, rfl⟩
                have HX := Stow.mk hx
                rw [hx] at q
                have hjj : (j : Int) < 7 := by omega
                have hj0 : (0 : Int) ≤ j := by omega
                clear hx
                by_cases hx0 : x < 0
                · have HBAD : Stow (Cf.one ⟨rank, ps, tg, ap, st, dp, dt, 0, [], sm⟩ = 12) := ⟨by
                    rw [HE.out, if_neg]
                    rw [Cf.all_bad hlt' (by rw [HX.out]; simp [Cf.inR]; omega)]
                    exact id⟩
                  go_wp2_with fail
                  go_ret
                  exact ⟨by rw [HBAD.out]; rfl, HB2.out⟩
                · by_cases hx1 : 999999 < x
                  · have HBAD : Stow (Cf.one ⟨rank, ps, tg, ap, st, dp, dt, 0, [], sm⟩ = 12) := ⟨by
                      rw [HE.out, if_neg]
                      rw [Cf.all_bad hlt' (by rw [HX.out]; simp [Cf.inR]; omega)]
                      exact id⟩
                    go_wp2_with fail
                    go_ret
                    exact ⟨by rw [HBAD.out]; rfl, HB2.out⟩
                  · go_wp2_with fail
                    refine ⟨⟨j + 1, by simp, by omega, ⟨fun k hk hkj => ?_⟩⟩, by simp [intOf]; omega⟩
                    by_cases hkl : k < j
                    · exact HIN.out k hk hkl
                    · obtain rfl : k = j := by omega
                      rw [HX.out]
                      simp [Cf.inR]
                      omega
              · obtain rfl : j = 7 := by omega
                have HGOOD : Stow (Cf.one ⟨rank, ps, tg, ap, st, dp, dt, 0, [], sm⟩ = 0) := ⟨by
                  rw [HE.out, if_pos]
                  exact Cf.all_good (fun k hk => HIN.out k hk (by rw [← HVL.out]; exact hk))⟩
                go_wp2_with fail
                go_ret
                exact ⟨by rw [HGOOD.out]; rfl, HB2.out⟩
          · have HE := Stow.mk (Cf.one_names (r := ⟨rank, ps, tg, ap, st, dp, dt, mp, [], sm⟩) HG4.out HF.out (by unfold Cf.namesOk; simp [ht, hmp]))
            clear ht
            have p0 := HP.out.cell (i := 0) rfl
            have p1 := HP.out.cell (i := 1) rfl
            have p2 := HP.out.cell (i := 2) rfl
            have p3 := HP.out.cell (i := 3) rfl
            have p4 := HP.out.cell (i := 4) rfl
            have p5 := HP.out.cell (i := 5) rfl
            have p6 := HP.out.cell (i := 6) rfl
            have p7 := HP.out.cell (i := 7) rfl
            have p8 := HP.out.cell (i := 8) rfl
            have p9 := HP.out.cell (i := 9) rfl
            go_wp2_with fail
            refine HN1.out.mono ?_
            rintro e w1 ⟨rfl, rfl⟩
            go_wp2_with fail
            go_ret
            exact ⟨by rw [HE.out]; rfl, HBZ.out⟩
        · cases hm : nameOk (c0 :: m0) with
          | false =>
            have HE := Stow.mk (Cf.one_names (r := ⟨rank, ps, tg, ap, st, dp, dt, mp, c0 :: m0, sm⟩) HG4.out HF.out (by unfold Cf.namesOk; simp [ht, hm]))
            rw [hm] at HN2
            clear ht hm
            have p0 := HP.out.cell (i := 0) rfl
            have p1 := HP.out.cell (i := 1) rfl
            have p2 := HP.out.cell (i := 2) rfl
            have p3 := HP.out.cell (i := 3) rfl
            have p4 := HP.out.cell (i := 4) rfl
            have p5 := HP.out.cell (i := 5) rfl
            have p6 := HP.out.cell (i := 6) rfl
            have p7 := HP.out.cell (i := 7) rfl
            have p8 := HP.out.cell (i := 8) rfl
            have p9 := HP.out.cell (i := 9) rfl
            go_wp2_with fail
            refine HN1.out.mono ?_
            rintro e w1 ⟨rfl, rfl⟩
            go_wp2_with fail
            refine HN2.out.mono ?_
            rintro e w1 ⟨rfl, rfl⟩
            go_wp2_with fail
            go_ret
            exact ⟨by rw [HE.out]; rfl, HBZ.out⟩
          | true =>
            have HE := Stow.mk (Cf.one_nums (r := ⟨rank, ps, tg, ap, st, dp, dt, mp, c0 :: m0, sm⟩) HG4.out HF.out (by unfold Cf.namesOk; simp [ht, hm]))
            rw [hm] at HN2
            clear ht hm
            have p0 := HP.out.cell (i := 0) rfl
            have p1 := HP.out.cell (i := 1) rfl
            have p2 := HP.out.cell (i := 2) rfl
            have p3 := HP.out.cell (i := 3) rfl
            have p4 := HP.out.cell (i := 4) rfl
            have p5 := HP.out.cell (i := 5) rfl
            have p6 := HP.out.cell (i := 6) rfl
            have p7 := HP.out.cell (i := 7) rfl
            have p8 := HP.out.cell (i := 8) rfl
            have p9 := HP.out.cell (i := 9) rfl
            go_wp2_with fail
            refine HN1.out.mono ?_
            rintro e w1 ⟨rfl, rfl⟩
            go_wp2_with fail
            refine HN2.out.mono ?_
            rintro e w1 ⟨rfl, rfl⟩
            have HV := Stow.mk (Held.made w1 ((Cf.nums ⟨rank, ps, tg, ap, st, dp, dt, mp, c0 :: m0, sm⟩).map fun n => Value.int .i64 n) 3)
            have HB2 := Stow.mk (HBZ.out.trans ((Below.alloc' (Below.self w1) (.cells ((Cf.nums ⟨rank, ps, tg, ap, st, dp, dt, mp, c0 :: m0, sm⟩).map fun n => Value.int .i64 n).toArray 3)).mono HBZ.out.size))
            go_upto_region 12 with fail
            generalize hX : World.alloc w1 _ = X
            rw [show w1.alloc (.cells ((Cf.nums ⟨rank, ps, tg, ap, st, dp, dt, mp, c0 :: m0, sm⟩).map fun n => Value.int .i64 n).toArray 3) = X from hX] at HV HB2
            obtain ⟨V, hV⟩ : ∃ V, Cf.nums ⟨rank, ps, tg, ap, st, dp, dt, mp, c0 :: m0, sm⟩ = V := ⟨_, rfl⟩
            have hVL : V.length = 7 := by rw [← hV]; rfl
            rw [hV] at HV HE
            have HVL := Stow.mk hVL
            clear hX hV hVL p0 p1 p2 p3 p4 p5 p6 p7 p8 p9
            go_loop [6, 68] (fun _ u => ∃ j : Nat, u = .int .i64 (j : Int) ∧ j ≤ 7 ∧ Stow (∀ k (hk : k < V.length), k < j → Cf.inR V[k] = true)) (fun _ u => 7 - (intOf u).toNat)
            case atStart => exact ⟨0, rfl, by omega, ⟨fun k hk h => by omega⟩⟩
            case round =>
              obtain ⟨j, rfl, hj, HIN⟩ := hrel
              by_cases hlt : j < 7
              · have hlt' : j < V.length := by rw [HVL.out]; exact hlt
                have q := HV.out.cell (i := j) (v := .int .i64 V[j]) (by simp [hlt'])
                obtain ⟨x, hx⟩ : ∃ x, V[j] = x := ⟨_, rfl⟩
                have HX := Stow.mk hx
                rw [hx] at q
                have hjj : (j : Int) < 7 := by omega
                have hj0 : (0 : Int) ≤ j := by omega
                clear hx
                by_cases hx0 : x < 0
                · have HBAD : Stow (Cf.one ⟨rank, ps, tg, ap, st, dp, dt, mp, c0 :: m0, sm⟩ = 12) := ⟨by
                    rw [HE.out, if_neg]
                    rw [Cf.all_bad hlt' (by rw [HX.out]; simp [Cf.inR]; omega)]
                    exact id⟩
                  go_wp2_with fail
                  go_ret
                  exact ⟨by rw [HBAD.out]; rfl, HB2.out⟩
                · by_cases hx1 : 999999 < x
                  · have HBAD : Stow (Cf.one ⟨rank, ps, tg, ap, st, dp, dt, mp, c0 :: m0, sm⟩ = 12) := ⟨by
                      rw [HE.out, if_neg]
                      rw [Cf.all_bad hlt' (by rw [HX.out]; simp [Cf.inR]; omega)]
                      exact id⟩
                    go_wp2_with fail
                    go_ret
                    exact ⟨by rw [HBAD.out]; rfl, HB2.out⟩
                  · go_wp2_with fail
                    refine ⟨⟨j + 1, by simp, by omega, ⟨fun k hk hkj => ?_⟩⟩, by simp [intOf]; omega⟩
                    by_cases hkl : k < j
                    · exact HIN.out k hk hkl
                    · obtain rfl : k = j := by omega
                      rw [HX.out]
                      simp [Cf.inR]
                      omega
              · obtain rfl : j = 7 := by omega
                have HGOOD : Stow (Cf.one ⟨rank, ps, tg, ap, st, dp, dt, mp, c0 :: m0, sm⟩ = 0) := ⟨by
                  rw [HE.out, if_pos]
                  exact Cf.all_good (fun k hk => HIN.out k hk (by rw [← HVL.out]; exact hk))⟩
                go_wp2_with fail
                go_ret
                exact ⟨by rw [HGOOD.out]; rfl, HB2.out⟩
end Go.Proofs.YtfbhdkkmcfnghaaGreatDoor
end

section
namespace Go.Proofs.YtfbhdkkmcfnghaaGreatDoor
open Go.RowKit
set_option linter.unusedVariables false
set_option linter.unusedSimpArgs false

theorem Ct.any_not {L : List Int} : (!(L.any fun n => !Ct.inR n 0 100)) = L.all fun n => Ct.inR n 0 100 := by
  induction L with
  | nil => rfl
  | cons x t ih => simp only [List.any_cons, List.all_cons, Bool.not_or, Bool.not_not, ih]
set_option maxHeartbeats 1000000 in
set_option maxRecDepth 100000 in
theorem partsFn_any (n : Int) (w : World) : Calls Tryz.prog 203 #[.int .i64 n] w fun e w' => e = .returned (.bool (!Ct.inR n 0 100)) ∧ w' = w := by
  have HW := Stow.mk (within_any n 0 100 w)
  obtain ⟨b, hb⟩ : ∃ b, Ct.inR n 0 100 = b := ⟨_, rfl⟩
  rw [hb] at HW ⊢
  clear hb
  go_enter Tryz.func203, Tryz.ntmps203
  go_wp2_with fail
  refine HW.out.mono ?_
  rintro e w1 ⟨rfl, rfl⟩
  go_wp2_with fail
  go_ret
  exact ⟨rfl, rfl⟩
set_option maxHeartbeats 1000000 in
set_option maxRecDepth 100000 in
theorem partsIdx_any (A : Option Addr) (cap : Nat) (L : List Int) (w : World) (hS : SlR w 1 (.slice A L.length cap) (L.map fun n => [Value.int .i64 n])) :
    Calls Tryz.prog 233 #[.slice A L.length cap, .func (.func 203) #[] #[]] w fun e w' => ∃ i : Int, e = .returned (.int .i64 i) ∧ (decide (0 ≤ i) = L.any fun n => !Ct.inR n 0 100) ∧ w' = w := by
  have HS := Stow.mk hS
  have hlen := hS.len
  simp only [List.length_map] at hlen
  obtain ⟨n, hn⟩ : ∃ n, L.length = n := ⟨_, rfl⟩
  have HNL := Stow.mk hn
  rw [hn] at hlen ⊢
  have HF := Stow.mk (fun (x : Int) => partsFn_any x w)
  clear hS hn
  go_enter Tryz.func233, Tryz.ntmps233
  go_wp2_with fail
  go_loop [5, 8] (fun _ u => ∃ j : Nat, u = .int .i64 (j : Int) ∧ j ≤ n ∧ Stow (∀ x ∈ L.take j, Ct.inR x 0 100 = true)) (fun _ u => n - (intOf u).toNat)
  case atStart => exact ⟨0, rfl, by omega, ⟨by simp⟩⟩
  case round =>
    obtain ⟨j, rfl, hj, HJ⟩ := hrel
    by_cases hlt : j < n
    · have hl1 : j < L.length := by rw [HNL.out]; exact hlt
      obtain ⟨b, off, rfl, hblt, _⟩ := HS.out.open (by simp; omega)
      obtain ⟨_, hc⟩ := HS.out.cells (i := j) (x := [Value.int .i64 L[j]]) (by rw [List.getElem?_map, List.getElem?_eq_getElem hl1]; rfl)
      have q0 := hc 0 _ rfl
      simp only [Nat.mul_one, Nat.add_zero] at q0
      obtain ⟨s, hs⟩ : ∃ s, L[j] = s := ⟨_, rfl⟩
      have HSJ := Stow.mk hs
      rw [hs] at q0
      have HX := Stow.mk (HF.out s)
      have hji : (j : Int) < n := by omega
      have hj0 : (0 : Int) ≤ j := by omega
      obtain ⟨c, hcc⟩ : ∃ c, Ct.inR s 0 100 = c := ⟨_, rfl⟩
      rw [hcc] at HX
      have HC := Stow.mk hcc
      clear hc hs hcc
      go_wp2_with fail
      refine HX.out.mono ?_
      rintro e w1 ⟨rfl, rfl⟩
      cases c with
      | true =>
        go_wp2_with fail
        refine ⟨⟨j + 1, by simp, by omega, ⟨fun x hx => ?_⟩⟩, by simp [intOf]; omega⟩
        rw [List.take_succ_eq_append_getElem hl1] at hx
        rcases List.mem_append.1 hx with hx | hx
        · exact HJ.out x hx
        · simp only [List.mem_singleton] at hx
          rw [hx, HSJ.out, HC.out]
      | false =>
        go_wp2_with fail
        go_ret
        refine ⟨(j : Int), rfl, ?_, rfl⟩
        have : (L.any fun n => !Ct.inR n 0 100) = true := List.any_eq_true.2 ⟨L[j], List.getElem_mem hl1, by rw [HSJ.out, HC.out]; rfl⟩
        rw [this]
        simp
    · obtain rfl : j = n := by omega
      have hji : ¬ (j : Int) < j := by omega
      go_wp2_with fail
      go_ret
      refine ⟨-1, rfl, ?_, rfl⟩
      have : (L.any fun n => !Ct.inR n 0 100) = false := by
        rw [List.any_eq_false]
        intro x hx
        rw [HJ.out x (by rw [← HNL.out, List.take_length]; exact hx)]
        simp
      rw [this]
      simp
set_option maxHeartbeats 1000000 in
set_option maxRecDepth 100000 in
theorem parts_any (A : Option Addr) (cap : Nat) (L : List Int) (w : World) (hS : SlR w 1 (.slice A L.length cap) (L.map fun n => [Value.int .i64 n])) :
    Calls Tryz.prog 178 #[.slice A L.length cap] w fun e w' => e = .returned (.bool (L.all fun n => Ct.inR n 0 100)) ∧ w' = w := by
  have HI := Stow.mk (partsIdx_any A cap L w hS)
  rw [← Ct.any_not]
  obtain ⟨b, hb⟩ : ∃ b, (L.any fun n => !Ct.inR n 0 100) = b := ⟨_, rfl⟩
  rw [hb] at HI ⊢
  have HC : Stow (Calls Tryz.prog 202 #[.slice A L.length cap, .func (.func 203) #[] #[]] w fun e w' => e = .returned (.bool b) ∧ w' = w) := ⟨by
    clear hS hb
    go_enter Tryz.func202, Tryz.ntmps202
    go_wp2_with fail
    refine HI.out.mono ?_
    rintro e w1 ⟨i, rfl, hi, rfl⟩
    cases b with
    | true =>
      have hi2 : (0 : Int) ≤ i := by simpa using hi
      clear hi
      go_wp2_with fail
      go_ret
      exact ⟨by simp [hi2], rfl⟩
    | false =>
      have hi2 : ¬ (0 : Int) ≤ i := by simpa using hi
      clear hi
      go_wp2_with fail
      go_ret
      exact ⟨by simp [hi2], rfl⟩⟩
  clear hS hb HI
  go_enter Tryz.func178, Tryz.ntmps178
  go_wp2_with fail
  refine HC.out.mono ?_
  rintro e w1 ⟨rfl, rfl⟩
  go_wp2_with fail
  go_ret
  exact ⟨rfl, rfl⟩
set_option maxHeartbeats 1000000 in
set_option maxRecDepth 100000 in
theorem knownFn_any (N : List (List UInt8)) (NA : Option Addr) (nc g : Nat) (x : List UInt8) (w : World) (hH : Held w g [.slice NA N.length nc]) (hS : SlR w 1 (.slice NA N.length nc) (strs N)) :
    Calls Tryz.prog 177 #[.string (bs x), .pointer (some ⟨g, 0, none⟩)] w fun e w' => e = .returned (.bool (decide (x ∈ N))) ∧ w' = w := by
  have HC := Stow.mk (strContains_any N x NA nc w hS)
  have q := hH.cell (i := 0) rfl
  obtain ⟨b, hb⟩ : ∃ b, decide (x ∈ N) = b := ⟨_, rfl⟩
  rw [hb] at HC ⊢
  clear hb hH hS
  go_enter Tryz.func177, Tryz.ntmps177
  go_wp2_with fail
  refine HC.out.mono ?_
  rintro e w1 ⟨rfl, rfl⟩
  go_wp2_with fail
  go_ret
  exact ⟨rfl, rfl⟩
namespace Ct
theorem rc1 {N : List (List UInt8)} {r : Ru} (h : inR r.rank 0 99 = false) : rcheck N r = 12 := by unfold rcheck; rw [if_pos h]
theorem rc2 {N : List (List UInt8)} {r : Ru} (h : inR r.rank 0 99 = true) (h2 : 4 < r.ps.length) : rcheck N r = 8 := by unfold rcheck; rw [if_neg (by simp [h]), if_pos h2]
theorem rc3 {N : List (List UInt8)} {r : Ru} (h : inR r.rank 0 99 = true) (h2 : ¬ 4 < r.ps.length) (h3 : Cf.firstErr Pd.err r.ps ≠ 0) : rcheck N r = Cf.firstErr Pd.err r.ps := by unfold rcheck; rw [if_neg (by simp [h]), if_neg h2, if_pos h3]
/-- Rank and predicates may be. -/
def Pre (r : Ru) : Prop := inR r.rank 0 99 = true ∧ ¬ 4 < r.ps.length ∧ Cf.firstErr Pd.err r.ps = 0
theorem rc4 {N : List (List UInt8)} {r : Ru} (h : Pre r) (h4 : r.tg ∉ N ∨ (r.mi ≠ [] ∧ r.mi ∉ N)) : rcheck N r = 7 := by unfold rcheck; rw [if_neg (by simp [h.1]), if_neg h.2.1, if_neg (by simp [h.2.2]), if_pos h4]
theorem rc5 {N : List (List UInt8)} {r : Ru} (h : Pre r) (h4 : ¬ (r.tg ∉ N ∨ (r.mi ≠ [] ∧ r.mi ∉ N))) (h5 : ([r.ap, r.dp, r.mp, r.sm].all fun n => inR n 0 100) = false) : rcheck N r = 12 := by unfold rcheck; rw [if_neg (by simp [h.1]), if_neg h.2.1, if_neg (by simp [h.2.2]), if_neg h4, if_pos h5]
theorem rc6 {N : List (List UInt8)} {r : Ru} (h : Pre r) (h4 : ¬ (r.tg ∉ N ∨ (r.mi ≠ [] ∧ r.mi ∉ N))) (h5 : ([r.ap, r.dp, r.mp, r.sm].all fun n => inR n 0 100) = true) (h6 : sized r.st 400 599 r.ap = false ∨ sized r.dt 1 50 r.dp = false) : rcheck N r = 12 := by unfold rcheck; rw [if_neg (by simp [h.1]), if_neg h.2.1, if_neg (by simp [h.2.2]), if_neg h4, if_neg (by simp only [h5]; simp), if_pos h6]
theorem rc7 {N : List (List UInt8)} {r : Ru} (h : Pre r) (h4 : ¬ (r.tg ∉ N ∨ (r.mi ≠ [] ∧ r.mi ∉ N))) (h5 : ([r.ap, r.dp, r.mp, r.sm].all fun n => inR n 0 100) = true) (h6 : ¬ (sized r.st 400 599 r.ap = false ∨ sized r.dt 1 50 r.dp = false)) : rcheck N r = if 0 < r.mp ∧ r.mi = [] then 9 else 0 := by unfold rcheck; rw [if_neg (by simp [h.1]), if_neg h.2.1, if_neg (by simp [h.2.2]), if_neg h4, if_neg (by simp only [h5]; simp), if_neg h6]
end Ct
/-- Numbers in a block, read as a slice. -/
theorem slr_nums {w : World} {g : Nat} {L : List Int} (h : Held w g (L.map fun n => Value.int .i64 n)) (hl : L.length ≤ 1000) : SlR w 1 (.slice (some ⟨g, 0, none⟩) L.length L.length) (L.map fun n => [Value.int .i64 n]) := by
  refine ⟨_, _, by rw [List.length_map], by rw [List.length_map]; exact Nat.le_refl _, by unfold maxLen; omega, fun _ => ⟨g, 0, rfl, h.lt, fun i x hx j u hu => ?_⟩⟩
  rw [List.getElem?_map] at hx
  obtain ⟨y, hy, rfl⟩ := Option.map_eq_some_iff.1 hx
  rcases j with _ | j
  · simp only [List.getElem?_cons_zero, Option.some.injEq] at hu
    subst hu
    have := h.cell (i := i) (v := .int .i64 y) (by rw [List.getElem?_map, hy]; rfl)
    simpa using this
  · simp at hu
set_option maxHeartbeats 4000000 in
set_option maxRecDepth 100000 in
theorem ruleCheck_any (m : Rm) (N : List (List UInt8)) (NA : Option Addr) (nc : Nat) (w : World) (h : RmR w m) (hN : SlR w 1 (.slice NA N.length nc) (strs N)) :
    Calls Tryz.prog 141 #[.agg m.cells.toArray, .slice NA N.length nc] w fun e w' => e = .returned (.int .i64 (Ct.rcheck N m.r : Nat)) ∧ Below w.heap.size w w' := by
  obtain ⟨⟨rank, ps, tg, ap, st, dp, dt, mp, mi, sm⟩, A, cap⟩ := m
  obtain ⟨n, hn⟩ : ∃ n, ps.length = n := ⟨_, rfl⟩
  have HNL := Stow.mk hn
  have hnl : n ≤ 9223372036854775807 := by have := SlR.len h.row; rw [List.length_map] at this; simp only at this; omega
  obtain ⟨c, hc⟩ : ∃ c, Ct.rcheck N ⟨rank, ps, tg, ap, st, dp, dt, mp, mi, sm⟩ = c := ⟨_, rfl⟩
  have HCC := Stow.mk hc
  simp only
  rw [hc]
  unfold Rm.cells
  simp only
  rw [hn]
  have b1 := Below.alloc' (Below.self w) (.cells #[.int .i64 rank, .slice A n cap, .string (bs tg), .int .i64 ap, .int .i64 st, .int .i64 dp, .int .i64 dt, .int .i64 mp, .string (bs mi), .int .i64 sm] 95)
  have b2 := Below.alloc' (Below.self (w.alloc (.cells #[.int .i64 rank, .slice A n cap, .string (bs tg), .int .i64 ap, .int .i64 st, .int .i64 dp, .int .i64 dt, .int .i64 mp, .string (bs mi), .int .i64 sm] 95))) (.cells #[.slice NA N.length nc] 38)
  have hp0 := (Held.made w [.int .i64 rank, .slice A n cap, .string (bs tg), .int .i64 ap, .int .i64 st, .int .i64 dp, .int .i64 dt, .int .i64 mp, .string (bs mi), .int .i64 sm] 95).kept b2
  have hq0 := Held.made (w.alloc (.cells #[.int .i64 rank, .slice A n cap, .string (bs tg), .int .i64 ap, .int .i64 st, .int .i64 dp, .int .i64 dt, .int .i64 mp, .string (bs mi), .int .i64 sm] 95)) [.slice NA N.length nc] 38
  have hb := Below.call b1 b2
  obtain ⟨W, hW⟩ : ∃ W, (w.alloc (.cells #[.int .i64 rank, .slice A n cap, .string (bs tg), .int .i64 ap, .int .i64 st, .int .i64 dp, .int .i64 dt, .int .i64 mp, .string (bs mi), .int .i64 sm] 95)).alloc (.cells #[.slice NA N.length nc] 38) = W := ⟨_, rfl⟩
  rw [show ((w.alloc (.cells #[.int .i64 rank, .slice A n cap, .string (bs tg), .int .i64 ap, .int .i64 st, .int .i64 dp, .int .i64 dt, .int .i64 mp, .string (bs mi), .int .i64 sm] 95)).alloc (.cells [.slice NA N.length nc].toArray 38)) = W from hW] at hq0
  rw [hW] at hp0 hb
  have hq0 : Held W (w.heap.size + 1) [.slice NA N.length nc] := by simpa using hq0
  have HW := Stow.mk hW
  have HP := Stow.mk hp0
  have HQ := Stow.mk hq0
  have HB := Stow.mk hb
  have HM := Stow.mk (h.keep hb)
  have HN := Stow.mk (hN.keep hb)
  clear hp0 hq0 hb h hN b1 b2 hW hc hn
  have HWR := Stow.mk (within_any rank 0 99 W)
  obtain ⟨r0, hr0⟩ : ∃ b, Ct.inR rank 0 99 = b := ⟨_, rfl⟩
  rw [hr0] at HWR
  have HR0 := Stow.mk hr0
  clear hr0
  go_enter Tryz.func141, Tryz.ntmps141
  go_upto_region 1 with fail
  rw [HW.out]
  clear HW
  have p0 := HP.out.cell (i := 0) rfl
  have p1 := HP.out.cell (i := 1) rfl
  have p2 := HP.out.cell (i := 2) rfl
  have p3 := HP.out.cell (i := 3) rfl
  have p4 := HP.out.cell (i := 4) rfl
  have p5 := HP.out.cell (i := 5) rfl
  have p6 := HP.out.cell (i := 6) rfl
  have p7 := HP.out.cell (i := 7) rfl
  have p8 := HP.out.cell (i := 8) rfl
  have p9 := HP.out.cell (i := 9) rfl
  cases r0 with
  | false =>
    have HE : Stow (c = 12) := ⟨by rw [← HCC.out]; exact Ct.rc1 HR0.out⟩
    go_wp2_with fail
    refine HWR.out.mono ?_
    rintro e w1 ⟨rfl, rfl⟩
    go_wp2_with fail
    go_ret
    exact ⟨by rw [HE.out]; rfl, HB.out⟩
  | true =>
  by_cases h4 : 4 < n
  · have h4i : (4 : Int) < n := by omega
    have HE : Stow (c = 8) := ⟨by rw [← HCC.out]; exact Ct.rc2 HR0.out (by simp only; rw [HNL.out]; exact h4)⟩
    go_wp2_with fail
    refine HWR.out.mono ?_
    rintro e w1 ⟨rfl, rfl⟩
    go_wp2_with fail
    go_ret
    exact ⟨by rw [HE.out]; rfl, HB.out⟩
  have h4i : ¬ (4 : Int) < n := by omega
  have hle4 : n ≤ 4 := by omega
  go_wp2_with fail
  refine HWR.out.mono ?_
  rintro e w1 ⟨rfl, rfl⟩
  go_wp2_with fail
  clear p0 p1 p2 p3 p4 p5 p6 p7 p8 p9
  go_loopw [6, 7, 20] (fun _ _ u wr => ∃ i : Nat, u = .int .i64 (i : Int) ∧ i ≤ n ∧ Stow (∀ j (hj : j < ps.length), j < i → ps[j].err = 0) ∧ Stow (Below w1.heap.size w1 wr)) (fun _ _ u _ => n - (intOf u).toNat)
  case atStart => exact ⟨0, rfl, by omega, ⟨fun j hj h => by omega⟩, ⟨Below.self _⟩⟩
  case round =>
    obtain ⟨i, rfl, hi, HZ, HBR⟩ := hrel
    have HB := Stow.mk (HB.out.trans (HBR.out.mono HB.out.size))
    by_cases hlt : i < n
    · have hlt' : i < ps.length := by rw [HNL.out]; exact hlt
      obtain ⟨b, off, rfl, hblt, _⟩ := SlR.open HM.out.row (by simp; omega)
      obtain ⟨q0, q1, q2⟩ := pd_at (SlR.keep HM.out.row HBR.out) hlt'
      have hf := HM.out.fits _ (List.getElem_mem hlt')
      obtain ⟨p, hp⟩ : ∃ p, ps[i] = p := ⟨_, rfl⟩
      have HPI := Stow.mk hp
      rw [hp] at q0 q1 q2 hf
      obtain ⟨k, pn, pv⟩ := p
      have HBX := Stow.mk (Below.alloc' (Below.self wr) (.cells #[.int .i64 k, .string (bs pn), .string (bs pv)] 98))
      have HCK := Stow.mk (pdCheck_any ⟨k, pn, pv⟩ (wr.alloc (.cells #[.int .i64 k, .string (bs pn), .string (bs pv)] 98)) hf)
      obtain ⟨er, her⟩ : ∃ e, (Pd.mk k pn pv).err = e := ⟨_, rfl⟩
      rw [her] at HCK
      unfold Pd.cells at HCK
      have HER := Stow.mk her
      have hii : (i : Int) < n := by omega
      have hi0 : (0 : Int) ≤ i := by omega
      simp only at q0 q1 q2
      clear hp her hf
      by_cases h0 : er = 0
      · subst h0
        go_wp2_with fail
        refine HCK.out.mono ?_
        rintro e w2 ⟨rfl, hb1⟩
        have HB1 := Stow.mk (HBR.out.trans ((HBX.out.trans (hb1.mono HBX.out.size)).mono HBR.out.size))
        clear hb1 q0 q1 q2
        go_wp2_with fail
        refine ⟨⟨i + 1, by simp, by omega, ⟨fun j hj hji => ?_⟩, HB1⟩, by simp [intOf]; omega⟩
        by_cases hjl : j < i
        · exact HZ.out j hj hjl
        · obtain rfl : j = i := by omega
          rw [HPI.out, HER.out]
      · have hne : ((er : Int) == 0) = false := by simp; omega
        have HE : Stow (c = er) := ⟨by
          have h1 : Cf.firstErr Pd.err ps = er := by
            have := Cf.firstErr_at (e := Pd.err) hlt' (fun j hj => HZ.out j (by omega) hj) (by rw [HPI.out, HER.out]; exact h0)
            rw [this, HPI.out, HER.out]
          rw [← HCC.out, Ct.rc3 HR0.out (by simp only; have := HNL.out; omega) (by simp only; rw [h1]; exact h0)]
          exact h1⟩
        have hnz : ¬ (er : Int) = 0 := by omega
        go_wp2_with fail
        refine HCK.out.mono ?_
        rintro e w2 ⟨rfl, hb1⟩
        have HB := Stow.mk (HB.out.trans ((HBX.out.trans (hb1.mono HBX.out.size)).mono HB.out.size))
        clear hb1 q0 q1 q2
        go_wp2_with fail
        go_ret
        exact ⟨by rw [HE.out]; rfl, HB.out⟩
    · obtain rfl : i = n := by omega
      have hii : ¬ (i : Int) < i := by omega
      have HPR : Stow (Ct.Pre ⟨rank, ps, tg, ap, st, dp, dt, mp, mi, sm⟩) := ⟨HR0.out, by simp only; rw [HNL.out]; omega, Cf.firstErr_none (fun j hj => HZ.out j hj (by rw [← HNL.out]; exact hj))⟩
      have HP := Stow.mk (HP.out.kept HBR.out)
      have HQ := Stow.mk (HQ.out.kept HBR.out)
      have HN := Stow.mk (HN.out.keep HBR.out)
      have HK := Stow.mk (fun x => knownFn_any N NA nc (w.heap.size + 1) x wr HQ.out HN.out)
      clear HM HBR HZ
      have HK1 := Stow.mk (HK.out tg)
      obtain ⟨k1, hk1⟩ : ∃ b, decide (tg ∈ N) = b := ⟨_, rfl⟩
      rw [hk1] at HK1
      have p0 := HP.out.cell (i := 0) rfl
      have p1 := HP.out.cell (i := 1) rfl
      have p2 := HP.out.cell (i := 2) rfl
      have p3 := HP.out.cell (i := 3) rfl
      have p4 := HP.out.cell (i := 4) rfl
      have p5 := HP.out.cell (i := 5) rfl
      have p6 := HP.out.cell (i := 6) rfl
      have p7 := HP.out.cell (i := 7) rfl
      have p8 := HP.out.cell (i := 8) rfl
      have p9 := HP.out.cell (i := 9) rfl
      cases k1 with
      | false =>
        have HE : Stow (c = 7) := ⟨by rw [← HCC.out]; exact Ct.rc4 HPR.out (.inl (by simpa using hk1))⟩
        clear hk1
        go_wp2_with fail
        refine HK1.out.mono ?_
        rintro e w2 ⟨rfl, rfl⟩
        go_wp2_with fail
        go_ret
        exact ⟨by rw [HE.out]; rfl, HB.out⟩
      | true =>
      have HT : Stow (tg ∈ N) := ⟨by simpa using hk1⟩
      clear hk1
      rcases mi with _ | ⟨c0, m0⟩
      · have HNN : Stow (¬ (tg ∉ N ∨ (([] : List UInt8) ≠ [] ∧ ([] : List UInt8) ∉ N))) := ⟨by simp [HT.out]⟩
        clear HK
        go_wp2_with fail
        refine HK1.out.mono ?_
        rintro e w2 ⟨rfl, rfl⟩
        clear HK1 HQ HN
        have HV := Stow.mk (Held.made w2 [.int .i64 ap, .int .i64 dp, .int .i64 mp, .int .i64 sm] 3)
        have HBV := Stow.mk (Below.alloc' (Below.self w2) (.cells #[.int .i64 ap, .int .i64 dp, .int .i64 mp, .int .i64 sm] 3))
        have HPA := Stow.mk (parts_any (some ⟨w2.heap.size, 0, none⟩) 4 [ap, dp, mp, sm] _ (slr_nums (L := [ap, dp, mp, sm]) HV.out (by simp)))
        have HP := Stow.mk (HP.out.kept HBV.out)
        have HB := Stow.mk (HB.out.trans (HBV.out.mono HB.out.size))
        have HS1 := Stow.mk (fun W => sized_any st 400 599 ap W)
        have HS2 := Stow.mk (fun W => sized_any dt 1 50 dp W)
        obtain ⟨b5, hb5⟩ : ∃ b, ([ap, dp, mp, sm].all fun n => Ct.inR n 0 100) = b := ⟨_, rfl⟩
        rw [hb5] at HPA
        have H5 := Stow.mk hb5
        obtain ⟨b6, hb6⟩ : ∃ b, Ct.sized st 400 599 ap = b := ⟨_, rfl⟩
        rw [hb6] at HS1
        have H6 := Stow.mk hb6
        obtain ⟨b7, hb7⟩ : ∃ b, Ct.sized dt 1 50 dp = b := ⟨_, rfl⟩
        rw [hb7] at HS2
        have H7 := Stow.mk hb7
        simp only [List.map_cons, List.map_nil, List.length_cons, List.length_nil, Nat.zero_add, Nat.reduceAdd] at HPA
        clear hb5 hb6 hb7 HV
        go_upto_region 16 with fail
        go_wp2_with fail
        refine HPA.out.mono ?_
        rintro e w3 ⟨rfl, hw3⟩
        rw [← hw3] at HP HB
        clear hw3 HPA HBV p0 p1 p2 p3 p4 p5 p6 p7 p8 p9
        have p0 := HP.out.cell (i := 0) rfl
        have p1 := HP.out.cell (i := 1) rfl
        have p2 := HP.out.cell (i := 2) rfl
        have p3 := HP.out.cell (i := 3) rfl
        have p4 := HP.out.cell (i := 4) rfl
        have p5 := HP.out.cell (i := 5) rfl
        have p6 := HP.out.cell (i := 6) rfl
        have p7 := HP.out.cell (i := 7) rfl
        have p8 := HP.out.cell (i := 8) rfl
        have p9 := HP.out.cell (i := 9) rfl
        cases b5 with
        | false =>
          have HE : Stow (c = 12) := ⟨by rw [← HCC.out]; exact Ct.rc5 HPR.out HNN.out H5.out⟩
          go_wp2_with fail
          go_ret
          exact ⟨by rw [HE.out]; rfl, HB.out⟩
        | true =>
        go_wp2_with fail
        refine (HS1.out _).mono ?_
        rintro e w3 ⟨rfl, rfl⟩
        cases b6 with
        | false =>
          have HE : Stow (c = 12) := ⟨by rw [← HCC.out]; exact Ct.rc6 HPR.out HNN.out H5.out (.inl H6.out)⟩
          go_wp2_with fail
          go_ret
          exact ⟨by rw [HE.out]; rfl, HB.out⟩
        | true =>
        go_wp2_with fail
        refine (HS2.out _).mono ?_
        rintro e w3 ⟨rfl, rfl⟩
        cases b7 with
        | false =>
          have HE : Stow (c = 12) := ⟨by rw [← HCC.out]; exact Ct.rc6 HPR.out HNN.out H5.out (.inr H7.out)⟩
          go_wp2_with fail
          go_ret
          exact ⟨by rw [HE.out]; rfl, HB.out⟩
        | true =>
        have H67 : Stow (¬ (Ct.sized st 400 599 ap = false ∨ Ct.sized dt 1 50 dp = false)) := ⟨by rw [H6.out, H7.out]; simp⟩
        have HR7 := Stow.mk (HCC.out.symm.trans (Ct.rc7 HPR.out HNN.out H5.out H67.out))
        by_cases hmp : 0 < mp
        · have hmd : decide (0 < mp) = true := by simpa using hmp
          have HE : Stow (c = if ([] : List UInt8) = [] then 9 else 0) := ⟨by rw [HR7.out]; simp only [hmp, true_and]⟩
          clear HR7 hmp
          go_wp2_with fail
          go_ret
          exact ⟨by rw [HE.out]; simp, HB.out⟩
        · have hmd : decide (0 < mp) = false := by simpa using hmp
          have HE : Stow (c = 0) := ⟨by rw [HR7.out, if_neg]; simp only; intro h; exact hmp h.1⟩
          clear HR7 hmp
          go_wp2_with fail
          go_ret
          exact ⟨by rw [HE.out]; rfl, HB.out⟩
      · have HK2 := Stow.mk (HK.out (c0 :: m0))
        obtain ⟨k2, hk2⟩ : ∃ b, decide (c0 :: m0 ∈ N) = b := ⟨_, rfl⟩
        rw [hk2] at HK2
        cases k2 with
        | false =>
          have HE : Stow (c = 7) := ⟨by rw [← HCC.out]; exact Ct.rc4 HPR.out (.inr ⟨by simp, by simpa using hk2⟩)⟩
          clear hk2 HK
          go_wp2_with fail
          refine HK1.out.mono ?_
          rintro e w2 ⟨rfl, rfl⟩
          go_wp2_with fail
          refine HK2.out.mono ?_
          rintro e w2 ⟨rfl, rfl⟩
          go_wp2_with fail
          go_ret
          exact ⟨by rw [HE.out]; rfl, HB.out⟩
        | true =>
          have HNN : Stow (¬ (tg ∉ N ∨ (c0 :: m0 ≠ [] ∧ c0 :: m0 ∉ N))) := ⟨by
            have : c0 :: m0 ∈ N := by simpa using hk2
            simp [HT.out, this]⟩
          clear hk2 HK
          go_wp2_with fail
          refine HK1.out.mono ?_
          rintro e w2 ⟨rfl, rfl⟩
          go_wp2_with fail
          refine HK2.out.mono ?_
          rintro e w2 ⟨rfl, rfl⟩
          clear HK1 HQ HN
          have HV := Stow.mk (Held.made w2 [.int .i64 ap, .int .i64 dp, .int .i64 mp, .int .i64 sm] 3)
          have HBV := Stow.mk (Below.alloc' (Below.self w2) (.cells #[.int .i64 ap, .int .i64 dp, .int .i64 mp, .int .i64 sm] 3))
          have HPA := Stow.mk (parts_any (some ⟨w2.heap.size, 0, none⟩) 4 [ap, dp, mp, sm] _ (slr_nums (L := [ap, dp, mp, sm]) HV.out (by simp)))
          have HP := Stow.mk (HP.out.kept HBV.out)
          have HB := Stow.mk (HB.out.trans (HBV.out.mono HB.out.size))
          have HS1 := Stow.mk (fun W => sized_any st 400 599 ap W)
          have HS2 := Stow.mk (fun W => sized_any dt 1 50 dp W)
          obtain ⟨b5, hb5⟩ : ∃ b, ([ap, dp, mp, sm].all fun n => Ct.inR n 0 100) = b := ⟨_, rfl⟩
          rw [hb5] at HPA
          have H5 := Stow.mk hb5
          obtain ⟨b6, hb6⟩ : ∃ b, Ct.sized st 400 599 ap = b := ⟨_, rfl⟩
          rw [hb6] at HS1
          have H6 := Stow.mk hb6
          obtain ⟨b7, hb7⟩ : ∃ b, Ct.sized dt 1 50 dp = b := ⟨_, rfl⟩
          rw [hb7] at HS2
          have H7 := Stow.mk hb7
          simp only [List.map_cons, List.map_nil, List.length_cons, List.length_nil, Nat.zero_add, Nat.reduceAdd] at HPA
          clear hb5 hb6 hb7 HV
          go_upto_region 16 with fail
          go_wp2_with fail
          refine HPA.out.mono ?_
          rintro e w3 ⟨rfl, hw3⟩
          rw [← hw3] at HP HB
          clear hw3 HPA HBV p0 p1 p2 p3 p4 p5 p6 p7 p8 p9
          have p0 := HP.out.cell (i := 0) rfl
          have p1 := HP.out.cell (i := 1) rfl
          have p2 := HP.out.cell (i := 2) rfl
          have p3 := HP.out.cell (i := 3) rfl
          have p4 := HP.out.cell (i := 4) rfl
          have p5 := HP.out.cell (i := 5) rfl
          have p6 := HP.out.cell (i := 6) rfl
          have p7 := HP.out.cell (i := 7) rfl
          have p8 := HP.out.cell (i := 8) rfl
          have p9 := HP.out.cell (i := 9) rfl
          cases b5 with
          | false =>
            have HE : Stow (c = 12) := ⟨by rw [← HCC.out]; exact Ct.rc5 HPR.out HNN.out H5.out⟩
            go_wp2_with fail
            go_ret
            exact ⟨by rw [HE.out]; rfl, HB.out⟩
          | true =>
          go_wp2_with fail
          refine (HS1.out _).mono ?_
          rintro e w3 ⟨rfl, rfl⟩
          cases b6 with
          | false =>
            have HE : Stow (c = 12) := ⟨by rw [← HCC.out]; exact Ct.rc6 HPR.out HNN.out H5.out (.inl H6.out)⟩
            go_wp2_with fail
            go_ret
            exact ⟨by rw [HE.out]; rfl, HB.out⟩
          | true =>
          go_wp2_with fail
          refine (HS2.out _).mono ?_
          rintro e w3 ⟨rfl, rfl⟩
          cases b7 with
          | false =>
            have HE : Stow (c = 12) := ⟨by rw [← HCC.out]; exact Ct.rc6 HPR.out HNN.out H5.out (.inr H7.out)⟩
            go_wp2_with fail
            go_ret
            exact ⟨by rw [HE.out]; rfl, HB.out⟩
          | true =>
          have H67 : Stow (¬ (Ct.sized st 400 599 ap = false ∨ Ct.sized dt 1 50 dp = false)) := ⟨by rw [H6.out, H7.out]; simp⟩
          have HR7 := Stow.mk (HCC.out.symm.trans (Ct.rc7 HPR.out HNN.out H5.out H67.out))
          by_cases hmp : 0 < mp
          · have hmd : decide (0 < mp) = true := by simpa using hmp
            have HE : Stow (c = if (c0 :: m0 : List UInt8) = [] then 9 else 0) := ⟨by rw [HR7.out]; simp only [hmp, true_and]⟩
            clear HR7 hmp
            go_wp2_with fail
            go_ret
            exact ⟨by rw [HE.out]; simp, HB.out⟩
          · have hmd : decide (0 < mp) = false := by simpa using hmp
            have HE : Stow (c = 0) := ⟨by rw [HR7.out, if_neg]; simp only; intro h; exact hmp h.1⟩
            clear HR7 hmp
            go_wp2_with fail
            go_ret
            exact ⟨by rw [HE.out]; rfl, HB.out⟩
end Go.Proofs.YtfbhdkkmcfnghaaGreatDoor
end

section
namespace Go.Proofs.YtfbhdkkmcfnghaaGreatDoor
open Go.RowKit
set_option linter.unusedVariables false
set_option linter.unusedSimpArgs false

theorem Ct.sized_split (n lo hi pct : Int) : (Ct.sized n lo hi pct = true ∧ ((lo ≤ n ∧ n ≤ hi) ∨ ((n < lo ∨ hi < n) ∧ n = 0 ∧ pct = 0))) ∨ (Ct.sized n lo hi pct = false ∧ ((n < lo ∧ n ≠ 0) ∨ (¬ n < lo ∧ hi < n ∧ n ≠ 0) ∨ (n < lo ∧ n = 0 ∧ pct ≠ 0) ∨ (¬ n < lo ∧ hi < n ∧ n = 0 ∧ pct ≠ 0))) := by
  unfold Ct.sized Ct.inR
  by_cases h1 : lo ≤ n
  · by_cases h2 : n ≤ hi
    · exact .inl ⟨by simp [h1, h2], .inl ⟨h1, h2⟩⟩
    · by_cases h3 : n = 0
      · by_cases h4 : pct = 0
        · exact .inl ⟨by simp [h3, h4], .inr ⟨.inr (by omega), h3, h4⟩⟩
        · exact .inr ⟨by simp [h1, h2, h4], .inr (.inr (.inr ⟨by omega, by omega, h3, h4⟩))⟩
      · exact .inr ⟨by simp [h1, h2, h3], .inr (.inl ⟨by omega, by omega, h3⟩)⟩
  · by_cases h3 : n = 0
    · by_cases h4 : pct = 0
      · exact .inl ⟨by simp [h3, h4], .inr ⟨.inl (by omega), h3, h4⟩⟩
      · exact .inr ⟨by simp [h1, h4], .inr (.inr (.inl ⟨by omega, h3, h4⟩))⟩
    · exact .inr ⟨by simp [h1, h3], .inl ⟨by omega, h3⟩⟩
theorem Ct.st_split (n pct : Int) : (Ct.sized n 400 599 pct = true ∧ ((400 ≤ n ∧ n ≤ 599) ∨ (n = 0 ∧ pct = 0))) ∨ (Ct.sized n 400 599 pct = false ∧ ((n < 400 ∧ n ≠ 0) ∨ (¬ n < 400 ∧ 599 < n ∧ n ≠ 0) ∨ (n = 0 ∧ pct ≠ 0))) := by
  rcases Ct.sized_split n 400 599 pct with ⟨h, h1 | h1⟩ | ⟨h, h1 | h1 | h1 | h1⟩
  · exact .inl ⟨h, .inl h1⟩
  · exact .inl ⟨h, .inr h1.2⟩
  · exact .inr ⟨h, .inl h1⟩
  · exact .inr ⟨h, .inr (.inl h1)⟩
  · exact .inr ⟨h, .inr (.inr h1.2)⟩
  · omega
theorem Ct.dt_split (n pct : Int) : (Ct.sized n 1 50 pct = true ∧ ((1 ≤ n ∧ n ≤ 50) ∨ (n = 0 ∧ pct = 0))) ∨ (Ct.sized n 1 50 pct = false ∧ ((n < 1 ∧ n ≠ 0) ∨ (¬ n < 1 ∧ 50 < n ∧ n ≠ 0) ∨ (n = 0 ∧ pct ≠ 0))) := by
  rcases Ct.sized_split n 1 50 pct with ⟨h, h1 | h1⟩ | ⟨h, h1 | h1 | h1 | h1⟩
  · exact .inl ⟨h, .inl h1⟩
  · exact .inl ⟨h, .inr h1.2⟩
  · exact .inr ⟨h, .inl h1⟩
  · exact .inr ⟨h, .inr (.inl h1)⟩
  · exact .inr ⟨h, .inr (.inr h1.2)⟩
  · omega
set_option maxHeartbeats 8000000 in
set_option maxRecDepth 100000 in
theorem refRuleCheck_any (m : Rm) (N : List (List UInt8)) (NA : Option Addr) (nc : Nat) (w : World) (h : RmR w m) (hN : SlR w 1 (.slice NA N.length nc) (strs N)) :
    Calls Tryz.prog 145 #[.agg m.cells.toArray, .slice NA N.length nc] w fun e w' => e = .returned (.int .i64 (Ct.rcheck N m.r : Nat)) ∧ Below w.heap.size w w' := by
  obtain ⟨⟨rank, ps, tg, ap, st, dp, dt, mp, mi, sm⟩, A, cap⟩ := m
  obtain ⟨n, hn⟩ : ∃ n, ps.length = n := ⟨_, rfl⟩
  have HNL := Stow.mk hn
  have hnl : n ≤ 9223372036854775807 := by have := SlR.len h.row; rw [List.length_map] at this; simp only at this; omega
  obtain ⟨c, hc⟩ : ∃ c, Ct.rcheck N ⟨rank, ps, tg, ap, st, dp, dt, mp, mi, sm⟩ = c := ⟨_, rfl⟩
  have HCC := Stow.mk hc
  simp only
  rw [hc]
  have HM0 := Stow.mk h
  have HN0 := Stow.mk hN
  unfold Rm.cells
  simp only
  rw [hn]
  clear h hN hc hn
  have hp0 := Held.made w [.int .i64 rank, .slice A n cap, .string (bs tg), .int .i64 ap, .int .i64 st, .int .i64 dp, .int .i64 dt, .int .i64 mp, .string (bs mi), .int .i64 sm] 95
  have HB := Stow.mk (Below.alloc' (Below.self w) (.cells #[.int .i64 rank, .slice A n cap, .string (bs tg), .int .i64 ap, .int .i64 st, .int .i64 dp, .int .i64 dt, .int .i64 mp, .string (bs mi), .int .i64 sm] 95))
  obtain ⟨W, hW⟩ : ∃ W, w.alloc (.cells #[.int .i64 rank, .slice A n cap, .string (bs tg), .int .i64 ap, .int .i64 st, .int .i64 dp, .int .i64 dt, .int .i64 mp, .string (bs mi), .int .i64 sm] 95) = W := ⟨_, rfl⟩
  rw [show w.alloc (.cells [.int .i64 rank, .slice A n cap, .string (bs tg), .int .i64 ap, .int .i64 st, .int .i64 dp, .int .i64 dt, .int .i64 mp, .string (bs mi), .int .i64 sm].toArray 95) = W from hW] at hp0
  rw [hW] at HB
  have HW := Stow.mk hW
  have HP := Stow.mk hp0
  clear hp0 hW
  go_enter Tryz.func145, Tryz.ntmps145
  go_upto_region 1 with fail
  rw [HW.out]
  clear HW
  have HM := Stow.mk (HM0.out.keep HB.out)
  have HN := Stow.mk (HN0.out.keep HB.out)
  clear HM0 HN0
  have p0 := HP.out.cell (i := 0) rfl
  have p1 := HP.out.cell (i := 1) rfl
  have p2 := HP.out.cell (i := 2) rfl
  have p3 := HP.out.cell (i := 3) rfl
  have p4 := HP.out.cell (i := 4) rfl
  have p5 := HP.out.cell (i := 5) rfl
  have p6 := HP.out.cell (i := 6) rfl
  have p7 := HP.out.cell (i := 7) rfl
  have p8 := HP.out.cell (i := 8) rfl
  have p9 := HP.out.cell (i := 9) rfl
  by_cases hr0 : Ct.inR rank 0 99 = true
  rotate_left
  · have HE : Stow (c = 12) := ⟨by rw [← HCC.out]; exact Ct.rc1 (by simpa using hr0)⟩
    by_cases h1 : rank < 0
    · have d1 : decide (rank < 0) = true := by simpa using h1
      clear h1 hr0
      go_wp2_with fail
      all_goals first
        | (exfalso; omega)
        | (go_ret
           exact ⟨by rw [HE.out]; rfl, HB.out⟩)
    · have d1 : decide (rank < 0) = false := by simpa using h1
      have d2 : decide (99 < rank) = true := by
        unfold Ct.inR at hr0
        simp at hr0 h1 ⊢
        omega
      clear h1 hr0
      go_wp2_with fail
      all_goals first
        | (exfalso; omega)
        | (go_ret
           exact ⟨by rw [HE.out]; rfl, HB.out⟩)
  have HR0 := Stow.mk hr0
  have d1 : decide (rank < 0) = false := by unfold Ct.inR at hr0; simp at hr0 ⊢; omega
  have d2 : decide (99 < rank) = false := by unfold Ct.inR at hr0; simp at hr0 ⊢; omega
  clear hr0
  by_cases h4 : 4 < n
  · have h4i : (4 : Int) < n := by omega
    have HE : Stow (c = 8) := ⟨by rw [← HCC.out]; exact Ct.rc2 HR0.out (by simp only; rw [HNL.out]; exact h4)⟩
    go_wp2_with fail
    all_goals first
      | (exfalso; omega)
      | (go_ret
         exact ⟨by rw [HE.out]; rfl, HB.out⟩)
  have h4i : ¬ (4 : Int) < n := by omega
  have hle4 : n ≤ 4 := by omega
  go_wp2_with fail
  clear p0 p1 p2 p3 p4 p5 p6 p7 p8 p9 d1 d2
  go_loopw [5, 6] (fun u _ wr => ∃ i : Nat, u = .int .i64 (i : Int) ∧ i ≤ n ∧ Stow (∀ j (hj : j < ps.length), j < i → ps[j].err = 0) ∧ Stow (Below W.heap.size W wr)) (fun u _ _ => n - (intOf u).toNat)
  case atStart => exact ⟨0, rfl, by omega, ⟨fun j hj h => by omega⟩, ⟨Below.self _⟩⟩
  case round =>
    obtain ⟨i, rfl, hi, HZ, HBR⟩ := hrel
    have HB := Stow.mk (HB.out.trans (HBR.out.mono HB.out.size))
    by_cases hlt : i < n
    · have hlt' : i < ps.length := by rw [HNL.out]; exact hlt
      obtain ⟨b, off, rfl, hblt, _⟩ := SlR.open HM.out.row (by simp; omega)
      obtain ⟨q0, q1, q2⟩ := pd_at (SlR.keep HM.out.row HBR.out) hlt'
      have p1 := (HP.out.kept HBR.out).cell (i := 1) rfl
      have hf := HM.out.fits _ (List.getElem_mem hlt')
      obtain ⟨p, hp⟩ : ∃ p, ps[i] = p := ⟨_, rfl⟩
      have HPI := Stow.mk hp
      rw [hp] at q0 q1 q2 hf
      obtain ⟨k, pn, pv⟩ := p
      have HCK := Stow.mk (refPd_any ⟨k, pn, pv⟩ wr hf)
      obtain ⟨er, her⟩ : ∃ e, (Pd.mk k pn pv).err = e := ⟨_, rfl⟩
      rw [her] at HCK
      unfold Pd.cells at HCK
      have HER := Stow.mk her
      have hii : (i : Int) < n := by omega
      have hi0 : (0 : Int) ≤ i := by omega
      simp only at q0 q1 q2
      clear hp her hf
      by_cases h0 : er = 0
      · subst h0
        go_wp2_with fail
        refine HCK.out.mono ?_
        rintro e w2 ⟨rfl, hb1⟩
        have HB1 := Stow.mk (HBR.out.trans (hb1.mono HBR.out.size))
        clear hb1 q0 q1 q2
        go_wp2_with fail
        refine ⟨⟨i + 1, by simp, by omega, ⟨fun j hj hji => ?_⟩, HB1⟩, by simp [intOf]; omega⟩
        by_cases hjl : j < i
        · exact HZ.out j hj hjl
        · obtain rfl : j = i := by omega
          rw [HPI.out, HER.out]
      · have hne : ((er : Int) == 0) = false := by simp; omega
        have HE : Stow (c = er) := ⟨by
          have h1 : Cf.firstErr Pd.err ps = er := by
            have := Cf.firstErr_at (e := Pd.err) hlt' (fun j hj => HZ.out j (by omega) hj) (by rw [HPI.out, HER.out]; exact h0)
            rw [this, HPI.out, HER.out]
          rw [← HCC.out, Ct.rc3 HR0.out (by simp only; have := HNL.out; omega) (by simp only; rw [h1]; exact h0)]
          exact h1⟩
        have hnz : ¬ (er : Int) = 0 := by omega
        go_wp2_with fail
        refine HCK.out.mono ?_
        rintro e w2 ⟨rfl, hb1⟩
        have HB := Stow.mk (HB.out.trans (hb1.mono HB.out.size))
        clear hb1 q0 q1 q2
        go_wp2_with fail
        all_goals first
          | (exfalso; omega)
          | (go_ret
             exact ⟨by rw [HE.out]; rfl, HB.out⟩)
    · obtain rfl : i = n := by omega
      have hii : ¬ (i : Int) < i := by omega
      have HPR : Stow (Ct.Pre ⟨rank, ps, tg, ap, st, dp, dt, mp, mi, sm⟩) := ⟨HR0.out, by simp only; rw [HNL.out]; omega, Cf.firstErr_none (fun j hj => HZ.out j hj (by rw [← HNL.out]; exact hj))⟩
      have HP := Stow.mk (HP.out.kept HBR.out)
      have HN := Stow.mk (HN.out.keep HBR.out)
      have HK := Stow.mk (fun x => refIn12_any N x NA nc wr HN.out)
      clear HM HBR HZ
      have HK1 := Stow.mk (HK.out tg)
      obtain ⟨k1, hk1⟩ : ∃ b, decide (tg ∈ N) = b := ⟨_, rfl⟩
      rw [hk1] at HK1
      have p0 := HP.out.cell (i := 0) rfl
      have p1 := HP.out.cell (i := 1) rfl
      have p2 := HP.out.cell (i := 2) rfl
      have p3 := HP.out.cell (i := 3) rfl
      have p4 := HP.out.cell (i := 4) rfl
      have p5 := HP.out.cell (i := 5) rfl
      have p6 := HP.out.cell (i := 6) rfl
      have p7 := HP.out.cell (i := 7) rfl
      have p8 := HP.out.cell (i := 8) rfl
      have p9 := HP.out.cell (i := 9) rfl
      cases k1 with
      | false =>
        have HE : Stow (c = 7) := ⟨by rw [← HCC.out]; exact Ct.rc4 HPR.out (.inl (by simpa using hk1))⟩
        clear hk1
        go_wp2_with fail
        refine HK1.out.mono ?_
        rintro e w2 ⟨rfl, rfl⟩
        go_wp2_with fail
        all_goals first
          | (exfalso; omega)
          | (go_ret
             exact ⟨by rw [HE.out]; rfl, HB.out⟩)
      | true =>
      have HT : Stow (tg ∈ N) := ⟨by simpa using hk1⟩
      clear hk1
      rcases mi with _ | ⟨c0, m0⟩
      · have HNN : Stow (¬ (tg ∉ N ∨ (([] : List UInt8) ≠ [] ∧ ([] : List UInt8) ∉ N))) := ⟨by simp [HT.out]⟩
        clear HK
        go_wp2_with fail
        refine HK1.out.mono ?_
        rintro e w2 ⟨rfl, rfl⟩
        have HPA := Stow.mk (fun x => refPart_any x w2)
        clear HN
        go_wp2_with fail
        refine (HPA.out ap).mono ?_
        rintro e w3 ⟨rfl, rfl⟩
        obtain ⟨b1, hb1⟩ : ∃ b, Ct.inR ap 0 100 = b := ⟨_, rfl⟩
        rw [hb1]
        have H1 := Stow.mk hb1
        clear hb1
        cases b1 with
        | false =>
          have HE : Stow (c = 12) := ⟨by rw [← HCC.out]; exact Ct.rc5 HPR.out HNN.out (by simp [H1.out])⟩
          go_wp2_with fail
          all_goals first
            | (exfalso; omega)
            | (go_ret
               exact ⟨by rw [HE.out]; rfl, HB.out⟩)
        | true =>
        go_wp2_with fail
        refine (HPA.out dp).mono ?_
        rintro e w3 ⟨rfl, rfl⟩
        obtain ⟨b2, hb2⟩ : ∃ b, Ct.inR dp 0 100 = b := ⟨_, rfl⟩
        rw [hb2]
        have H2 := Stow.mk hb2
        clear hb2
        cases b2 with
        | false =>
          have HE : Stow (c = 12) := ⟨by rw [← HCC.out]; exact Ct.rc5 HPR.out HNN.out (by simp [H2.out])⟩
          go_wp2_with fail
          all_goals first
            | (exfalso; omega)
            | (go_ret
               exact ⟨by rw [HE.out]; rfl, HB.out⟩)
        | true =>
        go_wp2_with fail
        refine (HPA.out mp).mono ?_
        rintro e w3 ⟨rfl, rfl⟩
        obtain ⟨b3, hb3⟩ : ∃ b, Ct.inR mp 0 100 = b := ⟨_, rfl⟩
        rw [hb3]
        have H3 := Stow.mk hb3
        clear hb3
        cases b3 with
        | false =>
          have HE : Stow (c = 12) := ⟨by rw [← HCC.out]; exact Ct.rc5 HPR.out HNN.out (by simp [H3.out])⟩
          go_wp2_with fail
          all_goals first
            | (exfalso; omega)
            | (go_ret
               exact ⟨by rw [HE.out]; rfl, HB.out⟩)
        | true =>
        go_wp2_with fail
        refine (HPA.out sm).mono ?_
        rintro e w3 ⟨rfl, rfl⟩
        obtain ⟨b4, hb4⟩ : ∃ b, Ct.inR sm 0 100 = b := ⟨_, rfl⟩
        rw [hb4]
        have H4 := Stow.mk hb4
        clear hb4
        cases b4 with
        | false =>
          have HE : Stow (c = 12) := ⟨by rw [← HCC.out]; exact Ct.rc5 HPR.out HNN.out (by simp [H4.out])⟩
          go_wp2_with fail
          all_goals first
            | (exfalso; omega)
            | (go_ret
               exact ⟨by rw [HE.out]; rfl, HB.out⟩)
        | true =>
        have HALL : Stow (([ap, dp, mp, sm].all fun n => Ct.inR n 0 100) = true) := ⟨by simp [H1.out, H2.out, H3.out, H4.out]⟩
        clear HPA H1 H2 H3 H4
        rcases Ct.st_split st ap with ⟨hs, hgood⟩ | ⟨hs, hbad⟩
        · rcases Ct.dt_split dt dp with ⟨ht, hgood2⟩ | ⟨ht, hbad⟩
          · have HR7 := Stow.mk (HCC.out.symm.trans (Ct.rc7 HPR.out HNN.out HALL.out (by simp [hs, ht])))
            clear hs ht
            rcases hgood with ⟨h1, h2⟩ | ⟨h1, h2⟩
            · have d1 : decide (st < 400) = false := by simpa using h1
              have d2 : decide (599 < st) = false := by simpa using h2
              rcases hgood2 with ⟨h3, h4⟩ | ⟨h3, h4⟩
              · have d3 : decide (dt < 1) = false := by simpa using h3
                have d4 : decide (50 < dt) = false := by simpa using h4
                by_cases hmp : 0 < mp
                · have hmd : decide (0 < mp) = true := by simpa using hmp
                  have HE : Stow (c = if ([] : List UInt8) = [] then 9 else 0) := ⟨by rw [HR7.out]; simp only [hmp, true_and]⟩
                  clear HR7 hmp
                  go_wp2_with fail
                  all_goals first
                    | (exfalso; omega)
                    | (go_ret
                       exact ⟨by rw [HE.out]; simp, HB.out⟩)
                · have hmd : decide (0 < mp) = false := by simpa using hmp
                  have HE : Stow (c = 0) := ⟨by rw [HR7.out, if_neg]; simp only; intro h; exact hmp h.1⟩
                  clear HR7 hmp
                  go_wp2_with fail
                  all_goals first
                    | (exfalso; omega)
                    | (go_ret
                       exact ⟨by rw [HE.out]; rfl, HB.out⟩)
              · subst h3 h4
                by_cases hmp : 0 < mp
                · have hmd : decide (0 < mp) = true := by simpa using hmp
                  have HE : Stow (c = if ([] : List UInt8) = [] then 9 else 0) := ⟨by rw [HR7.out]; simp only [hmp, true_and]⟩
                  clear HR7 hmp
                  go_wp2_with fail
                  all_goals first
                    | (exfalso; omega)
                    | (go_ret
                       exact ⟨by rw [HE.out]; simp, HB.out⟩)
                · have hmd : decide (0 < mp) = false := by simpa using hmp
                  have HE : Stow (c = 0) := ⟨by rw [HR7.out, if_neg]; simp only; intro h; exact hmp h.1⟩
                  clear HR7 hmp
                  go_wp2_with fail
                  all_goals first
                    | (exfalso; omega)
                    | (go_ret
                       exact ⟨by rw [HE.out]; rfl, HB.out⟩)
            · subst h1 h2
              rcases hgood2 with ⟨h3, h4⟩ | ⟨h3, h4⟩
              · have d3 : decide (dt < 1) = false := by simpa using h3
                have d4 : decide (50 < dt) = false := by simpa using h4
                by_cases hmp : 0 < mp
                · have hmd : decide (0 < mp) = true := by simpa using hmp
                  have HE : Stow (c = if ([] : List UInt8) = [] then 9 else 0) := ⟨by rw [HR7.out]; simp only [hmp, true_and]⟩
                  clear HR7 hmp
                  go_wp2_with fail
                  all_goals first
                    | (exfalso; omega)
                    | (go_ret
                       exact ⟨by rw [HE.out]; simp, HB.out⟩)
                · have hmd : decide (0 < mp) = false := by simpa using hmp
                  have HE : Stow (c = 0) := ⟨by rw [HR7.out, if_neg]; simp only; intro h; exact hmp h.1⟩
                  clear HR7 hmp
                  go_wp2_with fail
                  all_goals first
                    | (exfalso; omega)
                    | (go_ret
                       exact ⟨by rw [HE.out]; rfl, HB.out⟩)
              · subst h3 h4
                by_cases hmp : 0 < mp
                · have hmd : decide (0 < mp) = true := by simpa using hmp
                  have HE : Stow (c = if ([] : List UInt8) = [] then 9 else 0) := ⟨by rw [HR7.out]; simp only [hmp, true_and]⟩
                  clear HR7 hmp
                  go_wp2_with fail
                  all_goals first
                    | (exfalso; omega)
                    | (go_ret
                       exact ⟨by rw [HE.out]; simp, HB.out⟩)
                · have hmd : decide (0 < mp) = false := by simpa using hmp
                  have HE : Stow (c = 0) := ⟨by rw [HR7.out, if_neg]; simp only; intro h; exact hmp h.1⟩
                  clear HR7 hmp
                  go_wp2_with fail
                  all_goals first
                    | (exfalso; omega)
                    | (go_ret
                       exact ⟨by rw [HE.out]; rfl, HB.out⟩)
          · have HE : Stow (c = 12) := ⟨by rw [← HCC.out]; exact Ct.rc6 HPR.out HNN.out HALL.out (.inr ht)⟩
            clear hs ht
            rcases hgood with ⟨h1, h2⟩ | ⟨h1, h2⟩
            · have d1 : decide (st < 400) = false := by simpa using h1
              have d2 : decide (599 < st) = false := by simpa using h2
              go_upto_region 17 with fail
              rcases hbad with ⟨h1, h2⟩ | ⟨h1, h2, h3⟩ | ⟨h1, h2⟩
              · have d1 : decide (dt < 1) = true := by simpa using h1
                have d2 : (dt == 0) = false := by simpa using h2
                go_wp2_with fail
                all_goals first
                  | (exfalso; omega)
                  | (go_ret
                     exact ⟨by rw [HE.out]; rfl, HB.out⟩)
              · have d1 : decide (dt < 1) = false := by simpa using h1
                have d3 : decide (50 < dt) = true := by simpa using h2
                have d2 : (dt == 0) = false := by simpa using h3
                go_wp2_with fail
                all_goals first
                  | (exfalso; omega)
                  | (go_ret
                     exact ⟨by rw [HE.out]; rfl, HB.out⟩)
              · subst h1
                have d2 : (dp == 0) = false := by simpa using h2
                go_wp2_with fail
                all_goals first
                  | (exfalso; omega)
                  | (go_ret
                     exact ⟨by rw [HE.out]; rfl, HB.out⟩)
            · subst h1 h2
              go_upto_region 17 with fail
              rcases hbad with ⟨h1, h2⟩ | ⟨h1, h2, h3⟩ | ⟨h1, h2⟩
              · have d1 : decide (dt < 1) = true := by simpa using h1
                have d2 : (dt == 0) = false := by simpa using h2
                go_wp2_with fail
                all_goals first
                  | (exfalso; omega)
                  | (go_ret
                     exact ⟨by rw [HE.out]; rfl, HB.out⟩)
              · have d1 : decide (dt < 1) = false := by simpa using h1
                have d3 : decide (50 < dt) = true := by simpa using h2
                have d2 : (dt == 0) = false := by simpa using h3
                go_wp2_with fail
                all_goals first
                  | (exfalso; omega)
                  | (go_ret
                     exact ⟨by rw [HE.out]; rfl, HB.out⟩)
              · subst h1
                have d2 : (dp == 0) = false := by simpa using h2
                go_wp2_with fail
                all_goals first
                  | (exfalso; omega)
                  | (go_ret
                     exact ⟨by rw [HE.out]; rfl, HB.out⟩)
        · have HE : Stow (c = 12) := ⟨by rw [← HCC.out]; exact Ct.rc6 HPR.out HNN.out HALL.out (.inl hs)⟩
          clear hs
          rcases hbad with ⟨h1, h2⟩ | ⟨h1, h2, h3⟩ | ⟨h1, h2⟩
          · have d1 : decide (st < 400) = true := by simpa using h1
            have d2 : (st == 0) = false := by simpa using h2
            go_wp2_with fail
            all_goals first
              | (exfalso; omega)
              | (go_ret
                 exact ⟨by rw [HE.out]; rfl, HB.out⟩)
          · have d1 : decide (st < 400) = false := by simpa using h1
            have d3 : decide (599 < st) = true := by simpa using h2
            have d2 : (st == 0) = false := by simpa using h3
            go_wp2_with fail
            all_goals first
              | (exfalso; omega)
              | (go_ret
                 exact ⟨by rw [HE.out]; rfl, HB.out⟩)
          · subst h1
            have d2 : (ap == 0) = false := by simpa using h2
            go_wp2_with fail
            all_goals first
              | (exfalso; omega)
              | (go_ret
                 exact ⟨by rw [HE.out]; rfl, HB.out⟩)
      · have HK2 := Stow.mk (HK.out (c0 :: m0))
        obtain ⟨k2, hk2⟩ : ∃ b, decide (c0 :: m0 ∈ N) = b := ⟨_, rfl⟩
        rw [hk2] at HK2
        cases k2 with
        | false =>
          have HE : Stow (c = 7) := ⟨by rw [← HCC.out]; exact Ct.rc4 HPR.out (.inr ⟨by simp, by simpa using hk2⟩)⟩
          clear hk2 HK
          go_wp2_with fail
          refine HK1.out.mono ?_
          rintro e w2 ⟨rfl, rfl⟩
          go_wp2_with fail
          refine HK2.out.mono ?_
          rintro e w2 ⟨rfl, rfl⟩
          go_wp2_with fail
          all_goals first
            | (exfalso; omega)
            | (go_ret
               exact ⟨by rw [HE.out]; rfl, HB.out⟩)
        | true =>
          have HNN : Stow (¬ (tg ∉ N ∨ (c0 :: m0 ≠ [] ∧ c0 :: m0 ∉ N))) := ⟨by
            have : c0 :: m0 ∈ N := by simpa using hk2
            simp [HT.out, this]⟩
          clear hk2 HK
          go_wp2_with fail
          refine HK1.out.mono ?_
          rintro e w2 ⟨rfl, rfl⟩
          go_wp2_with fail
          refine HK2.out.mono ?_
          rintro e w2 ⟨rfl, rfl⟩
          have HPA := Stow.mk (fun x => refPart_any x w2)
          clear HN
          go_wp2_with fail
          refine (HPA.out ap).mono ?_
          rintro e w3 ⟨rfl, rfl⟩
          obtain ⟨b1, hb1⟩ : ∃ b, Ct.inR ap 0 100 = b := ⟨_, rfl⟩
          rw [hb1]
          have H1 := Stow.mk hb1
          clear hb1
          cases b1 with
          | false =>
            have HE : Stow (c = 12) := ⟨by rw [← HCC.out]; exact Ct.rc5 HPR.out HNN.out (by simp [H1.out])⟩
            go_wp2_with fail
            all_goals first
              | (exfalso; omega)
              | (go_ret
                 exact ⟨by rw [HE.out]; rfl, HB.out⟩)
          | true =>
          go_wp2_with fail
          refine (HPA.out dp).mono ?_
          rintro e w3 ⟨rfl, rfl⟩
          obtain ⟨b2, hb2⟩ : ∃ b, Ct.inR dp 0 100 = b := ⟨_, rfl⟩
          rw [hb2]
          have H2 := Stow.mk hb2
          clear hb2
          cases b2 with
          | false =>
            have HE : Stow (c = 12) := ⟨by rw [← HCC.out]; exact Ct.rc5 HPR.out HNN.out (by simp [H2.out])⟩
            go_wp2_with fail
            all_goals first
              | (exfalso; omega)
              | (go_ret
                 exact ⟨by rw [HE.out]; rfl, HB.out⟩)
          | true =>
          go_wp2_with fail
          refine (HPA.out mp).mono ?_
          rintro e w3 ⟨rfl, rfl⟩
          obtain ⟨b3, hb3⟩ : ∃ b, Ct.inR mp 0 100 = b := ⟨_, rfl⟩
          rw [hb3]
          have H3 := Stow.mk hb3
          clear hb3
          cases b3 with
          | false =>
            have HE : Stow (c = 12) := ⟨by rw [← HCC.out]; exact Ct.rc5 HPR.out HNN.out (by simp [H3.out])⟩
            go_wp2_with fail
            all_goals first
              | (exfalso; omega)
              | (go_ret
                 exact ⟨by rw [HE.out]; rfl, HB.out⟩)
          | true =>
          go_wp2_with fail
          refine (HPA.out sm).mono ?_
          rintro e w3 ⟨rfl, rfl⟩
          obtain ⟨b4, hb4⟩ : ∃ b, Ct.inR sm 0 100 = b := ⟨_, rfl⟩
          rw [hb4]
          have H4 := Stow.mk hb4
          clear hb4
          cases b4 with
          | false =>
            have HE : Stow (c = 12) := ⟨by rw [← HCC.out]; exact Ct.rc5 HPR.out HNN.out (by simp [H4.out])⟩
            go_wp2_with fail
            all_goals first
              | (exfalso; omega)
              | (go_ret
                 exact ⟨by rw [HE.out]; rfl, HB.out⟩)
          | true =>
          have HALL : Stow (([ap, dp, mp, sm].all fun n => Ct.inR n 0 100) = true) := ⟨by simp [H1.out, H2.out, H3.out, H4.out]⟩
          clear HPA H1 H2 H3 H4
          rcases Ct.st_split st ap with ⟨hs, hgood⟩ | ⟨hs, hbad⟩
          · rcases Ct.dt_split dt dp with ⟨ht, hgood2⟩ | ⟨ht, hbad⟩
            · have HR7 := Stow.mk (HCC.out.symm.trans (Ct.rc7 HPR.out HNN.out HALL.out (by simp [hs, ht])))
              clear hs ht
              rcases hgood with ⟨h1, h2⟩ | ⟨h1, h2⟩
              · have d1 : decide (st < 400) = false := by simpa using h1
                have d2 : decide (599 < st) = false := by simpa using h2
                rcases hgood2 with ⟨h3, h4⟩ | ⟨h3, h4⟩
                · have d3 : decide (dt < 1) = false := by simpa using h3
                  have d4 : decide (50 < dt) = false := by simpa using h4
                  by_cases hmp : 0 < mp
                  · have hmd : decide (0 < mp) = true := by simpa using hmp
                    have HE : Stow (c = if (c0 :: m0 : List UInt8) = [] then 9 else 0) := ⟨by rw [HR7.out]; simp only [hmp, true_and]⟩
                    clear HR7 hmp
                    go_wp2_with fail
                    all_goals first
                      | (exfalso; omega)
                      | (go_ret
                         exact ⟨by rw [HE.out]; simp, HB.out⟩)
                  · have hmd : decide (0 < mp) = false := by simpa using hmp
                    have HE : Stow (c = 0) := ⟨by rw [HR7.out, if_neg]; simp only; intro h; exact hmp h.1⟩
                    clear HR7 hmp
                    go_wp2_with fail
                    all_goals first
                      | (exfalso; omega)
                      | (go_ret
                         exact ⟨by rw [HE.out]; rfl, HB.out⟩)
                · subst h3 h4
                  by_cases hmp : 0 < mp
                  · have hmd : decide (0 < mp) = true := by simpa using hmp
                    have HE : Stow (c = if (c0 :: m0 : List UInt8) = [] then 9 else 0) := ⟨by rw [HR7.out]; simp only [hmp, true_and]⟩
                    clear HR7 hmp
                    go_wp2_with fail
                    all_goals first
                      | (exfalso; omega)
                      | (go_ret
                         exact ⟨by rw [HE.out]; simp, HB.out⟩)
                  · have hmd : decide (0 < mp) = false := by simpa using hmp
                    have HE : Stow (c = 0) := ⟨by rw [HR7.out, if_neg]; simp only; intro h; exact hmp h.1⟩
                    clear HR7 hmp
                    go_wp2_with fail
                    all_goals first
                      | (exfalso; omega)
                      | (go_ret
                         exact ⟨by rw [HE.out]; rfl, HB.out⟩)
              · subst h1 h2
                rcases hgood2 with ⟨h3, h4⟩ | ⟨h3, h4⟩
                · have d3 : decide (dt < 1) = false := by simpa using h3
                  have d4 : decide (50 < dt) = false := by simpa using h4
                  by_cases hmp : 0 < mp
                  · have hmd : decide (0 < mp) = true := by simpa using hmp
                    have HE : Stow (c = if (c0 :: m0 : List UInt8) = [] then 9 else 0) := ⟨by rw [HR7.out]; simp only [hmp, true_and]⟩
                    clear HR7 hmp
                    go_wp2_with fail
                    all_goals first
                      | (exfalso; omega)
                      | (go_ret
                         exact ⟨by rw [HE.out]; simp, HB.out⟩)
                  · have hmd : decide (0 < mp) = false := by simpa using hmp
                    have HE : Stow (c = 0) := ⟨by rw [HR7.out, if_neg]; simp only; intro h; exact hmp h.1⟩
                    clear HR7 hmp
                    go_wp2_with fail
                    all_goals first
                      | (exfalso; omega)
                      | (go_ret
                         exact ⟨by rw [HE.out]; rfl, HB.out⟩)
                · subst h3 h4
                  by_cases hmp : 0 < mp
                  · have hmd : decide (0 < mp) = true := by simpa using hmp
                    have HE : Stow (c = if (c0 :: m0 : List UInt8) = [] then 9 else 0) := ⟨by rw [HR7.out]; simp only [hmp, true_and]⟩
                    clear HR7 hmp
                    go_wp2_with fail
                    all_goals first
                      | (exfalso; omega)
                      | (go_ret
                         exact ⟨by rw [HE.out]; simp, HB.out⟩)
                  · have hmd : decide (0 < mp) = false := by simpa using hmp
                    have HE : Stow (c = 0) := ⟨by rw [HR7.out, if_neg]; simp only; intro h; exact hmp h.1⟩
                    clear HR7 hmp
                    go_wp2_with fail
                    all_goals first
                      | (exfalso; omega)
                      | (go_ret
                         exact ⟨by rw [HE.out]; rfl, HB.out⟩)
            · have HE : Stow (c = 12) := ⟨by rw [← HCC.out]; exact Ct.rc6 HPR.out HNN.out HALL.out (.inr ht)⟩
              clear hs ht
              rcases hgood with ⟨h1, h2⟩ | ⟨h1, h2⟩
              · have d1 : decide (st < 400) = false := by simpa using h1
                have d2 : decide (599 < st) = false := by simpa using h2
                go_upto_region 17 with fail
                rcases hbad with ⟨h1, h2⟩ | ⟨h1, h2, h3⟩ | ⟨h1, h2⟩
                · have d1 : decide (dt < 1) = true := by simpa using h1
                  have d2 : (dt == 0) = false := by simpa using h2
                  go_wp2_with fail
                  all_goals first
                    | (exfalso; omega)
                    | (go_ret
                       exact ⟨by rw [HE.out]; rfl, HB.out⟩)
                · have d1 : decide (dt < 1) = false := by simpa using h1
                  have d3 : decide (50 < dt) = true := by simpa using h2
                  have d2 : (dt == 0) = false := by simpa using h3
                  go_wp2_with fail
                  all_goals first
                    | (exfalso; omega)
                    | (go_ret
                       exact ⟨by rw [HE.out]; rfl, HB.out⟩)
                · subst h1
                  have d2 : (dp == 0) = false := by simpa using h2
                  go_wp2_with fail
                  all_goals first
                    | (exfalso; omega)
                    | (go_ret
                       exact ⟨by rw [HE.out]; rfl, HB.out⟩)
              · subst h1 h2
                go_upto_region 17 with fail
                rcases hbad with ⟨h1, h2⟩ | ⟨h1, h2, h3⟩ | ⟨h1, h2⟩
                · have d1 : decide (dt < 1) = true := by simpa using h1
                  have d2 : (dt == 0) = false := by simpa using h2
                  go_wp2_with fail
                  all_goals first
                    | (exfalso; omega)
                    | (go_ret
                       exact ⟨by rw [HE.out]; rfl, HB.out⟩)
                · have d1 : decide (dt < 1) = false := by simpa using h1
                  have d3 : decide (50 < dt) = true := by simpa using h2
                  have d2 : (dt == 0) = false := by simpa using h3
                  go_wp2_with fail
                  all_goals first
                    | (exfalso; omega)
                    | (go_ret
                       exact ⟨by rw [HE.out]; rfl, HB.out⟩)
                · subst h1
                  have d2 : (dp == 0) = false := by simpa using h2
                  go_wp2_with fail
                  all_goals first
                    | (exfalso; omega)
                    | (go_ret
                       exact ⟨by rw [HE.out]; rfl, HB.out⟩)
          · have HE : Stow (c = 12) := ⟨by rw [← HCC.out]; exact Ct.rc6 HPR.out HNN.out HALL.out (.inl hs)⟩
            clear hs
            rcases hbad with ⟨h1, h2⟩ | ⟨h1, h2, h3⟩ | ⟨h1, h2⟩
            · have d1 : decide (st < 400) = true := by simpa using h1
              have d2 : (st == 0) = false := by simpa using h2
              go_wp2_with fail
              all_goals first
                | (exfalso; omega)
                | (go_ret
                   exact ⟨by rw [HE.out]; rfl, HB.out⟩)
            · have d1 : decide (st < 400) = false := by simpa using h1
              have d3 : decide (599 < st) = true := by simpa using h2
              have d2 : (st == 0) = false := by simpa using h3
              go_wp2_with fail
              all_goals first
                | (exfalso; omega)
                | (go_ret
                   exact ⟨by rw [HE.out]; rfl, HB.out⟩)
            · subst h1
              have d2 : (ap == 0) = false := by simpa using h2
              go_wp2_with fail
              all_goals first
                | (exfalso; omega)
                | (go_ret
                   exact ⟨by rw [HE.out]; rfl, HB.out⟩)
end Go.Proofs.YtfbhdkkmcfnghaaGreatDoor
end

section
namespace Go.Proofs.YtfbhdkkmcfnghaaGreatDoor
open Go.RowKit
set_option linter.unusedVariables false
set_option linter.unusedSimpArgs false

set_option maxHeartbeats 400000 in
set_option maxRecDepth 100000 in
theorem ctPrintable_any (l : List UInt8) (w : World) (hl : l.length ≤ 9223372036854775807) :
    Calls Tryz.prog 140 #[.string (bs l)] w fun e w' => e = .returned (.bool (Cf.fmtOk l)) ∧ w' = w := by
  go_enter Tryz.func140, Tryz.ntmps140
  go_wp2_with fail
  go_loop [3, 6] (fun _ v => ∃ i : Nat, v = .int .i64 (i : Int) ∧ i ≤ l.length ∧ Stow ((l.take i).all (fun b => decide (32 ≤ b.toNat) && decide (b.toNat ≤ 126)) = true)) (fun _ v => l.length - (intOf v).toNat)
  case atStart => exact ⟨0, rfl, by omega, ⟨rfl⟩⟩
  case round =>
    obtain ⟨i, rfl, hi', HA⟩ := hrel
    by_cases hlt : i < l.length
    · have hlb : i < (bs l).size := hlt
      obtain ⟨u, hu⟩ : ∃ u, (l[i]'hlb).toNat = u := ⟨_, rfl⟩
      have HU : Stow ((l[i]'hlt).toNat = u) := ⟨hu⟩
      by_cases h2 : 32 ≤ u
      all_goals by_cases h3 : u ≤ 126
      all_goals try (have d1 : decide (u < 32) = false := by simp; omega)
      all_goals try (have d1 : decide (u < 32) = true := by simp; omega)
      all_goals try (have d2 : decide (126 < u) = false := by simp; omega)
      all_goals try (have d2 : decide (126 < u) = true := by simp; omega)
      all_goals go_wp2_with fail
      all_goals first
        | exact ⟨⟨i + 1, rfl, by omega, ⟨all_take_succ hlt HA.out (each_byte HU.out (by omega) (by omega))⟩⟩, by simp [intOf]; omega⟩
        | (go_ret
           exact ⟨by unfold Cf.fmtOk Ms.eachB; rw [all_false_of hlt (each_byte_no HU.out (by omega))]; rfl, rfl⟩)
    · obtain rfl : i = l.length := by omega
      have HE : Stow (Cf.fmtOk l = decide (l.length ≤ 120)) := ⟨by
        have h := HA.out
        rw [List.take_length] at h
        unfold Cf.fmtOk Ms.eachB
        rw [h]
        simp⟩
      by_cases h120 : l.length ≤ 120
      · have h120i : (l.length : Int) ≤ 120 := by omega
        go_wp2_with fail
        go_ret
        exact ⟨by rw [HE.out]; simp [h120], rfl⟩
      · have h120i : ¬ (l.length : Int) ≤ 120 := by omega
        go_wp2_with fail
        go_ret
        exact ⟨by rw [HE.out]; simp [h120], rfl⟩
set_option maxHeartbeats 4000000 in
set_option maxRecDepth 100000 in
theorem tbCheck_any (N : List (List UInt8)) (NA : Option Addr) (nc : Nat) (c : Cf) (A : Option Addr) (cap : Nat) (R : List Rm) (w : World) (hN : SlR w 1 (.slice NA N.length nc) (strs N)) (h : RsR w A cap R) (hc : c.rs = R.map Rm.r) (hf : c.f.length ≤ 140737488355328) :
    Calls Tryz.prog 101 #[.agg #[.slice A R.length cap, .string (bs c.f)], .slice NA N.length nc] w fun e w' => e = .returned (.int .i64 (Ct.check N c : Nat)) ∧ Below w.heap.size w w' := by
  have HR := Stow.mk h
  have HN := Stow.mk hN
  have hfl : c.f.length ≤ 140737488355328 := hf
  obtain ⟨n, hn⟩ : ∃ n, R.length = n := ⟨_, rfl⟩
  have HNL := Stow.mk hn
  have hnl : n ≤ 9223372036854775807 := by have := SlR.len h.row; rw [List.length_map] at this; omega
  have HC : Stow (c.rs = R.map Rm.r) := ⟨hc⟩
  obtain ⟨crs, cf⟩ := c
  simp only at HC hfl
  rw [hn]
  clear h hf hc hn hN
  have HFM := Stow.mk (fun W => ctPrintable_any cf W (by omega))
  obtain ⟨ok, hok⟩ : ∃ b, Cf.fmtOk cf = b := ⟨_, rfl⟩
  rw [hok] at HFM
  have HOK := Stow.mk hok
  clear hok
  have hp0 := Held.made w [.slice A n cap, .string (bs cf)] 54
  have HB := Stow.mk (Below.alloc' (Below.self w) (.cells #[.slice A n cap, .string (bs cf)] 54))
  obtain ⟨W, hW⟩ : ∃ W, w.alloc (.cells #[.slice A n cap, .string (bs cf)] 54) = W := ⟨_, rfl⟩
  rw [show w.alloc (.cells [.slice A n cap, .string (bs cf)].toArray 54) = W from hW] at hp0
  rw [hW] at HB
  have HW := Stow.mk hW
  have HP := Stow.mk hp0
  have p0 := hp0.cell (i := 0) rfl
  have p1 := hp0.cell (i := 1) rfl
  clear hp0 hW
  cases ok with
  | false =>
    have HE : Stow (Ct.check N ⟨crs, cf⟩ = 15) := ⟨by unfold Ct.check; rw [if_pos HOK.out]⟩
    go_enter Tryz.func101, Tryz.ntmps101
    go_upto_region 1 with fail
    rw [HW.out]
    go_wp2_with fail
    refine (HFM.out _).mono ?_
    rintro e w1 ⟨rfl, rfl⟩
    go_wp2_with fail
    go_ret
    exact ⟨by rw [HE.out]; rfl, HB.out⟩
  | true =>
    have hlc : crs.length = n := by rw [HC.out, List.length_map, HNL.out]
    by_cases h16 : 16 < n
    · have HE : Stow (Ct.check N ⟨crs, cf⟩ = 8) := ⟨by unfold Ct.check; rw [if_neg (by simp [HOK.out]), if_pos (by simp only; omega)]⟩
      have h16i : (16 : Int) < n := by omega
      clear hlc
      go_enter Tryz.func101, Tryz.ntmps101
      go_upto_region 1 with fail
      rw [HW.out]
      go_wp2_with fail
      refine (HFM.out _).mono ?_
      rintro e w1 ⟨rfl, rfl⟩
      go_wp2_with fail
      go_ret
      exact ⟨by rw [HE.out]; rfl, HB.out⟩
    · have HE : Stow (Ct.check N ⟨crs, cf⟩ = Cf.firstErr (Ct.rcheck N) crs) := ⟨by unfold Ct.check; rw [if_neg (by simp [HOK.out]), if_neg (by simp only; omega)]⟩
      have h16i : ¬ (16 : Int) < n := by omega
      clear hlc
      go_enter Tryz.func101, Tryz.ntmps101
      go_upto_region 1 with fail
      rw [HW.out]
      go_wp2_with fail
      refine (HFM.out _).mono ?_
      rintro e w1 ⟨rfl, rfl⟩
      go_wp2_with fail
      clear p0 p1
      go_loopw [6, 7, 21] (fun _ _ u wr => ∃ i : Nat, u = .int .i64 (i : Int) ∧ i ≤ n ∧ Stow (∀ j (hj : j < crs.length), j < i → Ct.rcheck N crs[j] = 0) ∧ Stow (Below w1.heap.size w1 wr)) (fun _ _ u _ => n - (intOf u).toNat)
      case atStart => exact ⟨0, rfl, by omega, ⟨fun j hj h => by omega⟩, ⟨Below.self _⟩⟩
      case round =>
        obtain ⟨i, rfl, hi, HZ, HBR⟩ := hrel
        have p0 := (HP.out.kept HBR.out).cell (i := 0) rfl
        by_cases hlt : i < n
        · have hlt' : i < R.length := by rw [HNL.out]; exact hlt
          have hltc : i < crs.length := by rw [HC.out, List.length_map]; exact hlt'
          have hbw := HB.out.trans (HBR.out.mono HB.out.size)
          obtain ⟨b, off, rfl, hblt, _⟩ := SlR.open HR.out.row (by simp; omega)
          have hra := (rm_at (SlR.keep HR.out.row hbw) hlt').2
          have hre := (HR.out.each _ (List.getElem_mem hlt')).keep hbw
          have hcr : crs[i] = R[i].r := by simp [HC.out]
          obtain ⟨m, hm⟩ : ∃ m, R[i] = m := ⟨_, rfl⟩
          rw [hm] at hra hre hcr
          have HCR := Stow.mk hcr
          obtain ⟨⟨rank, ps, tg, ap, st, dp, dt, mp, mi, sm⟩, mA, mcap⟩ := m
          have q0 : wr.cell? ⟨b, off + i * 10, none⟩ = some (.int .i64 rank) := hra 0 _ rfl
          have q1 := hra 1 _ rfl
          have q2 := hra 2 _ rfl
          have q3 := hra 3 _ rfl
          have q4 := hra 4 _ rfl
          have q5 := hra 5 _ rfl
          have q6 := hra 6 _ rfl
          have q7 := hra 7 _ rfl
          have q8 := hra 8 _ rfl
          have q9 := hra 9 _ rfl
          simp only at q1 q2 q3 q4 q5 q6 q7 q8 q9
          have HBX := Stow.mk (Below.alloc' (Below.self wr) (.cells #[.int .i64 rank, .slice mA ps.length mcap, .string (bs tg), .int .i64 ap, .int .i64 st, .int .i64 dp, .int .i64 dt, .int .i64 mp, .string (bs mi), .int .i64 sm] 95))
          have HCK := Stow.mk (ruleCheck_any ⟨⟨rank, ps, tg, ap, st, dp, dt, mp, mi, sm⟩, mA, mcap⟩ N NA nc (wr.alloc (.cells #[.int .i64 rank, .slice mA ps.length mcap, .string (bs tg), .int .i64 ap, .int .i64 st, .int .i64 dp, .int .i64 dt, .int .i64 mp, .string (bs mi), .int .i64 sm] 95)) (hre.keep HBX.out) ((HN.out.keep hbw).keep HBX.out))
          obtain ⟨er, her⟩ : ∃ e, Ct.rcheck N ⟨rank, ps, tg, ap, st, dp, dt, mp, mi, sm⟩ = e := ⟨_, rfl⟩
          simp only at HCK
          rw [her] at HCK
          unfold Rm.cells at HCK
          have HER := Stow.mk her
          have hii : (i : Int) < n := by omega
          have hi0 : (0 : Int) ≤ i := by omega
          clear hm her hre hra hcr hbw
          by_cases h0 : er = 0
          · subst h0
            go_wp2_with fail
            refine HCK.out.mono ?_
            rintro e w3 ⟨rfl, hb3⟩
            have HB1 := Stow.mk (HBR.out.trans ((HBX.out.trans (hb3.mono HBX.out.size)).mono HBR.out.size))
            clear hb3 q0 q1 q2 q3 q4 q5 q6 q7 q8 q9
            go_wp2_with fail
            refine ⟨⟨i + 1, by simp, by omega, ⟨fun j hj hji => ?_⟩, HB1⟩, by simp [intOf]; omega⟩
            by_cases hjl : j < i
            · exact HZ.out j hj hjl
            · obtain rfl : j = i := by omega
              rw [HCR.out]
              exact HER.out
          · have hne : ((er : Int) == 0) = false := by simp; omega
            have HEE : Stow (Ct.check N ⟨crs, cf⟩ = er) := ⟨by
              have h1 := Cf.firstErr_at (e := Ct.rcheck N) hltc (fun j hj => HZ.out j (by omega) hj) (by rw [HCR.out]; simp only; rw [HER.out]; exact h0)
              rw [HE.out, h1, HCR.out]
              exact HER.out⟩
            have hnz : ¬ (er : Int) = 0 := by omega
            go_wp2_with fail
            refine HCK.out.mono ?_
            rintro e w3 ⟨rfl, hb3⟩
            have HB1 := Stow.mk (HB.out.trans ((HBR.out.trans ((HBX.out.trans (hb3.mono HBX.out.size)).mono HBR.out.size)).mono HB.out.size))
            clear hb3 q0 q1 q2 q3 q4 q5 q6 q7 q8 q9
            go_wp2_with fail
            go_ret
            exact ⟨by rw [HEE.out]; rfl, HB1.out⟩
        · obtain rfl : i = n := by omega
          have HEE : Stow (Ct.check N ⟨crs, cf⟩ = 0) := ⟨by
            rw [HE.out]
            exact Cf.firstErr_none (fun j hj => HZ.out j hj (by rw [HC.out, List.length_map, HNL.out] at hj; exact hj))⟩
          have hii : ¬ (i : Int) < i := by omega
          go_wp2_with fail
          go_ret
          exact ⟨by rw [HEE.out]; rfl, HB.out.trans (HBR.out.mono HB.out.size)⟩
set_option maxHeartbeats 4000000 in
set_option maxRecDepth 100000 in
theorem refTbCheck_any (N : List (List UInt8)) (NA : Option Addr) (nc : Nat) (c : Cf) (A : Option Addr) (cap : Nat) (R : List Rm) (w : World) (hN : SlR w 1 (.slice NA N.length nc) (strs N)) (h : RsR w A cap R) (hc : c.rs = R.map Rm.r) (hf : c.f.length ≤ 140737488355328) :
    Calls Tryz.prog 105 #[.agg #[.slice A R.length cap, .string (bs c.f)], .slice NA N.length nc] w fun e w' => e = .returned (.int .i64 (Ct.check N c : Nat)) ∧ Below w.heap.size w w' := by
  have HR := Stow.mk h
  have HN := Stow.mk hN
  have hfl : c.f.length ≤ 140737488355328 := hf
  obtain ⟨n, hn⟩ : ∃ n, R.length = n := ⟨_, rfl⟩
  have HNL := Stow.mk hn
  have hnl : n ≤ 9223372036854775807 := by have := SlR.len h.row; rw [List.length_map] at this; omega
  have HC : Stow (c.rs = R.map Rm.r) := ⟨hc⟩
  obtain ⟨crs, cf⟩ := c
  simp only at HC hfl
  rw [hn]
  clear h hf hc hn hN
  have HFM := Stow.mk (fun W => refFormat_any cf W (by omega))
  obtain ⟨ok, hok⟩ : ∃ b, Cf.fmtOk cf = b := ⟨_, rfl⟩
  rw [hok] at HFM
  have HOK := Stow.mk hok
  clear hok
  have hp0 := Held.made w [.slice A n cap, .string (bs cf)] 54
  have HB := Stow.mk (Below.alloc' (Below.self w) (.cells #[.slice A n cap, .string (bs cf)] 54))
  obtain ⟨W, hW⟩ : ∃ W, w.alloc (.cells #[.slice A n cap, .string (bs cf)] 54) = W := ⟨_, rfl⟩
  rw [show w.alloc (.cells [.slice A n cap, .string (bs cf)].toArray 54) = W from hW] at hp0
  rw [hW] at HB
  have HW := Stow.mk hW
  have HP := Stow.mk hp0
  have p0 := hp0.cell (i := 0) rfl
  have p1 := hp0.cell (i := 1) rfl
  clear hp0 hW
  cases ok with
  | false =>
    have HE : Stow (Ct.check N ⟨crs, cf⟩ = 15) := ⟨by unfold Ct.check; rw [if_pos HOK.out]⟩
    go_enter Tryz.func105, Tryz.ntmps105
    go_upto_region 1 with fail
    rw [HW.out]
    go_wp2_with fail
    refine (HFM.out _).mono ?_
    rintro e w1 ⟨rfl, rfl⟩
    go_wp2_with fail
    go_ret
    exact ⟨by rw [HE.out]; rfl, HB.out⟩
  | true =>
    have hlc : crs.length = n := by rw [HC.out, List.length_map, HNL.out]
    by_cases h16 : 16 < n
    · have HE : Stow (Ct.check N ⟨crs, cf⟩ = 8) := ⟨by unfold Ct.check; rw [if_neg (by simp [HOK.out]), if_pos (by simp only; omega)]⟩
      have h16i : (16 : Int) < n := by omega
      clear hlc
      go_enter Tryz.func105, Tryz.ntmps105
      go_upto_region 1 with fail
      rw [HW.out]
      go_wp2_with fail
      refine (HFM.out _).mono ?_
      rintro e w1 ⟨rfl, rfl⟩
      go_wp2_with fail
      go_ret
      exact ⟨by rw [HE.out]; rfl, HB.out⟩
    · have HE : Stow (Ct.check N ⟨crs, cf⟩ = Cf.firstErr (Ct.rcheck N) crs) := ⟨by unfold Ct.check; rw [if_neg (by simp [HOK.out]), if_neg (by simp only; omega)]⟩
      have h16i : ¬ (16 : Int) < n := by omega
      clear hlc
      go_enter Tryz.func105, Tryz.ntmps105
      go_upto_region 1 with fail
      rw [HW.out]
      go_wp2_with fail
      refine (HFM.out _).mono ?_
      rintro e w1 ⟨rfl, rfl⟩
      go_wp2_with fail
      clear p0 p1
      go_loopw [5, 6] (fun u _ wr => ∃ i : Nat, u = .int .i64 (i : Int) ∧ i ≤ n ∧ Stow (∀ j (hj : j < crs.length), j < i → Ct.rcheck N crs[j] = 0) ∧ Stow (Below w1.heap.size w1 wr)) (fun u _ _ => n - (intOf u).toNat)
      case atStart => exact ⟨0, rfl, by omega, ⟨fun j hj h => by omega⟩, ⟨Below.self _⟩⟩
      case round =>
        obtain ⟨i, rfl, hi, HZ, HBR⟩ := hrel
        have p0 := (HP.out.kept HBR.out).cell (i := 0) rfl
        by_cases hlt : i < n
        · have hlt' : i < R.length := by rw [HNL.out]; exact hlt
          have hltc : i < crs.length := by rw [HC.out, List.length_map]; exact hlt'
          have hbw := HB.out.trans (HBR.out.mono HB.out.size)
          obtain ⟨b, off, rfl, hblt, _⟩ := SlR.open HR.out.row (by simp; omega)
          have hra := (rm_at (SlR.keep HR.out.row hbw) hlt').2
          have hre := (HR.out.each _ (List.getElem_mem hlt')).keep hbw
          have hcr : crs[i] = R[i].r := by simp [HC.out]
          obtain ⟨m, hm⟩ : ∃ m, R[i] = m := ⟨_, rfl⟩
          rw [hm] at hra hre hcr
          have HCR := Stow.mk hcr
          obtain ⟨⟨rank, ps, tg, ap, st, dp, dt, mp, mi, sm⟩, mA, mcap⟩ := m
          have q0 : wr.cell? ⟨b, off + i * 10, none⟩ = some (.int .i64 rank) := hra 0 _ rfl
          have q1 := hra 1 _ rfl
          have q2 := hra 2 _ rfl
          have q3 := hra 3 _ rfl
          have q4 := hra 4 _ rfl
          have q5 := hra 5 _ rfl
          have q6 := hra 6 _ rfl
          have q7 := hra 7 _ rfl
          have q8 := hra 8 _ rfl
          have q9 := hra 9 _ rfl
          simp only at q1 q2 q3 q4 q5 q6 q7 q8 q9
          have HBX := Stow.mk (Below.self wr)
          have HCK := Stow.mk (refRuleCheck_any ⟨⟨rank, ps, tg, ap, st, dp, dt, mp, mi, sm⟩, mA, mcap⟩ N NA nc wr hre (HN.out.keep hbw))
          obtain ⟨er, her⟩ : ∃ e, Ct.rcheck N ⟨rank, ps, tg, ap, st, dp, dt, mp, mi, sm⟩ = e := ⟨_, rfl⟩
          simp only at HCK
          rw [her] at HCK
          unfold Rm.cells at HCK
          have HER := Stow.mk her
          have hii : (i : Int) < n := by omega
          have hi0 : (0 : Int) ≤ i := by omega
          clear hm her hre hra hcr hbw
          by_cases h0 : er = 0
          · subst h0
            go_wp2_with fail
            refine HCK.out.mono ?_
            rintro e w3 ⟨rfl, hb3⟩
            have HB1 := Stow.mk (HBR.out.trans ((HBX.out.trans (hb3.mono HBX.out.size)).mono HBR.out.size))
            clear hb3 q0 q1 q2 q3 q4 q5 q6 q7 q8 q9
            go_wp2_with fail
            refine ⟨⟨i + 1, by simp, by omega, ⟨fun j hj hji => ?_⟩, HB1⟩, by simp [intOf]; omega⟩
            by_cases hjl : j < i
            · exact HZ.out j hj hjl
            · obtain rfl : j = i := by omega
              rw [HCR.out]
              exact HER.out
          · have hne : ((er : Int) == 0) = false := by simp; omega
            have HEE : Stow (Ct.check N ⟨crs, cf⟩ = er) := ⟨by
              have h1 := Cf.firstErr_at (e := Ct.rcheck N) hltc (fun j hj => HZ.out j (by omega) hj) (by rw [HCR.out]; simp only; rw [HER.out]; exact h0)
              rw [HE.out, h1, HCR.out]
              exact HER.out⟩
            have hnz : ¬ (er : Int) = 0 := by omega
            go_wp2_with fail
            refine HCK.out.mono ?_
            rintro e w3 ⟨rfl, hb3⟩
            have HB1 := Stow.mk (HB.out.trans ((HBR.out.trans ((HBX.out.trans (hb3.mono HBX.out.size)).mono HBR.out.size)).mono HB.out.size))
            clear hb3 q0 q1 q2 q3 q4 q5 q6 q7 q8 q9
            go_wp2_with fail
            go_ret
            exact ⟨by rw [HEE.out]; rfl, HB1.out⟩
        · obtain rfl : i = n := by omega
          have HEE : Stow (Ct.check N ⟨crs, cf⟩ = 0) := ⟨by
            rw [HE.out]
            exact Cf.firstErr_none (fun j hj => HZ.out j hj (by rw [HC.out, List.length_map, HNL.out] at hj; exact hj))⟩
          have hii : ¬ (i : Int) < i := by omega
          go_wp2_with fail
          go_ret
          exact ⟨by rw [HEE.out]; rfl, HB.out.trans (HBR.out.mono HB.out.size)⟩
end Go.Proofs.YtfbhdkkmcfnghaaGreatDoor
end
