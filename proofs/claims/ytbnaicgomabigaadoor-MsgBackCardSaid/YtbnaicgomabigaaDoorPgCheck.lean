/- Walks of prog.Check and the reference's Check, CheckAll of both. Conditions: texts no longer than an int can say; a slice's own. -/
import Derived.Test.YtbnaicgomabigaaDoorPgShape
namespace Go.Proofs.YtbnaicgomabigaaDoor
open Go.RowKit
set_option linter.unusedVariables false


theorem op_kept {w w1 w2 : World} {k : Int} {a b : List UInt8} {n : Int} {S : List Value} (hb1 : Below (w.alloc (.cells #[.int .i64 k, .string (bs a), .string (bs b), .int .i64 n] 23)).heap.size (w.alloc (.cells #[.int .i64 k, .string (bs a), .string (bs b), .int .i64 n] 23)) w1)
    (hb2 : Below (w1.alloc (.cells S.toArray 75)).heap.size (w1.alloc (.cells S.toArray 75)) w2) :
    Held w2 w.heap.size [.int .i64 k, .string (bs a), .string (bs b), .int .i64 n] ∧ Held w2 w1.heap.size S ∧ Below w.heap.size w w2 := by
  have h1 := (Held.made w [.int .i64 k, .string (bs a), .string (bs b), .int .i64 n] 23).kept hb1
  refine ⟨(h1.kept (Below.alloc' (Below.self w1) _)).kept hb2, (Held.made w1 S 75).kept hb2, ?_⟩
  exact Below.call (Below.alloc' (Below.call (Below.alloc' (Below.self _) _) hb1) _) hb2

set_option maxHeartbeats 4000000 in
set_option maxRecDepth 100000 in
theorem pgRef1 (a b : List UInt8) (n : Int) (w : World) (ha : a.length ≤ 140737488355328) (hb : b.length ≤ 140737488355328) :
    Calls Tryd.prog 19 #[.agg #[.int .i64 1, .string (bs a), .string (bs b), .int .i64 n]] w fun e w' => e = .returned (.int .i64 (Pg.check ⟨1, a, b, n⟩ : Nat)) ∧ Below w.heap.size w w' := by
  by_cases h2 : b = []
  rotate_left
  · have h2e : b.isEmpty = false := by simpa using h2
    have HR : Stow (Pg.check ⟨1, a, b, n⟩ = 2) := ⟨by simp [Pg.check, Pg.noA, Pg.noB, h2]⟩
    go_enter Tryd.func19, Tryd.ntmps19
    go_wp2_with fail
    repeat (first
      | (go_at_call 58; refine (refName_any _ _ (by omega)).mono ?_; rw [hN.out]; rintro e w1 ⟨rfl, rfl⟩; go_wp2_with fail)
      | (go_at_call 30; refine (refValue_any _ _ (by omega)).mono ?_; rw [hV.out]; rintro e w1 ⟨rfl, rfl⟩; go_wp2_with fail)
      | (go_at_call 59; refine (refPath_any _ _ (by omega)).mono ?_; rw [hP.out]; rintro e w1 ⟨rfl, rfl⟩; go_wp2_with fail))
    go_ret
    exact ⟨by rw [HR.out]; rfl, Below.alloc' (Below.self _) _⟩
  subst h2
  by_cases h3 : n = 0
  rotate_left
  · have h3e : (n != 0) = true := by rw [bne_iff_ne]; exact h3
    have HR : Stow (Pg.check ⟨1, a, [], n⟩ = 2) := ⟨by simp [Pg.check, Pg.noA, Pg.noB, h3]⟩
    go_enter Tryd.func19, Tryd.ntmps19
    go_wp2_with fail
    repeat (first
      | (go_at_call 58; refine (refName_any _ _ (by omega)).mono ?_; rw [hN.out]; rintro e w1 ⟨rfl, rfl⟩; go_wp2_with fail)
      | (go_at_call 30; refine (refValue_any _ _ (by omega)).mono ?_; rw [hV.out]; rintro e w1 ⟨rfl, rfl⟩; go_wp2_with fail)
      | (go_at_call 59; refine (refPath_any _ _ (by omega)).mono ?_; rw [hP.out]; rintro e w1 ⟨rfl, rfl⟩; go_wp2_with fail))
    go_ret
    exact ⟨by rw [HR.out]; rfl, Below.alloc' (Below.self _) _⟩
  subst h3
  obtain ⟨cV, hcV⟩ : ∃ c, Ms.valueOk a = c := ⟨_, rfl⟩
  have hV := Stow.mk hcV
  cases cV
  · have hFa : Stow (Pg.fits a 1 = 15) := ⟨by simp [Pg.fits, hcV]⟩
    have HR : Stow (Pg.check ⟨1, a, [], 0⟩ = 15) := ⟨by simp [Pg.check, Pg.noA, Pg.noB, hcV]⟩
    clear hcV
    go_enter Tryd.func19, Tryd.ntmps19
    go_wp2_with fail
    repeat (first
      | (go_at_call 58; refine (refName_any _ _ (by omega)).mono ?_; rw [hN.out]; rintro e w1 ⟨rfl, rfl⟩; go_wp2_with fail)
      | (go_at_call 30; refine (refValue_any _ _ (by omega)).mono ?_; rw [hV.out]; rintro e w1 ⟨rfl, rfl⟩; go_wp2_with fail)
      | (go_at_call 59; refine (refPath_any _ _ (by omega)).mono ?_; rw [hP.out]; rintro e w1 ⟨rfl, rfl⟩; go_wp2_with fail))
    go_ret
    exact ⟨by rw [HR.out]; rfl, Below.alloc' (Below.self _) _⟩
  have hFa : Stow (Pg.fits a 1 = 0) := ⟨by simp [Pg.fits, hcV]⟩
  have hFb : Stow (Pg.fits [] 0 = 0) := ⟨rfl⟩
  have HR : Stow (Pg.check ⟨1, a, [], 0⟩ = 0) := ⟨by simp [Pg.check, Pg.noA, Pg.noB, hcV]⟩
  clear hcV
  go_enter Tryd.func19, Tryd.ntmps19
  go_wp2_with fail
  repeat (first
    | (go_at_call 58; refine (refName_any _ _ (by omega)).mono ?_; rw [hN.out]; rintro e w1 ⟨rfl, rfl⟩; go_wp2_with fail)
    | (go_at_call 30; refine (refValue_any _ _ (by omega)).mono ?_; rw [hV.out]; rintro e w1 ⟨rfl, rfl⟩; go_wp2_with fail)
    | (go_at_call 59; refine (refPath_any _ _ (by omega)).mono ?_; rw [hP.out]; rintro e w1 ⟨rfl, rfl⟩; go_wp2_with fail))
  go_ret
  exact ⟨by rw [HR.out]; rfl, Below.alloc' (Below.self _) _⟩

set_option maxHeartbeats 4000000 in
set_option maxRecDepth 100000 in
theorem pgRef2 (a b : List UInt8) (n : Int) (w : World) (ha : a.length ≤ 140737488355328) (hb : b.length ≤ 140737488355328) :
    Calls Tryd.prog 19 #[.agg #[.int .i64 2, .string (bs a), .string (bs b), .int .i64 n]] w fun e w' => e = .returned (.int .i64 (Pg.check ⟨2, a, b, n⟩ : Nat)) ∧ Below w.heap.size w w' := by
  by_cases h2 : b = []
  rotate_left
  · have h2e : b.isEmpty = false := by simpa using h2
    have HR : Stow (Pg.check ⟨2, a, b, n⟩ = 2) := ⟨by simp [Pg.check, Pg.noA, Pg.noB, h2]⟩
    go_enter Tryd.func19, Tryd.ntmps19
    go_wp2_with fail
    repeat (first
      | (go_at_call 58; refine (refName_any _ _ (by omega)).mono ?_; rw [hN.out]; rintro e w1 ⟨rfl, rfl⟩; go_wp2_with fail)
      | (go_at_call 30; refine (refValue_any _ _ (by omega)).mono ?_; rw [hV.out]; rintro e w1 ⟨rfl, rfl⟩; go_wp2_with fail)
      | (go_at_call 59; refine (refPath_any _ _ (by omega)).mono ?_; rw [hP.out]; rintro e w1 ⟨rfl, rfl⟩; go_wp2_with fail))
    go_ret
    exact ⟨by rw [HR.out]; rfl, Below.alloc' (Below.self _) _⟩
  subst h2
  by_cases h3 : n = 0
  rotate_left
  · have h3e : (n != 0) = true := by rw [bne_iff_ne]; exact h3
    have HR : Stow (Pg.check ⟨2, a, [], n⟩ = 2) := ⟨by simp [Pg.check, Pg.noA, Pg.noB, h3]⟩
    go_enter Tryd.func19, Tryd.ntmps19
    go_wp2_with fail
    repeat (first
      | (go_at_call 58; refine (refName_any _ _ (by omega)).mono ?_; rw [hN.out]; rintro e w1 ⟨rfl, rfl⟩; go_wp2_with fail)
      | (go_at_call 30; refine (refValue_any _ _ (by omega)).mono ?_; rw [hV.out]; rintro e w1 ⟨rfl, rfl⟩; go_wp2_with fail)
      | (go_at_call 59; refine (refPath_any _ _ (by omega)).mono ?_; rw [hP.out]; rintro e w1 ⟨rfl, rfl⟩; go_wp2_with fail))
    go_ret
    exact ⟨by rw [HR.out]; rfl, Below.alloc' (Below.self _) _⟩
  subst h3
  obtain ⟨cN, hcN⟩ : ∃ c, nameOk a = c := ⟨_, rfl⟩
  have hN := Stow.mk hcN
  cases cN
  · have hFa : Stow (Pg.fits a 2 = 7) := ⟨by simp [Pg.fits, hcN]⟩
    have HR : Stow (Pg.check ⟨2, a, [], 0⟩ = 7) := ⟨by simp [Pg.check, Pg.noA, Pg.noB, hcN]⟩
    clear hcN
    go_enter Tryd.func19, Tryd.ntmps19
    go_wp2_with fail
    repeat (first
      | (go_at_call 58; refine (refName_any _ _ (by omega)).mono ?_; rw [hN.out]; rintro e w1 ⟨rfl, rfl⟩; go_wp2_with fail)
      | (go_at_call 30; refine (refValue_any _ _ (by omega)).mono ?_; rw [hV.out]; rintro e w1 ⟨rfl, rfl⟩; go_wp2_with fail)
      | (go_at_call 59; refine (refPath_any _ _ (by omega)).mono ?_; rw [hP.out]; rintro e w1 ⟨rfl, rfl⟩; go_wp2_with fail))
    go_ret
    exact ⟨by rw [HR.out]; rfl, Below.alloc' (Below.self _) _⟩
  have hFa : Stow (Pg.fits a 2 = 0) := ⟨by simp [Pg.fits, hcN]⟩
  have hFb : Stow (Pg.fits [] 0 = 0) := ⟨rfl⟩
  have HR : Stow (Pg.check ⟨2, a, [], 0⟩ = 0) := ⟨by simp [Pg.check, Pg.noA, Pg.noB, hcN]⟩
  clear hcN
  go_enter Tryd.func19, Tryd.ntmps19
  go_wp2_with fail
  repeat (first
    | (go_at_call 58; refine (refName_any _ _ (by omega)).mono ?_; rw [hN.out]; rintro e w1 ⟨rfl, rfl⟩; go_wp2_with fail)
    | (go_at_call 30; refine (refValue_any _ _ (by omega)).mono ?_; rw [hV.out]; rintro e w1 ⟨rfl, rfl⟩; go_wp2_with fail)
    | (go_at_call 59; refine (refPath_any _ _ (by omega)).mono ?_; rw [hP.out]; rintro e w1 ⟨rfl, rfl⟩; go_wp2_with fail))
  go_ret
  exact ⟨by rw [HR.out]; rfl, Below.alloc' (Below.self _) _⟩

set_option maxHeartbeats 4000000 in
set_option maxRecDepth 100000 in
theorem pgRef3 (a b : List UInt8) (n : Int) (w : World) (ha : a.length ≤ 140737488355328) (hb : b.length ≤ 140737488355328) :
    Calls Tryd.prog 19 #[.agg #[.int .i64 3, .string (bs a), .string (bs b), .int .i64 n]] w fun e w' => e = .returned (.int .i64 (Pg.check ⟨3, a, b, n⟩ : Nat)) ∧ Below w.heap.size w w' := by
  by_cases h3 : n = 0
  rotate_left
  · have h3e : (n != 0) = true := by rw [bne_iff_ne]; exact h3
    have HR : Stow (Pg.check ⟨3, a, b, n⟩ = 2) := ⟨by simp [Pg.check, Pg.noA, Pg.noB, h3]⟩
    go_enter Tryd.func19, Tryd.ntmps19
    go_wp2_with fail
    repeat (first
      | (go_at_call 58; refine (refName_any _ _ (by omega)).mono ?_; rw [hN.out]; rintro e w1 ⟨rfl, rfl⟩; go_wp2_with fail)
      | (go_at_call 30; refine (refValue_any _ _ (by omega)).mono ?_; rw [hV.out]; rintro e w1 ⟨rfl, rfl⟩; go_wp2_with fail)
      | (go_at_call 59; refine (refPath_any _ _ (by omega)).mono ?_; rw [hP.out]; rintro e w1 ⟨rfl, rfl⟩; go_wp2_with fail))
    go_ret
    exact ⟨by rw [HR.out]; rfl, Below.alloc' (Below.self _) _⟩
  subst h3
  obtain ⟨cN, hcN⟩ : ∃ c, nameOk a = c := ⟨_, rfl⟩
  have hN := Stow.mk hcN
  cases cN
  · have hFa : Stow (Pg.fits a 2 = 7) := ⟨by simp [Pg.fits, hcN]⟩
    have HR : Stow (Pg.check ⟨3, a, b, 0⟩ = 7) := ⟨by simp [Pg.check, Pg.noA, Pg.noB, hcN]⟩
    clear hcN
    go_enter Tryd.func19, Tryd.ntmps19
    go_wp2_with fail
    repeat (first
      | (go_at_call 58; refine (refName_any _ _ (by omega)).mono ?_; rw [hN.out]; rintro e w1 ⟨rfl, rfl⟩; go_wp2_with fail)
      | (go_at_call 30; refine (refValue_any _ _ (by omega)).mono ?_; rw [hV.out]; rintro e w1 ⟨rfl, rfl⟩; go_wp2_with fail)
      | (go_at_call 59; refine (refPath_any _ _ (by omega)).mono ?_; rw [hP.out]; rintro e w1 ⟨rfl, rfl⟩; go_wp2_with fail))
    go_ret
    exact ⟨by rw [HR.out]; rfl, Below.alloc' (Below.self _) _⟩
  have hFa : Stow (Pg.fits a 2 = 0) := ⟨by simp [Pg.fits, hcN]⟩
  obtain ⟨cV, hcV⟩ : ∃ c, Ms.valueOk b = c := ⟨_, rfl⟩
  have hV := Stow.mk hcV
  cases cV
  · have hFb : Stow (Pg.fits b 1 = 15) := ⟨by simp [Pg.fits, hcV]⟩
    have HR : Stow (Pg.check ⟨3, a, b, 0⟩ = 15) := ⟨by simp [Pg.check, Pg.noA, Pg.noB, hcN, hcV]⟩
    clear hcV hcN
    go_enter Tryd.func19, Tryd.ntmps19
    go_wp2_with fail
    repeat (first
      | (go_at_call 58; refine (refName_any _ _ (by omega)).mono ?_; rw [hN.out]; rintro e w1 ⟨rfl, rfl⟩; go_wp2_with fail)
      | (go_at_call 30; refine (refValue_any _ _ (by omega)).mono ?_; rw [hV.out]; rintro e w1 ⟨rfl, rfl⟩; go_wp2_with fail)
      | (go_at_call 59; refine (refPath_any _ _ (by omega)).mono ?_; rw [hP.out]; rintro e w1 ⟨rfl, rfl⟩; go_wp2_with fail))
    go_ret
    exact ⟨by rw [HR.out]; rfl, Below.alloc' (Below.self _) _⟩
  have hFb : Stow (Pg.fits b 1 = 0) := ⟨by simp [Pg.fits, hcV]⟩
  have HR : Stow (Pg.check ⟨3, a, b, 0⟩ = 0) := ⟨by simp [Pg.check, Pg.noA, Pg.noB, hcN, hcV]⟩
  clear hcN
  clear hcV
  go_enter Tryd.func19, Tryd.ntmps19
  go_wp2_with fail
  repeat (first
    | (go_at_call 58; refine (refName_any _ _ (by omega)).mono ?_; rw [hN.out]; rintro e w1 ⟨rfl, rfl⟩; go_wp2_with fail)
    | (go_at_call 30; refine (refValue_any _ _ (by omega)).mono ?_; rw [hV.out]; rintro e w1 ⟨rfl, rfl⟩; go_wp2_with fail)
    | (go_at_call 59; refine (refPath_any _ _ (by omega)).mono ?_; rw [hP.out]; rintro e w1 ⟨rfl, rfl⟩; go_wp2_with fail))
  go_ret
  exact ⟨by rw [HR.out]; rfl, Below.alloc' (Below.self _) _⟩

set_option maxHeartbeats 4000000 in
set_option maxRecDepth 100000 in
theorem pgRef4 (a b : List UInt8) (n : Int) (w : World) (ha : a.length ≤ 140737488355328) (hb : b.length ≤ 140737488355328) :
    Calls Tryd.prog 19 #[.agg #[.int .i64 4, .string (bs a), .string (bs b), .int .i64 n]] w fun e w' => e = .returned (.int .i64 (Pg.check ⟨4, a, b, n⟩ : Nat)) ∧ Below w.heap.size w w' := by
  by_cases h2 : b = []
  rotate_left
  · have h2e : b.isEmpty = false := by simpa using h2
    have HR : Stow (Pg.check ⟨4, a, b, n⟩ = 2) := ⟨by simp [Pg.check, Pg.noA, Pg.noB, h2]⟩
    go_enter Tryd.func19, Tryd.ntmps19
    go_wp2_with fail
    repeat (first
      | (go_at_call 58; refine (refName_any _ _ (by omega)).mono ?_; rw [hN.out]; rintro e w1 ⟨rfl, rfl⟩; go_wp2_with fail)
      | (go_at_call 30; refine (refValue_any _ _ (by omega)).mono ?_; rw [hV.out]; rintro e w1 ⟨rfl, rfl⟩; go_wp2_with fail)
      | (go_at_call 59; refine (refPath_any _ _ (by omega)).mono ?_; rw [hP.out]; rintro e w1 ⟨rfl, rfl⟩; go_wp2_with fail))
    go_ret
    exact ⟨by rw [HR.out]; rfl, Below.alloc' (Below.self _) _⟩
  subst h2
  by_cases h3 : n = 0
  rotate_left
  · have h3e : (n != 0) = true := by rw [bne_iff_ne]; exact h3
    have HR : Stow (Pg.check ⟨4, a, [], n⟩ = 2) := ⟨by simp [Pg.check, Pg.noA, Pg.noB, h3]⟩
    go_enter Tryd.func19, Tryd.ntmps19
    go_wp2_with fail
    repeat (first
      | (go_at_call 58; refine (refName_any _ _ (by omega)).mono ?_; rw [hN.out]; rintro e w1 ⟨rfl, rfl⟩; go_wp2_with fail)
      | (go_at_call 30; refine (refValue_any _ _ (by omega)).mono ?_; rw [hV.out]; rintro e w1 ⟨rfl, rfl⟩; go_wp2_with fail)
      | (go_at_call 59; refine (refPath_any _ _ (by omega)).mono ?_; rw [hP.out]; rintro e w1 ⟨rfl, rfl⟩; go_wp2_with fail))
    go_ret
    exact ⟨by rw [HR.out]; rfl, Below.alloc' (Below.self _) _⟩
  subst h3
  obtain ⟨cN, hcN⟩ : ∃ c, nameOk a = c := ⟨_, rfl⟩
  have hN := Stow.mk hcN
  cases cN
  · have hFa : Stow (Pg.fits a 2 = 7) := ⟨by simp [Pg.fits, hcN]⟩
    have HR : Stow (Pg.check ⟨4, a, [], 0⟩ = 7) := ⟨by simp [Pg.check, Pg.noA, Pg.noB, hcN]⟩
    clear hcN
    go_enter Tryd.func19, Tryd.ntmps19
    go_wp2_with fail
    repeat (first
      | (go_at_call 58; refine (refName_any _ _ (by omega)).mono ?_; rw [hN.out]; rintro e w1 ⟨rfl, rfl⟩; go_wp2_with fail)
      | (go_at_call 30; refine (refValue_any _ _ (by omega)).mono ?_; rw [hV.out]; rintro e w1 ⟨rfl, rfl⟩; go_wp2_with fail)
      | (go_at_call 59; refine (refPath_any _ _ (by omega)).mono ?_; rw [hP.out]; rintro e w1 ⟨rfl, rfl⟩; go_wp2_with fail))
    go_ret
    exact ⟨by rw [HR.out]; rfl, Below.alloc' (Below.self _) _⟩
  have hFa : Stow (Pg.fits a 2 = 0) := ⟨by simp [Pg.fits, hcN]⟩
  obtain ⟨c, hc⟩ : ∃ c, (a == [116, 114, 97, 99, 101, 112, 97, 114, 101, 110, 116]) = c := ⟨_, rfl⟩
  obtain ⟨d, hd⟩ : ∃ d, (a == [116, 114, 97, 99, 101, 115, 116, 97, 116, 101]) = d := ⟨_, rfl⟩
  have hTr : Pg.traced a = (c || d) := by unfold Pg.traced; rw [hc, hd]
  have hT := Stow.mk hTr
  have hFb : Stow (Pg.fits [] 0 = 0) := ⟨rfl⟩
  have HRR : Stow (Pg.check ⟨4, a, [], 0⟩ = if (c || d) then 7 else 0) := ⟨by simp [Pg.check, Pg.noA, Pg.noB, hcN, hTr]⟩
  clear hTr hcN
  cases c <;> cases d
  · have HR := HRR
    go_enter Tryd.func19, Tryd.ntmps19
    go_wp2_with fail
    repeat (first
      | (go_at_call 58; refine (refName_any _ _ (by omega)).mono ?_; rw [hN.out]; rintro e w1 ⟨rfl, rfl⟩; go_wp2_with fail)
      | (go_at_call 30; refine (refValue_any _ _ (by omega)).mono ?_; rw [hV.out]; rintro e w1 ⟨rfl, rfl⟩; go_wp2_with fail)
      | (go_at_call 59; refine (refPath_any _ _ (by omega)).mono ?_; rw [hP.out]; rintro e w1 ⟨rfl, rfl⟩; go_wp2_with fail))
    go_ret
    exact ⟨by rw [HR.out]; rfl, Below.alloc' (Below.self _) _⟩
  · have HR := HRR
    go_enter Tryd.func19, Tryd.ntmps19
    go_wp2_with fail
    repeat (first
      | (go_at_call 58; refine (refName_any _ _ (by omega)).mono ?_; rw [hN.out]; rintro e w1 ⟨rfl, rfl⟩; go_wp2_with fail)
      | (go_at_call 30; refine (refValue_any _ _ (by omega)).mono ?_; rw [hV.out]; rintro e w1 ⟨rfl, rfl⟩; go_wp2_with fail)
      | (go_at_call 59; refine (refPath_any _ _ (by omega)).mono ?_; rw [hP.out]; rintro e w1 ⟨rfl, rfl⟩; go_wp2_with fail))
    go_ret
    exact ⟨by rw [HR.out]; rfl, Below.alloc' (Below.self _) _⟩
  · have HR := HRR
    go_enter Tryd.func19, Tryd.ntmps19
    go_wp2_with fail
    repeat (first
      | (go_at_call 58; refine (refName_any _ _ (by omega)).mono ?_; rw [hN.out]; rintro e w1 ⟨rfl, rfl⟩; go_wp2_with fail)
      | (go_at_call 30; refine (refValue_any _ _ (by omega)).mono ?_; rw [hV.out]; rintro e w1 ⟨rfl, rfl⟩; go_wp2_with fail)
      | (go_at_call 59; refine (refPath_any _ _ (by omega)).mono ?_; rw [hP.out]; rintro e w1 ⟨rfl, rfl⟩; go_wp2_with fail))
    go_ret
    exact ⟨by rw [HR.out]; rfl, Below.alloc' (Below.self _) _⟩
  · have HR := HRR
    go_enter Tryd.func19, Tryd.ntmps19
    go_wp2_with fail
    repeat (first
      | (go_at_call 58; refine (refName_any _ _ (by omega)).mono ?_; rw [hN.out]; rintro e w1 ⟨rfl, rfl⟩; go_wp2_with fail)
      | (go_at_call 30; refine (refValue_any _ _ (by omega)).mono ?_; rw [hV.out]; rintro e w1 ⟨rfl, rfl⟩; go_wp2_with fail)
      | (go_at_call 59; refine (refPath_any _ _ (by omega)).mono ?_; rw [hP.out]; rintro e w1 ⟨rfl, rfl⟩; go_wp2_with fail))
    go_ret
    exact ⟨by rw [HR.out]; rfl, Below.alloc' (Below.self _) _⟩

set_option maxHeartbeats 4000000 in
set_option maxRecDepth 100000 in
theorem pgRef5 (a b : List UInt8) (n : Int) (w : World) (ha : a.length ≤ 140737488355328) (hb : b.length ≤ 140737488355328) :
    Calls Tryd.prog 19 #[.agg #[.int .i64 5, .string (bs a), .string (bs b), .int .i64 n]] w fun e w' => e = .returned (.int .i64 (Pg.check ⟨5, a, b, n⟩ : Nat)) ∧ Below w.heap.size w w' := by
  by_cases h1 : a = []
  rotate_left
  · have h1e : a.isEmpty = false := by simpa using h1
    have HR : Stow (Pg.check ⟨5, a, b, n⟩ = 2) := ⟨by simp [Pg.check, Pg.noA, Pg.noB, h1]⟩
    go_enter Tryd.func19, Tryd.ntmps19
    go_wp2_with fail
    repeat (first
      | (go_at_call 58; refine (refName_any _ _ (by omega)).mono ?_; rw [hN.out]; rintro e w1 ⟨rfl, rfl⟩; go_wp2_with fail)
      | (go_at_call 30; refine (refValue_any _ _ (by omega)).mono ?_; rw [hV.out]; rintro e w1 ⟨rfl, rfl⟩; go_wp2_with fail)
      | (go_at_call 59; refine (refPath_any _ _ (by omega)).mono ?_; rw [hP.out]; rintro e w1 ⟨rfl, rfl⟩; go_wp2_with fail))
    go_ret
    exact ⟨by rw [HR.out]; rfl, Below.alloc' (Below.self _) _⟩
  subst h1
  by_cases h2 : b = []
  rotate_left
  · have h2e : b.isEmpty = false := by simpa using h2
    have HR : Stow (Pg.check ⟨5, [], b, n⟩ = 2) := ⟨by simp [Pg.check, Pg.noA, Pg.noB, h2]⟩
    go_enter Tryd.func19, Tryd.ntmps19
    go_wp2_with fail
    repeat (first
      | (go_at_call 58; refine (refName_any _ _ (by omega)).mono ?_; rw [hN.out]; rintro e w1 ⟨rfl, rfl⟩; go_wp2_with fail)
      | (go_at_call 30; refine (refValue_any _ _ (by omega)).mono ?_; rw [hV.out]; rintro e w1 ⟨rfl, rfl⟩; go_wp2_with fail)
      | (go_at_call 59; refine (refPath_any _ _ (by omega)).mono ?_; rw [hP.out]; rintro e w1 ⟨rfl, rfl⟩; go_wp2_with fail))
    go_ret
    exact ⟨by rw [HR.out]; rfl, Below.alloc' (Below.self _) _⟩
  subst h2
  by_cases h3 : n = 0
  rotate_left
  · have h3e : (n != 0) = true := by rw [bne_iff_ne]; exact h3
    have HR : Stow (Pg.check ⟨5, [], [], n⟩ = 2) := ⟨by simp [Pg.check, Pg.noA, Pg.noB, h3]⟩
    go_enter Tryd.func19, Tryd.ntmps19
    go_wp2_with fail
    repeat (first
      | (go_at_call 58; refine (refName_any _ _ (by omega)).mono ?_; rw [hN.out]; rintro e w1 ⟨rfl, rfl⟩; go_wp2_with fail)
      | (go_at_call 30; refine (refValue_any _ _ (by omega)).mono ?_; rw [hV.out]; rintro e w1 ⟨rfl, rfl⟩; go_wp2_with fail)
      | (go_at_call 59; refine (refPath_any _ _ (by omega)).mono ?_; rw [hP.out]; rintro e w1 ⟨rfl, rfl⟩; go_wp2_with fail))
    go_ret
    exact ⟨by rw [HR.out]; rfl, Below.alloc' (Below.self _) _⟩
  subst h3
  have hFa : Stow (Pg.fits [] 0 = 0) := ⟨rfl⟩
  have hFb : Stow (Pg.fits [] 0 = 0) := ⟨rfl⟩
  have HR : Stow (Pg.check ⟨5, [], [], 0⟩ = 0) := ⟨by simp [Pg.check, Pg.noA, Pg.noB]⟩
  go_enter Tryd.func19, Tryd.ntmps19
  go_wp2_with fail
  repeat (first
    | (go_at_call 58; refine (refName_any _ _ (by omega)).mono ?_; rw [hN.out]; rintro e w1 ⟨rfl, rfl⟩; go_wp2_with fail)
    | (go_at_call 30; refine (refValue_any _ _ (by omega)).mono ?_; rw [hV.out]; rintro e w1 ⟨rfl, rfl⟩; go_wp2_with fail)
    | (go_at_call 59; refine (refPath_any _ _ (by omega)).mono ?_; rw [hP.out]; rintro e w1 ⟨rfl, rfl⟩; go_wp2_with fail))
  go_ret
  exact ⟨by rw [HR.out]; rfl, Below.alloc' (Below.self _) _⟩

set_option maxHeartbeats 4000000 in
set_option maxRecDepth 100000 in
theorem pgRef6 (a b : List UInt8) (n : Int) (w : World) (ha : a.length ≤ 140737488355328) (hb : b.length ≤ 140737488355328) :
    Calls Tryd.prog 19 #[.agg #[.int .i64 6, .string (bs a), .string (bs b), .int .i64 n]] w fun e w' => e = .returned (.int .i64 (Pg.check ⟨6, a, b, n⟩ : Nat)) ∧ Below w.heap.size w w' := by
  by_cases h3 : n = 0
  rotate_left
  · have h3e : (n != 0) = true := by rw [bne_iff_ne]; exact h3
    have HR : Stow (Pg.check ⟨6, a, b, n⟩ = 2) := ⟨by simp [Pg.check, Pg.noA, Pg.noB, h3]⟩
    go_enter Tryd.func19, Tryd.ntmps19
    go_wp2_with fail
    repeat (first
      | (go_at_call 58; refine (refName_any _ _ (by omega)).mono ?_; rw [hN.out]; rintro e w1 ⟨rfl, rfl⟩; go_wp2_with fail)
      | (go_at_call 30; refine (refValue_any _ _ (by omega)).mono ?_; rw [hV.out]; rintro e w1 ⟨rfl, rfl⟩; go_wp2_with fail)
      | (go_at_call 59; refine (refPath_any _ _ (by omega)).mono ?_; rw [hP.out]; rintro e w1 ⟨rfl, rfl⟩; go_wp2_with fail))
    go_ret
    exact ⟨by rw [HR.out]; rfl, Below.alloc' (Below.self _) _⟩
  subst h3
  obtain ⟨cN, hcN⟩ : ∃ c, nameOk a = c := ⟨_, rfl⟩
  have hN := Stow.mk hcN
  cases cN
  · have hFa : Stow (Pg.fits a 2 = 7) := ⟨by simp [Pg.fits, hcN]⟩
    have HR : Stow (Pg.check ⟨6, a, b, 0⟩ = 7) := ⟨by simp [Pg.check, Pg.noA, Pg.noB, hcN]⟩
    clear hcN
    go_enter Tryd.func19, Tryd.ntmps19
    go_wp2_with fail
    repeat (first
      | (go_at_call 58; refine (refName_any _ _ (by omega)).mono ?_; rw [hN.out]; rintro e w1 ⟨rfl, rfl⟩; go_wp2_with fail)
      | (go_at_call 30; refine (refValue_any _ _ (by omega)).mono ?_; rw [hV.out]; rintro e w1 ⟨rfl, rfl⟩; go_wp2_with fail)
      | (go_at_call 59; refine (refPath_any _ _ (by omega)).mono ?_; rw [hP.out]; rintro e w1 ⟨rfl, rfl⟩; go_wp2_with fail))
    go_ret
    exact ⟨by rw [HR.out]; rfl, Below.alloc' (Below.self _) _⟩
  have hFa : Stow (Pg.fits a 2 = 0) := ⟨by simp [Pg.fits, hcN]⟩
  obtain ⟨cP, hcP⟩ : ∃ c, Ms.pathOk b = c := ⟨_, rfl⟩
  have hP := Stow.mk hcP
  cases cP
  · have hFb : Stow (Pg.fits b 3 = 12) := ⟨by simp [Pg.fits, hcP]⟩
    have HR : Stow (Pg.check ⟨6, a, b, 0⟩ = 12) := ⟨by simp [Pg.check, Pg.noA, Pg.noB, hcN, hcP]⟩
    clear hcP hcN
    go_enter Tryd.func19, Tryd.ntmps19
    go_wp2_with fail
    repeat (first
      | (go_at_call 58; refine (refName_any _ _ (by omega)).mono ?_; rw [hN.out]; rintro e w1 ⟨rfl, rfl⟩; go_wp2_with fail)
      | (go_at_call 30; refine (refValue_any _ _ (by omega)).mono ?_; rw [hV.out]; rintro e w1 ⟨rfl, rfl⟩; go_wp2_with fail)
      | (go_at_call 59; refine (refPath_any _ _ (by omega)).mono ?_; rw [hP.out]; rintro e w1 ⟨rfl, rfl⟩; go_wp2_with fail))
    go_ret
    exact ⟨by rw [HR.out]; rfl, Below.alloc' (Below.self _) _⟩
  have hFb : Stow (Pg.fits b 3 = 0) := ⟨by simp [Pg.fits, hcP]⟩
  have HR : Stow (Pg.check ⟨6, a, b, 0⟩ = 0) := ⟨by simp [Pg.check, Pg.noA, Pg.noB, hcN, hcP]⟩
  clear hcN
  clear hcP
  go_enter Tryd.func19, Tryd.ntmps19
  go_wp2_with fail
  repeat (first
    | (go_at_call 58; refine (refName_any _ _ (by omega)).mono ?_; rw [hN.out]; rintro e w1 ⟨rfl, rfl⟩; go_wp2_with fail)
    | (go_at_call 30; refine (refValue_any _ _ (by omega)).mono ?_; rw [hV.out]; rintro e w1 ⟨rfl, rfl⟩; go_wp2_with fail)
    | (go_at_call 59; refine (refPath_any _ _ (by omega)).mono ?_; rw [hP.out]; rintro e w1 ⟨rfl, rfl⟩; go_wp2_with fail))
  go_ret
  exact ⟨by rw [HR.out]; rfl, Below.alloc' (Below.self _) _⟩

set_option maxHeartbeats 4000000 in
set_option maxRecDepth 100000 in
theorem pgRef7 (a b : List UInt8) (n : Int) (w : World) (ha : a.length ≤ 140737488355328) (hb : b.length ≤ 140737488355328) :
    Calls Tryd.prog 19 #[.agg #[.int .i64 7, .string (bs a), .string (bs b), .int .i64 n]] w fun e w' => e = .returned (.int .i64 (Pg.check ⟨7, a, b, n⟩ : Nat)) ∧ Below w.heap.size w w' := by
  by_cases h1 : a = []
  rotate_left
  · have h1e : a.isEmpty = false := by simpa using h1
    have HR : Stow (Pg.check ⟨7, a, b, n⟩ = 2) := ⟨by simp [Pg.check, Pg.noA, Pg.noB, h1]⟩
    go_enter Tryd.func19, Tryd.ntmps19
    go_wp2_with fail
    repeat (first
      | (go_at_call 58; refine (refName_any _ _ (by omega)).mono ?_; rw [hN.out]; rintro e w1 ⟨rfl, rfl⟩; go_wp2_with fail)
      | (go_at_call 30; refine (refValue_any _ _ (by omega)).mono ?_; rw [hV.out]; rintro e w1 ⟨rfl, rfl⟩; go_wp2_with fail)
      | (go_at_call 59; refine (refPath_any _ _ (by omega)).mono ?_; rw [hP.out]; rintro e w1 ⟨rfl, rfl⟩; go_wp2_with fail))
    go_ret
    exact ⟨by rw [HR.out]; rfl, Below.alloc' (Below.self _) _⟩
  subst h1
  by_cases h2 : b = []
  rotate_left
  · have h2e : b.isEmpty = false := by simpa using h2
    have HR : Stow (Pg.check ⟨7, [], b, n⟩ = 2) := ⟨by simp [Pg.check, Pg.noA, Pg.noB, h2]⟩
    go_enter Tryd.func19, Tryd.ntmps19
    go_wp2_with fail
    repeat (first
      | (go_at_call 58; refine (refName_any _ _ (by omega)).mono ?_; rw [hN.out]; rintro e w1 ⟨rfl, rfl⟩; go_wp2_with fail)
      | (go_at_call 30; refine (refValue_any _ _ (by omega)).mono ?_; rw [hV.out]; rintro e w1 ⟨rfl, rfl⟩; go_wp2_with fail)
      | (go_at_call 59; refine (refPath_any _ _ (by omega)).mono ?_; rw [hP.out]; rintro e w1 ⟨rfl, rfl⟩; go_wp2_with fail))
    go_ret
    exact ⟨by rw [HR.out]; rfl, Below.alloc' (Below.self _) _⟩
  subst h2
  have hFa : Stow (Pg.fits [] 0 = 0) := ⟨rfl⟩
  have hFb : Stow (Pg.fits [] 0 = 0) := ⟨rfl⟩
  by_cases h4 : n < 100
  · have HR : Stow (Pg.check ⟨7, [], [], n⟩ = 12) := ⟨by simp [Pg.check, Pg.noA, Pg.noB, h4]⟩
    go_enter Tryd.func19, Tryd.ntmps19
    go_wp2_with fail
    repeat (first
      | (go_at_call 58; refine (refName_any _ _ (by omega)).mono ?_; rw [hN.out]; rintro e w1 ⟨rfl, rfl⟩; go_wp2_with fail)
      | (go_at_call 30; refine (refValue_any _ _ (by omega)).mono ?_; rw [hV.out]; rintro e w1 ⟨rfl, rfl⟩; go_wp2_with fail)
      | (go_at_call 59; refine (refPath_any _ _ (by omega)).mono ?_; rw [hP.out]; rintro e w1 ⟨rfl, rfl⟩; go_wp2_with fail))
    go_ret
    exact ⟨by rw [HR.out]; rfl, Below.alloc' (Below.self _) _⟩
  by_cases h5 : 599 < n
  · have HR : Stow (Pg.check ⟨7, [], [], n⟩ = 12) := ⟨by simp [Pg.check, Pg.noA, Pg.noB, h5]⟩
    go_enter Tryd.func19, Tryd.ntmps19
    go_wp2_with fail
    repeat (first
      | (go_at_call 58; refine (refName_any _ _ (by omega)).mono ?_; rw [hN.out]; rintro e w1 ⟨rfl, rfl⟩; go_wp2_with fail)
      | (go_at_call 30; refine (refValue_any _ _ (by omega)).mono ?_; rw [hV.out]; rintro e w1 ⟨rfl, rfl⟩; go_wp2_with fail)
      | (go_at_call 59; refine (refPath_any _ _ (by omega)).mono ?_; rw [hP.out]; rintro e w1 ⟨rfl, rfl⟩; go_wp2_with fail))
    go_ret
    exact ⟨by rw [HR.out]; rfl, Below.alloc' (Below.self _) _⟩
  have HR : Stow (Pg.check ⟨7, [], [], n⟩ = 0) := ⟨by simp [Pg.check, Pg.noA, Pg.noB, h4, h5]⟩
  go_enter Tryd.func19, Tryd.ntmps19
  go_wp2_with fail
  repeat (first
    | (go_at_call 58; refine (refName_any _ _ (by omega)).mono ?_; rw [hN.out]; rintro e w1 ⟨rfl, rfl⟩; go_wp2_with fail)
    | (go_at_call 30; refine (refValue_any _ _ (by omega)).mono ?_; rw [hV.out]; rintro e w1 ⟨rfl, rfl⟩; go_wp2_with fail)
    | (go_at_call 59; refine (refPath_any _ _ (by omega)).mono ?_; rw [hP.out]; rintro e w1 ⟨rfl, rfl⟩; go_wp2_with fail))
  go_ret
  exact ⟨by rw [HR.out]; rfl, Below.alloc' (Below.self _) _⟩

set_option maxHeartbeats 4000000 in
set_option maxRecDepth 100000 in
theorem pgC1 (a b : List UInt8) (n : Int) (w : World) (ha : a.length ≤ 140737488355328) (hb : b.length ≤ 140737488355328) :
    Calls Tryd.prog 18 #[.agg #[.int .i64 1, .string (bs a), .string (bs b), .int .i64 n]] w fun e w' => e = .returned (.int .i64 (Pg.check ⟨1, a, b, n⟩ : Nat)) ∧ Below w.heap.size w w' := by
  have HH : Stow (∀ w1, Below (w.alloc (.cells #[.int .i64 1, .string (bs a), .string (bs b), .int .i64 n] 23)).heap.size (w.alloc (.cells #[.int .i64 1, .string (bs a), .string (bs b), .int .i64 n] 23)) w1 → Held w1 w.heap.size [.int .i64 1, .string (bs a), .string (bs b), .int .i64 n]) := ⟨fun w1 h => (Held.made w [.int .i64 1, .string (bs a), .string (bs b), .int .i64 n] _).kept h⟩
  have HK : Stow (∀ w1 w2, Below (w.alloc (.cells #[.int .i64 1, .string (bs a), .string (bs b), .int .i64 n] 23)).heap.size (w.alloc (.cells #[.int .i64 1, .string (bs a), .string (bs b), .int .i64 n] 23)) w1 → Below (w1.alloc (.cells #[.string (bs (Pg.word 1)), .int .i64 1, .int .i64 0, .int .i64 0] 75)).heap.size (w1.alloc (.cells #[.string (bs (Pg.word 1)), .int .i64 1, .int .i64 0, .int .i64 0] 75)) w2 → Held w2 w.heap.size [.int .i64 1, .string (bs a), .string (bs b), .int .i64 n] ∧ Held w2 w1.heap.size [.string (bs (Pg.word 1)), .int .i64 1, .int .i64 0, .int .i64 0] ∧ Below w.heap.size w w2) := ⟨fun w1 w2 h1 h2 => op_kept (S := [.string (bs (Pg.word 1)), .int .i64 1, .int .i64 0, .int .i64 0]) h1 h2⟩
  by_cases h2 : b = []
  rotate_left
  · have h2e : b.isEmpty = false := by simpa using h2
    have HR : Stow (Pg.check ⟨1, a, b, n⟩ = 2) := ⟨by simp [Pg.check, Pg.noA, Pg.noB, h2]⟩
    go_enter Tryd.func18, Tryd.ntmps18
    go_wp2_with fail
    refine (pgOf_any 1 _ (by decide) (by decide)).mono ?_
    rw [show Pg.sa 1 = 1 from rfl, show Pg.sb 1 = 0 from rfl, show Pg.sn 1 = 0 from rfl]
    rintro e w1 ⟨rfl, hb1⟩
    have hH := HH.out w1 hb1
    have HB1 := Stow.mk hb1
    have c0 := hH.cell (i := 0) rfl
    have c1 := hH.cell (i := 1) rfl
    have c2 := hH.cell (i := 2) rfl
    have c3 := hH.cell (i := 3) rfl
    have hlt := hH.lt
    have hne : (w1.heap.size == w.heap.size) = false := by simp; omega
    clear hH hb1
    go_wp2_with fail
    repeat (first
      | (go_at_call 56; have hq := HHA2.out; clear hq; refine (pgFits_any _ _ _ (by first | omega | simp) (by decide)).mono ?_; rw [hFb.out]; rintro e w3 ⟨rfl, hb3⟩
         have e0 := (HHA2.out.kept hb3).cell (i := 3) rfl
         have t0 := (HHS2.out.kept hb3).cell (i := 3) rfl
         have HB3 := Stow.mk (Below.call HB2'.out hb3)
         clear d0 d1 d2 d3 s0 s1 s2 s3 hb3
         go_wp2_with fail)
      | (go_at_call 56; refine (pgFits_any _ _ _ (by first | omega | simp) (by decide)).mono ?_; rw [hFa.out]; rintro e w2 ⟨rfl, hb2⟩
         obtain ⟨hA2, hS2, HB2⟩ := HK.out w1 w2 HB1.out hb2
         have d0 := hA2.cell (i := 0) rfl
         have d1 := hA2.cell (i := 1) rfl
         have d2 := hA2.cell (i := 2) rfl
         have d3 := hA2.cell (i := 3) rfl
         have s0 := hS2.cell (i := 0) rfl
         have s1 := hS2.cell (i := 1) rfl
         have s2 := hS2.cell (i := 2) rfl
         have s3 := hS2.cell (i := 3) rfl
         have HB2' := Stow.mk HB2
         have HHA2 := Stow.mk hA2
         have HHS2 := Stow.mk hS2
         clear hA2 hS2 HB2 hb2 c0 c1 c2 c3 hne
         go_wp2_with fail)
      | (go_at_call 57; refine (pgTraced_any _ _).mono ?_; rw [hT.out]; rintro e w2 ⟨rfl, rfl⟩; go_wp2_with fail))
    go_ret
    first
      | exact ⟨by rw [HR.out]; rfl, HB3.out⟩
      | exact ⟨by rw [HR.out]; rfl, HB2'.out⟩
      | exact ⟨by rw [HR.out]; rfl, Below.alloc' (Below.call (Below.alloc' (Below.self _) _) HB1.out) _⟩
  subst h2
  by_cases h3 : n = 0
  rotate_left
  · have h3e : (n != 0) = true := by rw [bne_iff_ne]; exact h3
    have HR : Stow (Pg.check ⟨1, a, [], n⟩ = 2) := ⟨by simp [Pg.check, Pg.noA, Pg.noB, h3]⟩
    go_enter Tryd.func18, Tryd.ntmps18
    go_wp2_with fail
    refine (pgOf_any 1 _ (by decide) (by decide)).mono ?_
    rw [show Pg.sa 1 = 1 from rfl, show Pg.sb 1 = 0 from rfl, show Pg.sn 1 = 0 from rfl]
    rintro e w1 ⟨rfl, hb1⟩
    have hH := HH.out w1 hb1
    have HB1 := Stow.mk hb1
    have c0 := hH.cell (i := 0) rfl
    have c1 := hH.cell (i := 1) rfl
    have c2 := hH.cell (i := 2) rfl
    have c3 := hH.cell (i := 3) rfl
    have hlt := hH.lt
    have hne : (w1.heap.size == w.heap.size) = false := by simp; omega
    clear hH hb1
    go_wp2_with fail
    repeat (first
      | (go_at_call 56; have hq := HHA2.out; clear hq; refine (pgFits_any _ _ _ (by first | omega | simp) (by decide)).mono ?_; rw [hFb.out]; rintro e w3 ⟨rfl, hb3⟩
         have e0 := (HHA2.out.kept hb3).cell (i := 3) rfl
         have t0 := (HHS2.out.kept hb3).cell (i := 3) rfl
         have HB3 := Stow.mk (Below.call HB2'.out hb3)
         clear d0 d1 d2 d3 s0 s1 s2 s3 hb3
         go_wp2_with fail)
      | (go_at_call 56; refine (pgFits_any _ _ _ (by first | omega | simp) (by decide)).mono ?_; rw [hFa.out]; rintro e w2 ⟨rfl, hb2⟩
         obtain ⟨hA2, hS2, HB2⟩ := HK.out w1 w2 HB1.out hb2
         have d0 := hA2.cell (i := 0) rfl
         have d1 := hA2.cell (i := 1) rfl
         have d2 := hA2.cell (i := 2) rfl
         have d3 := hA2.cell (i := 3) rfl
         have s0 := hS2.cell (i := 0) rfl
         have s1 := hS2.cell (i := 1) rfl
         have s2 := hS2.cell (i := 2) rfl
         have s3 := hS2.cell (i := 3) rfl
         have HB2' := Stow.mk HB2
         have HHA2 := Stow.mk hA2
         have HHS2 := Stow.mk hS2
         clear hA2 hS2 HB2 hb2 c0 c1 c2 c3 hne
         go_wp2_with fail)
      | (go_at_call 57; refine (pgTraced_any _ _).mono ?_; rw [hT.out]; rintro e w2 ⟨rfl, rfl⟩; go_wp2_with fail))
    go_ret
    first
      | exact ⟨by rw [HR.out]; rfl, HB3.out⟩
      | exact ⟨by rw [HR.out]; rfl, HB2'.out⟩
      | exact ⟨by rw [HR.out]; rfl, Below.alloc' (Below.call (Below.alloc' (Below.self _) _) HB1.out) _⟩
  subst h3
  obtain ⟨cV, hcV⟩ : ∃ c, Ms.valueOk a = c := ⟨_, rfl⟩
  have hV := Stow.mk hcV
  cases cV
  · have hFa : Stow (Pg.fits a 1 = 15) := ⟨by simp [Pg.fits, hcV]⟩
    have HR : Stow (Pg.check ⟨1, a, [], 0⟩ = 15) := ⟨by simp [Pg.check, Pg.noA, Pg.noB, hcV]⟩
    clear hcV
    go_enter Tryd.func18, Tryd.ntmps18
    go_wp2_with fail
    refine (pgOf_any 1 _ (by decide) (by decide)).mono ?_
    rw [show Pg.sa 1 = 1 from rfl, show Pg.sb 1 = 0 from rfl, show Pg.sn 1 = 0 from rfl]
    rintro e w1 ⟨rfl, hb1⟩
    have hH := HH.out w1 hb1
    have HB1 := Stow.mk hb1
    have c0 := hH.cell (i := 0) rfl
    have c1 := hH.cell (i := 1) rfl
    have c2 := hH.cell (i := 2) rfl
    have c3 := hH.cell (i := 3) rfl
    have hlt := hH.lt
    have hne : (w1.heap.size == w.heap.size) = false := by simp; omega
    clear hH hb1
    go_wp2_with fail
    repeat (first
      | (go_at_call 56; have hq := HHA2.out; clear hq; refine (pgFits_any _ _ _ (by first | omega | simp) (by decide)).mono ?_; rw [hFb.out]; rintro e w3 ⟨rfl, hb3⟩
         have e0 := (HHA2.out.kept hb3).cell (i := 3) rfl
         have t0 := (HHS2.out.kept hb3).cell (i := 3) rfl
         have HB3 := Stow.mk (Below.call HB2'.out hb3)
         clear d0 d1 d2 d3 s0 s1 s2 s3 hb3
         go_wp2_with fail)
      | (go_at_call 56; refine (pgFits_any _ _ _ (by first | omega | simp) (by decide)).mono ?_; rw [hFa.out]; rintro e w2 ⟨rfl, hb2⟩
         obtain ⟨hA2, hS2, HB2⟩ := HK.out w1 w2 HB1.out hb2
         have d0 := hA2.cell (i := 0) rfl
         have d1 := hA2.cell (i := 1) rfl
         have d2 := hA2.cell (i := 2) rfl
         have d3 := hA2.cell (i := 3) rfl
         have s0 := hS2.cell (i := 0) rfl
         have s1 := hS2.cell (i := 1) rfl
         have s2 := hS2.cell (i := 2) rfl
         have s3 := hS2.cell (i := 3) rfl
         have HB2' := Stow.mk HB2
         have HHA2 := Stow.mk hA2
         have HHS2 := Stow.mk hS2
         clear hA2 hS2 HB2 hb2 c0 c1 c2 c3 hne
         go_wp2_with fail)
      | (go_at_call 57; refine (pgTraced_any _ _).mono ?_; rw [hT.out]; rintro e w2 ⟨rfl, rfl⟩; go_wp2_with fail))
    go_ret
    first
      | exact ⟨by rw [HR.out]; rfl, HB3.out⟩
      | exact ⟨by rw [HR.out]; rfl, HB2'.out⟩
      | exact ⟨by rw [HR.out]; rfl, Below.alloc' (Below.call (Below.alloc' (Below.self _) _) HB1.out) _⟩
  have hFa : Stow (Pg.fits a 1 = 0) := ⟨by simp [Pg.fits, hcV]⟩
  have hFb : Stow (Pg.fits [] 0 = 0) := ⟨rfl⟩
  have HR : Stow (Pg.check ⟨1, a, [], 0⟩ = 0) := ⟨by simp [Pg.check, Pg.noA, Pg.noB, hcV]⟩
  clear hcV
  go_enter Tryd.func18, Tryd.ntmps18
  go_wp2_with fail
  refine (pgOf_any 1 _ (by decide) (by decide)).mono ?_
  rw [show Pg.sa 1 = 1 from rfl, show Pg.sb 1 = 0 from rfl, show Pg.sn 1 = 0 from rfl]
  rintro e w1 ⟨rfl, hb1⟩
  have hH := HH.out w1 hb1
  have HB1 := Stow.mk hb1
  have c0 := hH.cell (i := 0) rfl
  have c1 := hH.cell (i := 1) rfl
  have c2 := hH.cell (i := 2) rfl
  have c3 := hH.cell (i := 3) rfl
  have hlt := hH.lt
  have hne : (w1.heap.size == w.heap.size) = false := by simp; omega
  clear hH hb1
  go_wp2_with fail
  repeat (first
    | (go_at_call 56; have hq := HHA2.out; clear hq; refine (pgFits_any _ _ _ (by first | omega | simp) (by decide)).mono ?_; rw [hFb.out]; rintro e w3 ⟨rfl, hb3⟩
       have e0 := (HHA2.out.kept hb3).cell (i := 3) rfl
       have t0 := (HHS2.out.kept hb3).cell (i := 3) rfl
       have HB3 := Stow.mk (Below.call HB2'.out hb3)
       clear d0 d1 d2 d3 s0 s1 s2 s3 hb3
       go_wp2_with fail)
    | (go_at_call 56; refine (pgFits_any _ _ _ (by first | omega | simp) (by decide)).mono ?_; rw [hFa.out]; rintro e w2 ⟨rfl, hb2⟩
       obtain ⟨hA2, hS2, HB2⟩ := HK.out w1 w2 HB1.out hb2
       have d0 := hA2.cell (i := 0) rfl
       have d1 := hA2.cell (i := 1) rfl
       have d2 := hA2.cell (i := 2) rfl
       have d3 := hA2.cell (i := 3) rfl
       have s0 := hS2.cell (i := 0) rfl
       have s1 := hS2.cell (i := 1) rfl
       have s2 := hS2.cell (i := 2) rfl
       have s3 := hS2.cell (i := 3) rfl
       have HB2' := Stow.mk HB2
       have HHA2 := Stow.mk hA2
       have HHS2 := Stow.mk hS2
       clear hA2 hS2 HB2 hb2 c0 c1 c2 c3 hne
       go_wp2_with fail)
    | (go_at_call 57; refine (pgTraced_any _ _).mono ?_; rw [hT.out]; rintro e w2 ⟨rfl, rfl⟩; go_wp2_with fail))
  go_ret
  first
    | exact ⟨by rw [HR.out]; rfl, HB3.out⟩
    | exact ⟨by rw [HR.out]; rfl, HB2'.out⟩
    | exact ⟨by rw [HR.out]; rfl, Below.alloc' (Below.call (Below.alloc' (Below.self _) _) HB1.out) _⟩

set_option maxHeartbeats 4000000 in
set_option maxRecDepth 100000 in
theorem pgC2 (a b : List UInt8) (n : Int) (w : World) (ha : a.length ≤ 140737488355328) (hb : b.length ≤ 140737488355328) :
    Calls Tryd.prog 18 #[.agg #[.int .i64 2, .string (bs a), .string (bs b), .int .i64 n]] w fun e w' => e = .returned (.int .i64 (Pg.check ⟨2, a, b, n⟩ : Nat)) ∧ Below w.heap.size w w' := by
  have HH : Stow (∀ w1, Below (w.alloc (.cells #[.int .i64 2, .string (bs a), .string (bs b), .int .i64 n] 23)).heap.size (w.alloc (.cells #[.int .i64 2, .string (bs a), .string (bs b), .int .i64 n] 23)) w1 → Held w1 w.heap.size [.int .i64 2, .string (bs a), .string (bs b), .int .i64 n]) := ⟨fun w1 h => (Held.made w [.int .i64 2, .string (bs a), .string (bs b), .int .i64 n] _).kept h⟩
  have HK : Stow (∀ w1 w2, Below (w.alloc (.cells #[.int .i64 2, .string (bs a), .string (bs b), .int .i64 n] 23)).heap.size (w.alloc (.cells #[.int .i64 2, .string (bs a), .string (bs b), .int .i64 n] 23)) w1 → Below (w1.alloc (.cells #[.string (bs (Pg.word 2)), .int .i64 2, .int .i64 0, .int .i64 0] 75)).heap.size (w1.alloc (.cells #[.string (bs (Pg.word 2)), .int .i64 2, .int .i64 0, .int .i64 0] 75)) w2 → Held w2 w.heap.size [.int .i64 2, .string (bs a), .string (bs b), .int .i64 n] ∧ Held w2 w1.heap.size [.string (bs (Pg.word 2)), .int .i64 2, .int .i64 0, .int .i64 0] ∧ Below w.heap.size w w2) := ⟨fun w1 w2 h1 h2 => op_kept (S := [.string (bs (Pg.word 2)), .int .i64 2, .int .i64 0, .int .i64 0]) h1 h2⟩
  by_cases h2 : b = []
  rotate_left
  · have h2e : b.isEmpty = false := by simpa using h2
    have HR : Stow (Pg.check ⟨2, a, b, n⟩ = 2) := ⟨by simp [Pg.check, Pg.noA, Pg.noB, h2]⟩
    go_enter Tryd.func18, Tryd.ntmps18
    go_wp2_with fail
    refine (pgOf_any 2 _ (by decide) (by decide)).mono ?_
    rw [show Pg.sa 2 = 2 from rfl, show Pg.sb 2 = 0 from rfl, show Pg.sn 2 = 0 from rfl]
    rintro e w1 ⟨rfl, hb1⟩
    have hH := HH.out w1 hb1
    have HB1 := Stow.mk hb1
    have c0 := hH.cell (i := 0) rfl
    have c1 := hH.cell (i := 1) rfl
    have c2 := hH.cell (i := 2) rfl
    have c3 := hH.cell (i := 3) rfl
    have hlt := hH.lt
    have hne : (w1.heap.size == w.heap.size) = false := by simp; omega
    clear hH hb1
    go_wp2_with fail
    repeat (first
      | (go_at_call 56; have hq := HHA2.out; clear hq; refine (pgFits_any _ _ _ (by first | omega | simp) (by decide)).mono ?_; rw [hFb.out]; rintro e w3 ⟨rfl, hb3⟩
         have e0 := (HHA2.out.kept hb3).cell (i := 3) rfl
         have t0 := (HHS2.out.kept hb3).cell (i := 3) rfl
         have HB3 := Stow.mk (Below.call HB2'.out hb3)
         clear d0 d1 d2 d3 s0 s1 s2 s3 hb3
         go_wp2_with fail)
      | (go_at_call 56; refine (pgFits_any _ _ _ (by first | omega | simp) (by decide)).mono ?_; rw [hFa.out]; rintro e w2 ⟨rfl, hb2⟩
         obtain ⟨hA2, hS2, HB2⟩ := HK.out w1 w2 HB1.out hb2
         have d0 := hA2.cell (i := 0) rfl
         have d1 := hA2.cell (i := 1) rfl
         have d2 := hA2.cell (i := 2) rfl
         have d3 := hA2.cell (i := 3) rfl
         have s0 := hS2.cell (i := 0) rfl
         have s1 := hS2.cell (i := 1) rfl
         have s2 := hS2.cell (i := 2) rfl
         have s3 := hS2.cell (i := 3) rfl
         have HB2' := Stow.mk HB2
         have HHA2 := Stow.mk hA2
         have HHS2 := Stow.mk hS2
         clear hA2 hS2 HB2 hb2 c0 c1 c2 c3 hne
         go_wp2_with fail)
      | (go_at_call 57; refine (pgTraced_any _ _).mono ?_; rw [hT.out]; rintro e w2 ⟨rfl, rfl⟩; go_wp2_with fail))
    go_ret
    first
      | exact ⟨by rw [HR.out]; rfl, HB3.out⟩
      | exact ⟨by rw [HR.out]; rfl, HB2'.out⟩
      | exact ⟨by rw [HR.out]; rfl, Below.alloc' (Below.call (Below.alloc' (Below.self _) _) HB1.out) _⟩
  subst h2
  by_cases h3 : n = 0
  rotate_left
  · have h3e : (n != 0) = true := by rw [bne_iff_ne]; exact h3
    have HR : Stow (Pg.check ⟨2, a, [], n⟩ = 2) := ⟨by simp [Pg.check, Pg.noA, Pg.noB, h3]⟩
    go_enter Tryd.func18, Tryd.ntmps18
    go_wp2_with fail
    refine (pgOf_any 2 _ (by decide) (by decide)).mono ?_
    rw [show Pg.sa 2 = 2 from rfl, show Pg.sb 2 = 0 from rfl, show Pg.sn 2 = 0 from rfl]
    rintro e w1 ⟨rfl, hb1⟩
    have hH := HH.out w1 hb1
    have HB1 := Stow.mk hb1
    have c0 := hH.cell (i := 0) rfl
    have c1 := hH.cell (i := 1) rfl
    have c2 := hH.cell (i := 2) rfl
    have c3 := hH.cell (i := 3) rfl
    have hlt := hH.lt
    have hne : (w1.heap.size == w.heap.size) = false := by simp; omega
    clear hH hb1
    go_wp2_with fail
    repeat (first
      | (go_at_call 56; have hq := HHA2.out; clear hq; refine (pgFits_any _ _ _ (by first | omega | simp) (by decide)).mono ?_; rw [hFb.out]; rintro e w3 ⟨rfl, hb3⟩
         have e0 := (HHA2.out.kept hb3).cell (i := 3) rfl
         have t0 := (HHS2.out.kept hb3).cell (i := 3) rfl
         have HB3 := Stow.mk (Below.call HB2'.out hb3)
         clear d0 d1 d2 d3 s0 s1 s2 s3 hb3
         go_wp2_with fail)
      | (go_at_call 56; refine (pgFits_any _ _ _ (by first | omega | simp) (by decide)).mono ?_; rw [hFa.out]; rintro e w2 ⟨rfl, hb2⟩
         obtain ⟨hA2, hS2, HB2⟩ := HK.out w1 w2 HB1.out hb2
         have d0 := hA2.cell (i := 0) rfl
         have d1 := hA2.cell (i := 1) rfl
         have d2 := hA2.cell (i := 2) rfl
         have d3 := hA2.cell (i := 3) rfl
         have s0 := hS2.cell (i := 0) rfl
         have s1 := hS2.cell (i := 1) rfl
         have s2 := hS2.cell (i := 2) rfl
         have s3 := hS2.cell (i := 3) rfl
         have HB2' := Stow.mk HB2
         have HHA2 := Stow.mk hA2
         have HHS2 := Stow.mk hS2
         clear hA2 hS2 HB2 hb2 c0 c1 c2 c3 hne
         go_wp2_with fail)
      | (go_at_call 57; refine (pgTraced_any _ _).mono ?_; rw [hT.out]; rintro e w2 ⟨rfl, rfl⟩; go_wp2_with fail))
    go_ret
    first
      | exact ⟨by rw [HR.out]; rfl, HB3.out⟩
      | exact ⟨by rw [HR.out]; rfl, HB2'.out⟩
      | exact ⟨by rw [HR.out]; rfl, Below.alloc' (Below.call (Below.alloc' (Below.self _) _) HB1.out) _⟩
  subst h3
  obtain ⟨cN, hcN⟩ : ∃ c, nameOk a = c := ⟨_, rfl⟩
  have hN := Stow.mk hcN
  cases cN
  · have hFa : Stow (Pg.fits a 2 = 7) := ⟨by simp [Pg.fits, hcN]⟩
    have HR : Stow (Pg.check ⟨2, a, [], 0⟩ = 7) := ⟨by simp [Pg.check, Pg.noA, Pg.noB, hcN]⟩
    clear hcN
    go_enter Tryd.func18, Tryd.ntmps18
    go_wp2_with fail
    refine (pgOf_any 2 _ (by decide) (by decide)).mono ?_
    rw [show Pg.sa 2 = 2 from rfl, show Pg.sb 2 = 0 from rfl, show Pg.sn 2 = 0 from rfl]
    rintro e w1 ⟨rfl, hb1⟩
    have hH := HH.out w1 hb1
    have HB1 := Stow.mk hb1
    have c0 := hH.cell (i := 0) rfl
    have c1 := hH.cell (i := 1) rfl
    have c2 := hH.cell (i := 2) rfl
    have c3 := hH.cell (i := 3) rfl
    have hlt := hH.lt
    have hne : (w1.heap.size == w.heap.size) = false := by simp; omega
    clear hH hb1
    go_wp2_with fail
    repeat (first
      | (go_at_call 56; have hq := HHA2.out; clear hq; refine (pgFits_any _ _ _ (by first | omega | simp) (by decide)).mono ?_; rw [hFb.out]; rintro e w3 ⟨rfl, hb3⟩
         have e0 := (HHA2.out.kept hb3).cell (i := 3) rfl
         have t0 := (HHS2.out.kept hb3).cell (i := 3) rfl
         have HB3 := Stow.mk (Below.call HB2'.out hb3)
         clear d0 d1 d2 d3 s0 s1 s2 s3 hb3
         go_wp2_with fail)
      | (go_at_call 56; refine (pgFits_any _ _ _ (by first | omega | simp) (by decide)).mono ?_; rw [hFa.out]; rintro e w2 ⟨rfl, hb2⟩
         obtain ⟨hA2, hS2, HB2⟩ := HK.out w1 w2 HB1.out hb2
         have d0 := hA2.cell (i := 0) rfl
         have d1 := hA2.cell (i := 1) rfl
         have d2 := hA2.cell (i := 2) rfl
         have d3 := hA2.cell (i := 3) rfl
         have s0 := hS2.cell (i := 0) rfl
         have s1 := hS2.cell (i := 1) rfl
         have s2 := hS2.cell (i := 2) rfl
         have s3 := hS2.cell (i := 3) rfl
         have HB2' := Stow.mk HB2
         have HHA2 := Stow.mk hA2
         have HHS2 := Stow.mk hS2
         clear hA2 hS2 HB2 hb2 c0 c1 c2 c3 hne
         go_wp2_with fail)
      | (go_at_call 57; refine (pgTraced_any _ _).mono ?_; rw [hT.out]; rintro e w2 ⟨rfl, rfl⟩; go_wp2_with fail))
    go_ret
    first
      | exact ⟨by rw [HR.out]; rfl, HB3.out⟩
      | exact ⟨by rw [HR.out]; rfl, HB2'.out⟩
      | exact ⟨by rw [HR.out]; rfl, Below.alloc' (Below.call (Below.alloc' (Below.self _) _) HB1.out) _⟩
  have hFa : Stow (Pg.fits a 2 = 0) := ⟨by simp [Pg.fits, hcN]⟩
  have hFb : Stow (Pg.fits [] 0 = 0) := ⟨rfl⟩
  have HR : Stow (Pg.check ⟨2, a, [], 0⟩ = 0) := ⟨by simp [Pg.check, Pg.noA, Pg.noB, hcN]⟩
  clear hcN
  go_enter Tryd.func18, Tryd.ntmps18
  go_wp2_with fail
  refine (pgOf_any 2 _ (by decide) (by decide)).mono ?_
  rw [show Pg.sa 2 = 2 from rfl, show Pg.sb 2 = 0 from rfl, show Pg.sn 2 = 0 from rfl]
  rintro e w1 ⟨rfl, hb1⟩
  have hH := HH.out w1 hb1
  have HB1 := Stow.mk hb1
  have c0 := hH.cell (i := 0) rfl
  have c1 := hH.cell (i := 1) rfl
  have c2 := hH.cell (i := 2) rfl
  have c3 := hH.cell (i := 3) rfl
  have hlt := hH.lt
  have hne : (w1.heap.size == w.heap.size) = false := by simp; omega
  clear hH hb1
  go_wp2_with fail
  repeat (first
    | (go_at_call 56; have hq := HHA2.out; clear hq; refine (pgFits_any _ _ _ (by first | omega | simp) (by decide)).mono ?_; rw [hFb.out]; rintro e w3 ⟨rfl, hb3⟩
       have e0 := (HHA2.out.kept hb3).cell (i := 3) rfl
       have t0 := (HHS2.out.kept hb3).cell (i := 3) rfl
       have HB3 := Stow.mk (Below.call HB2'.out hb3)
       clear d0 d1 d2 d3 s0 s1 s2 s3 hb3
       go_wp2_with fail)
    | (go_at_call 56; refine (pgFits_any _ _ _ (by first | omega | simp) (by decide)).mono ?_; rw [hFa.out]; rintro e w2 ⟨rfl, hb2⟩
       obtain ⟨hA2, hS2, HB2⟩ := HK.out w1 w2 HB1.out hb2
       have d0 := hA2.cell (i := 0) rfl
       have d1 := hA2.cell (i := 1) rfl
       have d2 := hA2.cell (i := 2) rfl
       have d3 := hA2.cell (i := 3) rfl
       have s0 := hS2.cell (i := 0) rfl
       have s1 := hS2.cell (i := 1) rfl
       have s2 := hS2.cell (i := 2) rfl
       have s3 := hS2.cell (i := 3) rfl
       have HB2' := Stow.mk HB2
       have HHA2 := Stow.mk hA2
       have HHS2 := Stow.mk hS2
       clear hA2 hS2 HB2 hb2 c0 c1 c2 c3 hne
       go_wp2_with fail)
    | (go_at_call 57; refine (pgTraced_any _ _).mono ?_; rw [hT.out]; rintro e w2 ⟨rfl, rfl⟩; go_wp2_with fail))
  go_ret
  first
    | exact ⟨by rw [HR.out]; rfl, HB3.out⟩
    | exact ⟨by rw [HR.out]; rfl, HB2'.out⟩
    | exact ⟨by rw [HR.out]; rfl, Below.alloc' (Below.call (Below.alloc' (Below.self _) _) HB1.out) _⟩

set_option maxHeartbeats 4000000 in
set_option maxRecDepth 100000 in
theorem pgC3 (a b : List UInt8) (n : Int) (w : World) (ha : a.length ≤ 140737488355328) (hb : b.length ≤ 140737488355328) :
    Calls Tryd.prog 18 #[.agg #[.int .i64 3, .string (bs a), .string (bs b), .int .i64 n]] w fun e w' => e = .returned (.int .i64 (Pg.check ⟨3, a, b, n⟩ : Nat)) ∧ Below w.heap.size w w' := by
  have HH : Stow (∀ w1, Below (w.alloc (.cells #[.int .i64 3, .string (bs a), .string (bs b), .int .i64 n] 23)).heap.size (w.alloc (.cells #[.int .i64 3, .string (bs a), .string (bs b), .int .i64 n] 23)) w1 → Held w1 w.heap.size [.int .i64 3, .string (bs a), .string (bs b), .int .i64 n]) := ⟨fun w1 h => (Held.made w [.int .i64 3, .string (bs a), .string (bs b), .int .i64 n] _).kept h⟩
  have HK : Stow (∀ w1 w2, Below (w.alloc (.cells #[.int .i64 3, .string (bs a), .string (bs b), .int .i64 n] 23)).heap.size (w.alloc (.cells #[.int .i64 3, .string (bs a), .string (bs b), .int .i64 n] 23)) w1 → Below (w1.alloc (.cells #[.string (bs (Pg.word 3)), .int .i64 2, .int .i64 1, .int .i64 0] 75)).heap.size (w1.alloc (.cells #[.string (bs (Pg.word 3)), .int .i64 2, .int .i64 1, .int .i64 0] 75)) w2 → Held w2 w.heap.size [.int .i64 3, .string (bs a), .string (bs b), .int .i64 n] ∧ Held w2 w1.heap.size [.string (bs (Pg.word 3)), .int .i64 2, .int .i64 1, .int .i64 0] ∧ Below w.heap.size w w2) := ⟨fun w1 w2 h1 h2 => op_kept (S := [.string (bs (Pg.word 3)), .int .i64 2, .int .i64 1, .int .i64 0]) h1 h2⟩
  by_cases h3 : n = 0
  rotate_left
  · have h3e : (n != 0) = true := by rw [bne_iff_ne]; exact h3
    have HR : Stow (Pg.check ⟨3, a, b, n⟩ = 2) := ⟨by simp [Pg.check, Pg.noA, Pg.noB, h3]⟩
    go_enter Tryd.func18, Tryd.ntmps18
    go_wp2_with fail
    refine (pgOf_any 3 _ (by decide) (by decide)).mono ?_
    rw [show Pg.sa 3 = 2 from rfl, show Pg.sb 3 = 1 from rfl, show Pg.sn 3 = 0 from rfl]
    rintro e w1 ⟨rfl, hb1⟩
    have hH := HH.out w1 hb1
    have HB1 := Stow.mk hb1
    have c0 := hH.cell (i := 0) rfl
    have c1 := hH.cell (i := 1) rfl
    have c2 := hH.cell (i := 2) rfl
    have c3 := hH.cell (i := 3) rfl
    have hlt := hH.lt
    have hne : (w1.heap.size == w.heap.size) = false := by simp; omega
    clear hH hb1
    go_wp2_with fail
    repeat (first
      | (go_at_call 56; have hq := HHA2.out; clear hq; refine (pgFits_any _ _ _ (by first | omega | simp) (by decide)).mono ?_; rw [hFb.out]; rintro e w3 ⟨rfl, hb3⟩
         have e0 := (HHA2.out.kept hb3).cell (i := 3) rfl
         have t0 := (HHS2.out.kept hb3).cell (i := 3) rfl
         have HB3 := Stow.mk (Below.call HB2'.out hb3)
         clear d0 d1 d2 d3 s0 s1 s2 s3 hb3
         go_wp2_with fail)
      | (go_at_call 56; refine (pgFits_any _ _ _ (by first | omega | simp) (by decide)).mono ?_; rw [hFa.out]; rintro e w2 ⟨rfl, hb2⟩
         obtain ⟨hA2, hS2, HB2⟩ := HK.out w1 w2 HB1.out hb2
         have d0 := hA2.cell (i := 0) rfl
         have d1 := hA2.cell (i := 1) rfl
         have d2 := hA2.cell (i := 2) rfl
         have d3 := hA2.cell (i := 3) rfl
         have s0 := hS2.cell (i := 0) rfl
         have s1 := hS2.cell (i := 1) rfl
         have s2 := hS2.cell (i := 2) rfl
         have s3 := hS2.cell (i := 3) rfl
         have HB2' := Stow.mk HB2
         have HHA2 := Stow.mk hA2
         have HHS2 := Stow.mk hS2
         clear hA2 hS2 HB2 hb2 c0 c1 c2 c3 hne
         go_wp2_with fail)
      | (go_at_call 57; refine (pgTraced_any _ _).mono ?_; rw [hT.out]; rintro e w2 ⟨rfl, rfl⟩; go_wp2_with fail))
    go_ret
    first
      | exact ⟨by rw [HR.out]; rfl, HB3.out⟩
      | exact ⟨by rw [HR.out]; rfl, HB2'.out⟩
      | exact ⟨by rw [HR.out]; rfl, Below.alloc' (Below.call (Below.alloc' (Below.self _) _) HB1.out) _⟩
  subst h3
  obtain ⟨cN, hcN⟩ : ∃ c, nameOk a = c := ⟨_, rfl⟩
  have hN := Stow.mk hcN
  cases cN
  · have hFa : Stow (Pg.fits a 2 = 7) := ⟨by simp [Pg.fits, hcN]⟩
    have HR : Stow (Pg.check ⟨3, a, b, 0⟩ = 7) := ⟨by simp [Pg.check, Pg.noA, Pg.noB, hcN]⟩
    clear hcN
    go_enter Tryd.func18, Tryd.ntmps18
    go_wp2_with fail
    refine (pgOf_any 3 _ (by decide) (by decide)).mono ?_
    rw [show Pg.sa 3 = 2 from rfl, show Pg.sb 3 = 1 from rfl, show Pg.sn 3 = 0 from rfl]
    rintro e w1 ⟨rfl, hb1⟩
    have hH := HH.out w1 hb1
    have HB1 := Stow.mk hb1
    have c0 := hH.cell (i := 0) rfl
    have c1 := hH.cell (i := 1) rfl
    have c2 := hH.cell (i := 2) rfl
    have c3 := hH.cell (i := 3) rfl
    have hlt := hH.lt
    have hne : (w1.heap.size == w.heap.size) = false := by simp; omega
    clear hH hb1
    go_wp2_with fail
    repeat (first
      | (go_at_call 56; have hq := HHA2.out; clear hq; refine (pgFits_any _ _ _ (by first | omega | simp) (by decide)).mono ?_; rw [hFb.out]; rintro e w3 ⟨rfl, hb3⟩
         have e0 := (HHA2.out.kept hb3).cell (i := 3) rfl
         have t0 := (HHS2.out.kept hb3).cell (i := 3) rfl
         have HB3 := Stow.mk (Below.call HB2'.out hb3)
         clear d0 d1 d2 d3 s0 s1 s2 s3 hb3
         go_wp2_with fail)
      | (go_at_call 56; refine (pgFits_any _ _ _ (by first | omega | simp) (by decide)).mono ?_; rw [hFa.out]; rintro e w2 ⟨rfl, hb2⟩
         obtain ⟨hA2, hS2, HB2⟩ := HK.out w1 w2 HB1.out hb2
         have d0 := hA2.cell (i := 0) rfl
         have d1 := hA2.cell (i := 1) rfl
         have d2 := hA2.cell (i := 2) rfl
         have d3 := hA2.cell (i := 3) rfl
         have s0 := hS2.cell (i := 0) rfl
         have s1 := hS2.cell (i := 1) rfl
         have s2 := hS2.cell (i := 2) rfl
         have s3 := hS2.cell (i := 3) rfl
         have HB2' := Stow.mk HB2
         have HHA2 := Stow.mk hA2
         have HHS2 := Stow.mk hS2
         clear hA2 hS2 HB2 hb2 c0 c1 c2 c3 hne
         go_wp2_with fail)
      | (go_at_call 57; refine (pgTraced_any _ _).mono ?_; rw [hT.out]; rintro e w2 ⟨rfl, rfl⟩; go_wp2_with fail))
    go_ret
    first
      | exact ⟨by rw [HR.out]; rfl, HB3.out⟩
      | exact ⟨by rw [HR.out]; rfl, HB2'.out⟩
      | exact ⟨by rw [HR.out]; rfl, Below.alloc' (Below.call (Below.alloc' (Below.self _) _) HB1.out) _⟩
  have hFa : Stow (Pg.fits a 2 = 0) := ⟨by simp [Pg.fits, hcN]⟩
  obtain ⟨cV, hcV⟩ : ∃ c, Ms.valueOk b = c := ⟨_, rfl⟩
  have hV := Stow.mk hcV
  cases cV
  · have hFb : Stow (Pg.fits b 1 = 15) := ⟨by simp [Pg.fits, hcV]⟩
    have HR : Stow (Pg.check ⟨3, a, b, 0⟩ = 15) := ⟨by simp [Pg.check, Pg.noA, Pg.noB, hcN, hcV]⟩
    clear hcV hcN
    go_enter Tryd.func18, Tryd.ntmps18
    go_wp2_with fail
    refine (pgOf_any 3 _ (by decide) (by decide)).mono ?_
    rw [show Pg.sa 3 = 2 from rfl, show Pg.sb 3 = 1 from rfl, show Pg.sn 3 = 0 from rfl]
    rintro e w1 ⟨rfl, hb1⟩
    have hH := HH.out w1 hb1
    have HB1 := Stow.mk hb1
    have c0 := hH.cell (i := 0) rfl
    have c1 := hH.cell (i := 1) rfl
    have c2 := hH.cell (i := 2) rfl
    have c3 := hH.cell (i := 3) rfl
    have hlt := hH.lt
    have hne : (w1.heap.size == w.heap.size) = false := by simp; omega
    clear hH hb1
    go_wp2_with fail
    repeat (first
      | (go_at_call 56; have hq := HHA2.out; clear hq; refine (pgFits_any _ _ _ (by first | omega | simp) (by decide)).mono ?_; rw [hFb.out]; rintro e w3 ⟨rfl, hb3⟩
         have e0 := (HHA2.out.kept hb3).cell (i := 3) rfl
         have t0 := (HHS2.out.kept hb3).cell (i := 3) rfl
         have HB3 := Stow.mk (Below.call HB2'.out hb3)
         clear d0 d1 d2 d3 s0 s1 s2 s3 hb3
         go_wp2_with fail)
      | (go_at_call 56; refine (pgFits_any _ _ _ (by first | omega | simp) (by decide)).mono ?_; rw [hFa.out]; rintro e w2 ⟨rfl, hb2⟩
         obtain ⟨hA2, hS2, HB2⟩ := HK.out w1 w2 HB1.out hb2
         have d0 := hA2.cell (i := 0) rfl
         have d1 := hA2.cell (i := 1) rfl
         have d2 := hA2.cell (i := 2) rfl
         have d3 := hA2.cell (i := 3) rfl
         have s0 := hS2.cell (i := 0) rfl
         have s1 := hS2.cell (i := 1) rfl
         have s2 := hS2.cell (i := 2) rfl
         have s3 := hS2.cell (i := 3) rfl
         have HB2' := Stow.mk HB2
         have HHA2 := Stow.mk hA2
         have HHS2 := Stow.mk hS2
         clear hA2 hS2 HB2 hb2 c0 c1 c2 c3 hne
         go_wp2_with fail)
      | (go_at_call 57; refine (pgTraced_any _ _).mono ?_; rw [hT.out]; rintro e w2 ⟨rfl, rfl⟩; go_wp2_with fail))
    go_ret
    first
      | exact ⟨by rw [HR.out]; rfl, HB3.out⟩
      | exact ⟨by rw [HR.out]; rfl, HB2'.out⟩
      | exact ⟨by rw [HR.out]; rfl, Below.alloc' (Below.call (Below.alloc' (Below.self _) _) HB1.out) _⟩
  have hFb : Stow (Pg.fits b 1 = 0) := ⟨by simp [Pg.fits, hcV]⟩
  have HR : Stow (Pg.check ⟨3, a, b, 0⟩ = 0) := ⟨by simp [Pg.check, Pg.noA, Pg.noB, hcN, hcV]⟩
  clear hcN
  clear hcV
  go_enter Tryd.func18, Tryd.ntmps18
  go_wp2_with fail
  refine (pgOf_any 3 _ (by decide) (by decide)).mono ?_
  rw [show Pg.sa 3 = 2 from rfl, show Pg.sb 3 = 1 from rfl, show Pg.sn 3 = 0 from rfl]
  rintro e w1 ⟨rfl, hb1⟩
  have hH := HH.out w1 hb1
  have HB1 := Stow.mk hb1
  have c0 := hH.cell (i := 0) rfl
  have c1 := hH.cell (i := 1) rfl
  have c2 := hH.cell (i := 2) rfl
  have c3 := hH.cell (i := 3) rfl
  have hlt := hH.lt
  have hne : (w1.heap.size == w.heap.size) = false := by simp; omega
  clear hH hb1
  go_wp2_with fail
  repeat (first
    | (go_at_call 56; have hq := HHA2.out; clear hq; refine (pgFits_any _ _ _ (by first | omega | simp) (by decide)).mono ?_; rw [hFb.out]; rintro e w3 ⟨rfl, hb3⟩
       have e0 := (HHA2.out.kept hb3).cell (i := 3) rfl
       have t0 := (HHS2.out.kept hb3).cell (i := 3) rfl
       have HB3 := Stow.mk (Below.call HB2'.out hb3)
       clear d0 d1 d2 d3 s0 s1 s2 s3 hb3
       go_wp2_with fail)
    | (go_at_call 56; refine (pgFits_any _ _ _ (by first | omega | simp) (by decide)).mono ?_; rw [hFa.out]; rintro e w2 ⟨rfl, hb2⟩
       obtain ⟨hA2, hS2, HB2⟩ := HK.out w1 w2 HB1.out hb2
       have d0 := hA2.cell (i := 0) rfl
       have d1 := hA2.cell (i := 1) rfl
       have d2 := hA2.cell (i := 2) rfl
       have d3 := hA2.cell (i := 3) rfl
       have s0 := hS2.cell (i := 0) rfl
       have s1 := hS2.cell (i := 1) rfl
       have s2 := hS2.cell (i := 2) rfl
       have s3 := hS2.cell (i := 3) rfl
       have HB2' := Stow.mk HB2
       have HHA2 := Stow.mk hA2
       have HHS2 := Stow.mk hS2
       clear hA2 hS2 HB2 hb2 c0 c1 c2 c3 hne
       go_wp2_with fail)
    | (go_at_call 57; refine (pgTraced_any _ _).mono ?_; rw [hT.out]; rintro e w2 ⟨rfl, rfl⟩; go_wp2_with fail))
  go_ret
  first
    | exact ⟨by rw [HR.out]; rfl, HB3.out⟩
    | exact ⟨by rw [HR.out]; rfl, HB2'.out⟩
    | exact ⟨by rw [HR.out]; rfl, Below.alloc' (Below.call (Below.alloc' (Below.self _) _) HB1.out) _⟩

set_option maxHeartbeats 4000000 in
set_option maxRecDepth 100000 in
theorem pgC4 (a b : List UInt8) (n : Int) (w : World) (ha : a.length ≤ 140737488355328) (hb : b.length ≤ 140737488355328) :
    Calls Tryd.prog 18 #[.agg #[.int .i64 4, .string (bs a), .string (bs b), .int .i64 n]] w fun e w' => e = .returned (.int .i64 (Pg.check ⟨4, a, b, n⟩ : Nat)) ∧ Below w.heap.size w w' := by
  have HH : Stow (∀ w1, Below (w.alloc (.cells #[.int .i64 4, .string (bs a), .string (bs b), .int .i64 n] 23)).heap.size (w.alloc (.cells #[.int .i64 4, .string (bs a), .string (bs b), .int .i64 n] 23)) w1 → Held w1 w.heap.size [.int .i64 4, .string (bs a), .string (bs b), .int .i64 n]) := ⟨fun w1 h => (Held.made w [.int .i64 4, .string (bs a), .string (bs b), .int .i64 n] _).kept h⟩
  have HK : Stow (∀ w1 w2, Below (w.alloc (.cells #[.int .i64 4, .string (bs a), .string (bs b), .int .i64 n] 23)).heap.size (w.alloc (.cells #[.int .i64 4, .string (bs a), .string (bs b), .int .i64 n] 23)) w1 → Below (w1.alloc (.cells #[.string (bs (Pg.word 4)), .int .i64 2, .int .i64 0, .int .i64 0] 75)).heap.size (w1.alloc (.cells #[.string (bs (Pg.word 4)), .int .i64 2, .int .i64 0, .int .i64 0] 75)) w2 → Held w2 w.heap.size [.int .i64 4, .string (bs a), .string (bs b), .int .i64 n] ∧ Held w2 w1.heap.size [.string (bs (Pg.word 4)), .int .i64 2, .int .i64 0, .int .i64 0] ∧ Below w.heap.size w w2) := ⟨fun w1 w2 h1 h2 => op_kept (S := [.string (bs (Pg.word 4)), .int .i64 2, .int .i64 0, .int .i64 0]) h1 h2⟩
  by_cases h2 : b = []
  rotate_left
  · have h2e : b.isEmpty = false := by simpa using h2
    have HR : Stow (Pg.check ⟨4, a, b, n⟩ = 2) := ⟨by simp [Pg.check, Pg.noA, Pg.noB, h2]⟩
    go_enter Tryd.func18, Tryd.ntmps18
    go_wp2_with fail
    refine (pgOf_any 4 _ (by decide) (by decide)).mono ?_
    rw [show Pg.sa 4 = 2 from rfl, show Pg.sb 4 = 0 from rfl, show Pg.sn 4 = 0 from rfl]
    rintro e w1 ⟨rfl, hb1⟩
    have hH := HH.out w1 hb1
    have HB1 := Stow.mk hb1
    have c0 := hH.cell (i := 0) rfl
    have c1 := hH.cell (i := 1) rfl
    have c2 := hH.cell (i := 2) rfl
    have c3 := hH.cell (i := 3) rfl
    have hlt := hH.lt
    have hne : (w1.heap.size == w.heap.size) = false := by simp; omega
    clear hH hb1
    go_wp2_with fail
    repeat (first
      | (go_at_call 56; have hq := HHA2.out; clear hq; refine (pgFits_any _ _ _ (by first | omega | simp) (by decide)).mono ?_; rw [hFb.out]; rintro e w3 ⟨rfl, hb3⟩
         have e0 := (HHA2.out.kept hb3).cell (i := 3) rfl
         have t0 := (HHS2.out.kept hb3).cell (i := 3) rfl
         have HB3 := Stow.mk (Below.call HB2'.out hb3)
         clear d0 d1 d2 d3 s0 s1 s2 s3 hb3
         go_wp2_with fail)
      | (go_at_call 56; refine (pgFits_any _ _ _ (by first | omega | simp) (by decide)).mono ?_; rw [hFa.out]; rintro e w2 ⟨rfl, hb2⟩
         obtain ⟨hA2, hS2, HB2⟩ := HK.out w1 w2 HB1.out hb2
         have d0 := hA2.cell (i := 0) rfl
         have d1 := hA2.cell (i := 1) rfl
         have d2 := hA2.cell (i := 2) rfl
         have d3 := hA2.cell (i := 3) rfl
         have s0 := hS2.cell (i := 0) rfl
         have s1 := hS2.cell (i := 1) rfl
         have s2 := hS2.cell (i := 2) rfl
         have s3 := hS2.cell (i := 3) rfl
         have HB2' := Stow.mk HB2
         have HHA2 := Stow.mk hA2
         have HHS2 := Stow.mk hS2
         clear hA2 hS2 HB2 hb2 c0 c1 c2 c3 hne
         go_wp2_with fail)
      | (go_at_call 57; refine (pgTraced_any _ _).mono ?_; rw [hT.out]; rintro e w2 ⟨rfl, rfl⟩; go_wp2_with fail))
    go_ret
    first
      | exact ⟨by rw [HR.out]; rfl, HB3.out⟩
      | exact ⟨by rw [HR.out]; rfl, HB2'.out⟩
      | exact ⟨by rw [HR.out]; rfl, Below.alloc' (Below.call (Below.alloc' (Below.self _) _) HB1.out) _⟩
  subst h2
  by_cases h3 : n = 0
  rotate_left
  · have h3e : (n != 0) = true := by rw [bne_iff_ne]; exact h3
    have HR : Stow (Pg.check ⟨4, a, [], n⟩ = 2) := ⟨by simp [Pg.check, Pg.noA, Pg.noB, h3]⟩
    go_enter Tryd.func18, Tryd.ntmps18
    go_wp2_with fail
    refine (pgOf_any 4 _ (by decide) (by decide)).mono ?_
    rw [show Pg.sa 4 = 2 from rfl, show Pg.sb 4 = 0 from rfl, show Pg.sn 4 = 0 from rfl]
    rintro e w1 ⟨rfl, hb1⟩
    have hH := HH.out w1 hb1
    have HB1 := Stow.mk hb1
    have c0 := hH.cell (i := 0) rfl
    have c1 := hH.cell (i := 1) rfl
    have c2 := hH.cell (i := 2) rfl
    have c3 := hH.cell (i := 3) rfl
    have hlt := hH.lt
    have hne : (w1.heap.size == w.heap.size) = false := by simp; omega
    clear hH hb1
    go_wp2_with fail
    repeat (first
      | (go_at_call 56; have hq := HHA2.out; clear hq; refine (pgFits_any _ _ _ (by first | omega | simp) (by decide)).mono ?_; rw [hFb.out]; rintro e w3 ⟨rfl, hb3⟩
         have e0 := (HHA2.out.kept hb3).cell (i := 3) rfl
         have t0 := (HHS2.out.kept hb3).cell (i := 3) rfl
         have HB3 := Stow.mk (Below.call HB2'.out hb3)
         clear d0 d1 d2 d3 s0 s1 s2 s3 hb3
         go_wp2_with fail)
      | (go_at_call 56; refine (pgFits_any _ _ _ (by first | omega | simp) (by decide)).mono ?_; rw [hFa.out]; rintro e w2 ⟨rfl, hb2⟩
         obtain ⟨hA2, hS2, HB2⟩ := HK.out w1 w2 HB1.out hb2
         have d0 := hA2.cell (i := 0) rfl
         have d1 := hA2.cell (i := 1) rfl
         have d2 := hA2.cell (i := 2) rfl
         have d3 := hA2.cell (i := 3) rfl
         have s0 := hS2.cell (i := 0) rfl
         have s1 := hS2.cell (i := 1) rfl
         have s2 := hS2.cell (i := 2) rfl
         have s3 := hS2.cell (i := 3) rfl
         have HB2' := Stow.mk HB2
         have HHA2 := Stow.mk hA2
         have HHS2 := Stow.mk hS2
         clear hA2 hS2 HB2 hb2 c0 c1 c2 c3 hne
         go_wp2_with fail)
      | (go_at_call 57; refine (pgTraced_any _ _).mono ?_; rw [hT.out]; rintro e w2 ⟨rfl, rfl⟩; go_wp2_with fail))
    go_ret
    first
      | exact ⟨by rw [HR.out]; rfl, HB3.out⟩
      | exact ⟨by rw [HR.out]; rfl, HB2'.out⟩
      | exact ⟨by rw [HR.out]; rfl, Below.alloc' (Below.call (Below.alloc' (Below.self _) _) HB1.out) _⟩
  subst h3
  obtain ⟨cN, hcN⟩ : ∃ c, nameOk a = c := ⟨_, rfl⟩
  have hN := Stow.mk hcN
  cases cN
  · have hFa : Stow (Pg.fits a 2 = 7) := ⟨by simp [Pg.fits, hcN]⟩
    have HR : Stow (Pg.check ⟨4, a, [], 0⟩ = 7) := ⟨by simp [Pg.check, Pg.noA, Pg.noB, hcN]⟩
    clear hcN
    go_enter Tryd.func18, Tryd.ntmps18
    go_wp2_with fail
    refine (pgOf_any 4 _ (by decide) (by decide)).mono ?_
    rw [show Pg.sa 4 = 2 from rfl, show Pg.sb 4 = 0 from rfl, show Pg.sn 4 = 0 from rfl]
    rintro e w1 ⟨rfl, hb1⟩
    have hH := HH.out w1 hb1
    have HB1 := Stow.mk hb1
    have c0 := hH.cell (i := 0) rfl
    have c1 := hH.cell (i := 1) rfl
    have c2 := hH.cell (i := 2) rfl
    have c3 := hH.cell (i := 3) rfl
    have hlt := hH.lt
    have hne : (w1.heap.size == w.heap.size) = false := by simp; omega
    clear hH hb1
    go_wp2_with fail
    repeat (first
      | (go_at_call 56; have hq := HHA2.out; clear hq; refine (pgFits_any _ _ _ (by first | omega | simp) (by decide)).mono ?_; rw [hFb.out]; rintro e w3 ⟨rfl, hb3⟩
         have e0 := (HHA2.out.kept hb3).cell (i := 3) rfl
         have t0 := (HHS2.out.kept hb3).cell (i := 3) rfl
         have HB3 := Stow.mk (Below.call HB2'.out hb3)
         clear d0 d1 d2 d3 s0 s1 s2 s3 hb3
         go_wp2_with fail)
      | (go_at_call 56; refine (pgFits_any _ _ _ (by first | omega | simp) (by decide)).mono ?_; rw [hFa.out]; rintro e w2 ⟨rfl, hb2⟩
         obtain ⟨hA2, hS2, HB2⟩ := HK.out w1 w2 HB1.out hb2
         have d0 := hA2.cell (i := 0) rfl
         have d1 := hA2.cell (i := 1) rfl
         have d2 := hA2.cell (i := 2) rfl
         have d3 := hA2.cell (i := 3) rfl
         have s0 := hS2.cell (i := 0) rfl
         have s1 := hS2.cell (i := 1) rfl
         have s2 := hS2.cell (i := 2) rfl
         have s3 := hS2.cell (i := 3) rfl
         have HB2' := Stow.mk HB2
         have HHA2 := Stow.mk hA2
         have HHS2 := Stow.mk hS2
         clear hA2 hS2 HB2 hb2 c0 c1 c2 c3 hne
         go_wp2_with fail)
      | (go_at_call 57; refine (pgTraced_any _ _).mono ?_; rw [hT.out]; rintro e w2 ⟨rfl, rfl⟩; go_wp2_with fail))
    go_ret
    first
      | exact ⟨by rw [HR.out]; rfl, HB3.out⟩
      | exact ⟨by rw [HR.out]; rfl, HB2'.out⟩
      | exact ⟨by rw [HR.out]; rfl, Below.alloc' (Below.call (Below.alloc' (Below.self _) _) HB1.out) _⟩
  have hFa : Stow (Pg.fits a 2 = 0) := ⟨by simp [Pg.fits, hcN]⟩
  obtain ⟨c, hc⟩ : ∃ c, (a == [116, 114, 97, 99, 101, 112, 97, 114, 101, 110, 116]) = c := ⟨_, rfl⟩
  obtain ⟨d, hd⟩ : ∃ d, (a == [116, 114, 97, 99, 101, 115, 116, 97, 116, 101]) = d := ⟨_, rfl⟩
  have hTr : Pg.traced a = (c || d) := by unfold Pg.traced; rw [hc, hd]
  have hT := Stow.mk hTr
  have hFb : Stow (Pg.fits [] 0 = 0) := ⟨rfl⟩
  have HRR : Stow (Pg.check ⟨4, a, [], 0⟩ = if (c || d) then 7 else 0) := ⟨by simp [Pg.check, Pg.noA, Pg.noB, hcN, hTr]⟩
  clear hTr hcN
  clear hc hd
  generalize hcd : (c || d) = t at hT HRR
  clear hcd
  cases t
  · have HR := HRR
    go_enter Tryd.func18, Tryd.ntmps18
    go_wp2_with fail
    refine (pgOf_any 4 _ (by decide) (by decide)).mono ?_
    rw [show Pg.sa 4 = 2 from rfl, show Pg.sb 4 = 0 from rfl, show Pg.sn 4 = 0 from rfl]
    rintro e w1 ⟨rfl, hb1⟩
    have hH := HH.out w1 hb1
    have HB1 := Stow.mk hb1
    have c0 := hH.cell (i := 0) rfl
    have c1 := hH.cell (i := 1) rfl
    have c2 := hH.cell (i := 2) rfl
    have c3 := hH.cell (i := 3) rfl
    have hlt := hH.lt
    have hne : (w1.heap.size == w.heap.size) = false := by simp; omega
    clear hH hb1
    go_wp2_with fail
    repeat (first
      | (go_at_call 56; have hq := HHA2.out; clear hq; refine (pgFits_any _ _ _ (by first | omega | simp) (by decide)).mono ?_; rw [hFb.out]; rintro e w3 ⟨rfl, hb3⟩
         have e0 := (HHA2.out.kept hb3).cell (i := 3) rfl
         have t0 := (HHS2.out.kept hb3).cell (i := 3) rfl
         have HB3 := Stow.mk (Below.call HB2'.out hb3)
         clear d0 d1 d2 d3 s0 s1 s2 s3 hb3
         go_wp2_with fail)
      | (go_at_call 56; refine (pgFits_any _ _ _ (by first | omega | simp) (by decide)).mono ?_; rw [hFa.out]; rintro e w2 ⟨rfl, hb2⟩
         obtain ⟨hA2, hS2, HB2⟩ := HK.out w1 w2 HB1.out hb2
         have d0 := hA2.cell (i := 0) rfl
         have d1 := hA2.cell (i := 1) rfl
         have d2 := hA2.cell (i := 2) rfl
         have d3 := hA2.cell (i := 3) rfl
         have s0 := hS2.cell (i := 0) rfl
         have s1 := hS2.cell (i := 1) rfl
         have s2 := hS2.cell (i := 2) rfl
         have s3 := hS2.cell (i := 3) rfl
         have HB2' := Stow.mk HB2
         have HHA2 := Stow.mk hA2
         have HHS2 := Stow.mk hS2
         clear hA2 hS2 HB2 hb2 c0 c1 c2 c3 hne
         go_wp2_with fail)
      | (go_at_call 57; refine (pgTraced_any _ _).mono ?_; rw [hT.out]; rintro e w2 ⟨rfl, rfl⟩; go_wp2_with fail))
    go_ret
    first
      | exact ⟨by rw [HR.out]; rfl, HB3.out⟩
      | exact ⟨by rw [HR.out]; rfl, HB2'.out⟩
      | exact ⟨by rw [HR.out]; rfl, Below.alloc' (Below.call (Below.alloc' (Below.self _) _) HB1.out) _⟩
  · have HR := HRR
    go_enter Tryd.func18, Tryd.ntmps18
    go_wp2_with fail
    refine (pgOf_any 4 _ (by decide) (by decide)).mono ?_
    rw [show Pg.sa 4 = 2 from rfl, show Pg.sb 4 = 0 from rfl, show Pg.sn 4 = 0 from rfl]
    rintro e w1 ⟨rfl, hb1⟩
    have hH := HH.out w1 hb1
    have HB1 := Stow.mk hb1
    have c0 := hH.cell (i := 0) rfl
    have c1 := hH.cell (i := 1) rfl
    have c2 := hH.cell (i := 2) rfl
    have c3 := hH.cell (i := 3) rfl
    have hlt := hH.lt
    have hne : (w1.heap.size == w.heap.size) = false := by simp; omega
    clear hH hb1
    go_wp2_with fail
    repeat (first
      | (go_at_call 56; have hq := HHA2.out; clear hq; refine (pgFits_any _ _ _ (by first | omega | simp) (by decide)).mono ?_; rw [hFb.out]; rintro e w3 ⟨rfl, hb3⟩
         have e0 := (HHA2.out.kept hb3).cell (i := 3) rfl
         have t0 := (HHS2.out.kept hb3).cell (i := 3) rfl
         have HB3 := Stow.mk (Below.call HB2'.out hb3)
         clear d0 d1 d2 d3 s0 s1 s2 s3 hb3
         go_wp2_with fail)
      | (go_at_call 56; refine (pgFits_any _ _ _ (by first | omega | simp) (by decide)).mono ?_; rw [hFa.out]; rintro e w2 ⟨rfl, hb2⟩
         obtain ⟨hA2, hS2, HB2⟩ := HK.out w1 w2 HB1.out hb2
         have d0 := hA2.cell (i := 0) rfl
         have d1 := hA2.cell (i := 1) rfl
         have d2 := hA2.cell (i := 2) rfl
         have d3 := hA2.cell (i := 3) rfl
         have s0 := hS2.cell (i := 0) rfl
         have s1 := hS2.cell (i := 1) rfl
         have s2 := hS2.cell (i := 2) rfl
         have s3 := hS2.cell (i := 3) rfl
         have HB2' := Stow.mk HB2
         have HHA2 := Stow.mk hA2
         have HHS2 := Stow.mk hS2
         clear hA2 hS2 HB2 hb2 c0 c1 c2 c3 hne
         go_wp2_with fail)
      | (go_at_call 57; refine (pgTraced_any _ _).mono ?_; rw [hT.out]; rintro e w2 ⟨rfl, rfl⟩; go_wp2_with fail))
    go_ret
    first
      | exact ⟨by rw [HR.out]; rfl, HB3.out⟩
      | exact ⟨by rw [HR.out]; rfl, HB2'.out⟩
      | exact ⟨by rw [HR.out]; rfl, Below.alloc' (Below.call (Below.alloc' (Below.self _) _) HB1.out) _⟩

set_option maxHeartbeats 4000000 in
set_option maxRecDepth 100000 in
theorem pgC5 (a b : List UInt8) (n : Int) (w : World) (ha : a.length ≤ 140737488355328) (hb : b.length ≤ 140737488355328) :
    Calls Tryd.prog 18 #[.agg #[.int .i64 5, .string (bs a), .string (bs b), .int .i64 n]] w fun e w' => e = .returned (.int .i64 (Pg.check ⟨5, a, b, n⟩ : Nat)) ∧ Below w.heap.size w w' := by
  have HH : Stow (∀ w1, Below (w.alloc (.cells #[.int .i64 5, .string (bs a), .string (bs b), .int .i64 n] 23)).heap.size (w.alloc (.cells #[.int .i64 5, .string (bs a), .string (bs b), .int .i64 n] 23)) w1 → Held w1 w.heap.size [.int .i64 5, .string (bs a), .string (bs b), .int .i64 n]) := ⟨fun w1 h => (Held.made w [.int .i64 5, .string (bs a), .string (bs b), .int .i64 n] _).kept h⟩
  have HK : Stow (∀ w1 w2, Below (w.alloc (.cells #[.int .i64 5, .string (bs a), .string (bs b), .int .i64 n] 23)).heap.size (w.alloc (.cells #[.int .i64 5, .string (bs a), .string (bs b), .int .i64 n] 23)) w1 → Below (w1.alloc (.cells #[.string (bs (Pg.word 5)), .int .i64 0, .int .i64 0, .int .i64 0] 75)).heap.size (w1.alloc (.cells #[.string (bs (Pg.word 5)), .int .i64 0, .int .i64 0, .int .i64 0] 75)) w2 → Held w2 w.heap.size [.int .i64 5, .string (bs a), .string (bs b), .int .i64 n] ∧ Held w2 w1.heap.size [.string (bs (Pg.word 5)), .int .i64 0, .int .i64 0, .int .i64 0] ∧ Below w.heap.size w w2) := ⟨fun w1 w2 h1 h2 => op_kept (S := [.string (bs (Pg.word 5)), .int .i64 0, .int .i64 0, .int .i64 0]) h1 h2⟩
  by_cases h1 : a = []
  rotate_left
  · have h1e : a.isEmpty = false := by simpa using h1
    have HR : Stow (Pg.check ⟨5, a, b, n⟩ = 2) := ⟨by simp [Pg.check, Pg.noA, Pg.noB, h1]⟩
    go_enter Tryd.func18, Tryd.ntmps18
    go_wp2_with fail
    refine (pgOf_any 5 _ (by decide) (by decide)).mono ?_
    rw [show Pg.sa 5 = 0 from rfl, show Pg.sb 5 = 0 from rfl, show Pg.sn 5 = 0 from rfl]
    rintro e w1 ⟨rfl, hb1⟩
    have hH := HH.out w1 hb1
    have HB1 := Stow.mk hb1
    have c0 := hH.cell (i := 0) rfl
    have c1 := hH.cell (i := 1) rfl
    have c2 := hH.cell (i := 2) rfl
    have c3 := hH.cell (i := 3) rfl
    have hlt := hH.lt
    have hne : (w1.heap.size == w.heap.size) = false := by simp; omega
    clear hH hb1
    go_wp2_with fail
    repeat (first
      | (go_at_call 56; have hq := HHA2.out; clear hq; refine (pgFits_any _ _ _ (by first | omega | simp) (by decide)).mono ?_; rw [hFb.out]; rintro e w3 ⟨rfl, hb3⟩
         have e0 := (HHA2.out.kept hb3).cell (i := 3) rfl
         have t0 := (HHS2.out.kept hb3).cell (i := 3) rfl
         have HB3 := Stow.mk (Below.call HB2'.out hb3)
         clear d0 d1 d2 d3 s0 s1 s2 s3 hb3
         go_wp2_with fail)
      | (go_at_call 56; refine (pgFits_any _ _ _ (by first | omega | simp) (by decide)).mono ?_; rw [hFa.out]; rintro e w2 ⟨rfl, hb2⟩
         obtain ⟨hA2, hS2, HB2⟩ := HK.out w1 w2 HB1.out hb2
         have d0 := hA2.cell (i := 0) rfl
         have d1 := hA2.cell (i := 1) rfl
         have d2 := hA2.cell (i := 2) rfl
         have d3 := hA2.cell (i := 3) rfl
         have s0 := hS2.cell (i := 0) rfl
         have s1 := hS2.cell (i := 1) rfl
         have s2 := hS2.cell (i := 2) rfl
         have s3 := hS2.cell (i := 3) rfl
         have HB2' := Stow.mk HB2
         have HHA2 := Stow.mk hA2
         have HHS2 := Stow.mk hS2
         clear hA2 hS2 HB2 hb2 c0 c1 c2 c3 hne
         go_wp2_with fail)
      | (go_at_call 57; refine (pgTraced_any _ _).mono ?_; rw [hT.out]; rintro e w2 ⟨rfl, rfl⟩; go_wp2_with fail))
    go_ret
    first
      | exact ⟨by rw [HR.out]; rfl, HB3.out⟩
      | exact ⟨by rw [HR.out]; rfl, HB2'.out⟩
      | exact ⟨by rw [HR.out]; rfl, Below.alloc' (Below.call (Below.alloc' (Below.self _) _) HB1.out) _⟩
  subst h1
  by_cases h2 : b = []
  rotate_left
  · have h2e : b.isEmpty = false := by simpa using h2
    have HR : Stow (Pg.check ⟨5, [], b, n⟩ = 2) := ⟨by simp [Pg.check, Pg.noA, Pg.noB, h2]⟩
    go_enter Tryd.func18, Tryd.ntmps18
    go_wp2_with fail
    refine (pgOf_any 5 _ (by decide) (by decide)).mono ?_
    rw [show Pg.sa 5 = 0 from rfl, show Pg.sb 5 = 0 from rfl, show Pg.sn 5 = 0 from rfl]
    rintro e w1 ⟨rfl, hb1⟩
    have hH := HH.out w1 hb1
    have HB1 := Stow.mk hb1
    have c0 := hH.cell (i := 0) rfl
    have c1 := hH.cell (i := 1) rfl
    have c2 := hH.cell (i := 2) rfl
    have c3 := hH.cell (i := 3) rfl
    have hlt := hH.lt
    have hne : (w1.heap.size == w.heap.size) = false := by simp; omega
    clear hH hb1
    go_wp2_with fail
    repeat (first
      | (go_at_call 56; have hq := HHA2.out; clear hq; refine (pgFits_any _ _ _ (by first | omega | simp) (by decide)).mono ?_; rw [hFb.out]; rintro e w3 ⟨rfl, hb3⟩
         have e0 := (HHA2.out.kept hb3).cell (i := 3) rfl
         have t0 := (HHS2.out.kept hb3).cell (i := 3) rfl
         have HB3 := Stow.mk (Below.call HB2'.out hb3)
         clear d0 d1 d2 d3 s0 s1 s2 s3 hb3
         go_wp2_with fail)
      | (go_at_call 56; refine (pgFits_any _ _ _ (by first | omega | simp) (by decide)).mono ?_; rw [hFa.out]; rintro e w2 ⟨rfl, hb2⟩
         obtain ⟨hA2, hS2, HB2⟩ := HK.out w1 w2 HB1.out hb2
         have d0 := hA2.cell (i := 0) rfl
         have d1 := hA2.cell (i := 1) rfl
         have d2 := hA2.cell (i := 2) rfl
         have d3 := hA2.cell (i := 3) rfl
         have s0 := hS2.cell (i := 0) rfl
         have s1 := hS2.cell (i := 1) rfl
         have s2 := hS2.cell (i := 2) rfl
         have s3 := hS2.cell (i := 3) rfl
         have HB2' := Stow.mk HB2
         have HHA2 := Stow.mk hA2
         have HHS2 := Stow.mk hS2
         clear hA2 hS2 HB2 hb2 c0 c1 c2 c3 hne
         go_wp2_with fail)
      | (go_at_call 57; refine (pgTraced_any _ _).mono ?_; rw [hT.out]; rintro e w2 ⟨rfl, rfl⟩; go_wp2_with fail))
    go_ret
    first
      | exact ⟨by rw [HR.out]; rfl, HB3.out⟩
      | exact ⟨by rw [HR.out]; rfl, HB2'.out⟩
      | exact ⟨by rw [HR.out]; rfl, Below.alloc' (Below.call (Below.alloc' (Below.self _) _) HB1.out) _⟩
  subst h2
  by_cases h3 : n = 0
  rotate_left
  · have h3e : (n != 0) = true := by rw [bne_iff_ne]; exact h3
    have HR : Stow (Pg.check ⟨5, [], [], n⟩ = 2) := ⟨by simp [Pg.check, Pg.noA, Pg.noB, h3]⟩
    go_enter Tryd.func18, Tryd.ntmps18
    go_wp2_with fail
    refine (pgOf_any 5 _ (by decide) (by decide)).mono ?_
    rw [show Pg.sa 5 = 0 from rfl, show Pg.sb 5 = 0 from rfl, show Pg.sn 5 = 0 from rfl]
    rintro e w1 ⟨rfl, hb1⟩
    have hH := HH.out w1 hb1
    have HB1 := Stow.mk hb1
    have c0 := hH.cell (i := 0) rfl
    have c1 := hH.cell (i := 1) rfl
    have c2 := hH.cell (i := 2) rfl
    have c3 := hH.cell (i := 3) rfl
    have hlt := hH.lt
    have hne : (w1.heap.size == w.heap.size) = false := by simp; omega
    clear hH hb1
    go_wp2_with fail
    repeat (first
      | (go_at_call 56; have hq := HHA2.out; clear hq; refine (pgFits_any _ _ _ (by first | omega | simp) (by decide)).mono ?_; rw [hFb.out]; rintro e w3 ⟨rfl, hb3⟩
         have e0 := (HHA2.out.kept hb3).cell (i := 3) rfl
         have t0 := (HHS2.out.kept hb3).cell (i := 3) rfl
         have HB3 := Stow.mk (Below.call HB2'.out hb3)
         clear d0 d1 d2 d3 s0 s1 s2 s3 hb3
         go_wp2_with fail)
      | (go_at_call 56; refine (pgFits_any _ _ _ (by first | omega | simp) (by decide)).mono ?_; rw [hFa.out]; rintro e w2 ⟨rfl, hb2⟩
         obtain ⟨hA2, hS2, HB2⟩ := HK.out w1 w2 HB1.out hb2
         have d0 := hA2.cell (i := 0) rfl
         have d1 := hA2.cell (i := 1) rfl
         have d2 := hA2.cell (i := 2) rfl
         have d3 := hA2.cell (i := 3) rfl
         have s0 := hS2.cell (i := 0) rfl
         have s1 := hS2.cell (i := 1) rfl
         have s2 := hS2.cell (i := 2) rfl
         have s3 := hS2.cell (i := 3) rfl
         have HB2' := Stow.mk HB2
         have HHA2 := Stow.mk hA2
         have HHS2 := Stow.mk hS2
         clear hA2 hS2 HB2 hb2 c0 c1 c2 c3 hne
         go_wp2_with fail)
      | (go_at_call 57; refine (pgTraced_any _ _).mono ?_; rw [hT.out]; rintro e w2 ⟨rfl, rfl⟩; go_wp2_with fail))
    go_ret
    first
      | exact ⟨by rw [HR.out]; rfl, HB3.out⟩
      | exact ⟨by rw [HR.out]; rfl, HB2'.out⟩
      | exact ⟨by rw [HR.out]; rfl, Below.alloc' (Below.call (Below.alloc' (Below.self _) _) HB1.out) _⟩
  subst h3
  have hFa : Stow (Pg.fits [] 0 = 0) := ⟨rfl⟩
  have hFb : Stow (Pg.fits [] 0 = 0) := ⟨rfl⟩
  have HR : Stow (Pg.check ⟨5, [], [], 0⟩ = 0) := ⟨by simp [Pg.check, Pg.noA, Pg.noB]⟩
  go_enter Tryd.func18, Tryd.ntmps18
  go_wp2_with fail
  refine (pgOf_any 5 _ (by decide) (by decide)).mono ?_
  rw [show Pg.sa 5 = 0 from rfl, show Pg.sb 5 = 0 from rfl, show Pg.sn 5 = 0 from rfl]
  rintro e w1 ⟨rfl, hb1⟩
  have hH := HH.out w1 hb1
  have HB1 := Stow.mk hb1
  have c0 := hH.cell (i := 0) rfl
  have c1 := hH.cell (i := 1) rfl
  have c2 := hH.cell (i := 2) rfl
  have c3 := hH.cell (i := 3) rfl
  have hlt := hH.lt
  have hne : (w1.heap.size == w.heap.size) = false := by simp; omega
  clear hH hb1
  go_wp2_with fail
  repeat (first
    | (go_at_call 56; have hq := HHA2.out; clear hq; refine (pgFits_any _ _ _ (by first | omega | simp) (by decide)).mono ?_; rw [hFb.out]; rintro e w3 ⟨rfl, hb3⟩
       have e0 := (HHA2.out.kept hb3).cell (i := 3) rfl
       have t0 := (HHS2.out.kept hb3).cell (i := 3) rfl
       have HB3 := Stow.mk (Below.call HB2'.out hb3)
       clear d0 d1 d2 d3 s0 s1 s2 s3 hb3
       go_wp2_with fail)
    | (go_at_call 56; refine (pgFits_any _ _ _ (by first | omega | simp) (by decide)).mono ?_; rw [hFa.out]; rintro e w2 ⟨rfl, hb2⟩
       obtain ⟨hA2, hS2, HB2⟩ := HK.out w1 w2 HB1.out hb2
       have d0 := hA2.cell (i := 0) rfl
       have d1 := hA2.cell (i := 1) rfl
       have d2 := hA2.cell (i := 2) rfl
       have d3 := hA2.cell (i := 3) rfl
       have s0 := hS2.cell (i := 0) rfl
       have s1 := hS2.cell (i := 1) rfl
       have s2 := hS2.cell (i := 2) rfl
       have s3 := hS2.cell (i := 3) rfl
       have HB2' := Stow.mk HB2
       have HHA2 := Stow.mk hA2
       have HHS2 := Stow.mk hS2
       clear hA2 hS2 HB2 hb2 c0 c1 c2 c3 hne
       go_wp2_with fail)
    | (go_at_call 57; refine (pgTraced_any _ _).mono ?_; rw [hT.out]; rintro e w2 ⟨rfl, rfl⟩; go_wp2_with fail))
  go_ret
  first
    | exact ⟨by rw [HR.out]; rfl, HB3.out⟩
    | exact ⟨by rw [HR.out]; rfl, HB2'.out⟩
    | exact ⟨by rw [HR.out]; rfl, Below.alloc' (Below.call (Below.alloc' (Below.self _) _) HB1.out) _⟩

set_option maxHeartbeats 4000000 in
set_option maxRecDepth 100000 in
theorem pgC6 (a b : List UInt8) (n : Int) (w : World) (ha : a.length ≤ 140737488355328) (hb : b.length ≤ 140737488355328) :
    Calls Tryd.prog 18 #[.agg #[.int .i64 6, .string (bs a), .string (bs b), .int .i64 n]] w fun e w' => e = .returned (.int .i64 (Pg.check ⟨6, a, b, n⟩ : Nat)) ∧ Below w.heap.size w w' := by
  have HH : Stow (∀ w1, Below (w.alloc (.cells #[.int .i64 6, .string (bs a), .string (bs b), .int .i64 n] 23)).heap.size (w.alloc (.cells #[.int .i64 6, .string (bs a), .string (bs b), .int .i64 n] 23)) w1 → Held w1 w.heap.size [.int .i64 6, .string (bs a), .string (bs b), .int .i64 n]) := ⟨fun w1 h => (Held.made w [.int .i64 6, .string (bs a), .string (bs b), .int .i64 n] _).kept h⟩
  have HK : Stow (∀ w1 w2, Below (w.alloc (.cells #[.int .i64 6, .string (bs a), .string (bs b), .int .i64 n] 23)).heap.size (w.alloc (.cells #[.int .i64 6, .string (bs a), .string (bs b), .int .i64 n] 23)) w1 → Below (w1.alloc (.cells #[.string (bs (Pg.word 6)), .int .i64 2, .int .i64 3, .int .i64 0] 75)).heap.size (w1.alloc (.cells #[.string (bs (Pg.word 6)), .int .i64 2, .int .i64 3, .int .i64 0] 75)) w2 → Held w2 w.heap.size [.int .i64 6, .string (bs a), .string (bs b), .int .i64 n] ∧ Held w2 w1.heap.size [.string (bs (Pg.word 6)), .int .i64 2, .int .i64 3, .int .i64 0] ∧ Below w.heap.size w w2) := ⟨fun w1 w2 h1 h2 => op_kept (S := [.string (bs (Pg.word 6)), .int .i64 2, .int .i64 3, .int .i64 0]) h1 h2⟩
  by_cases h3 : n = 0
  rotate_left
  · have h3e : (n != 0) = true := by rw [bne_iff_ne]; exact h3
    have HR : Stow (Pg.check ⟨6, a, b, n⟩ = 2) := ⟨by simp [Pg.check, Pg.noA, Pg.noB, h3]⟩
    go_enter Tryd.func18, Tryd.ntmps18
    go_wp2_with fail
    refine (pgOf_any 6 _ (by decide) (by decide)).mono ?_
    rw [show Pg.sa 6 = 2 from rfl, show Pg.sb 6 = 3 from rfl, show Pg.sn 6 = 0 from rfl]
    rintro e w1 ⟨rfl, hb1⟩
    have hH := HH.out w1 hb1
    have HB1 := Stow.mk hb1
    have c0 := hH.cell (i := 0) rfl
    have c1 := hH.cell (i := 1) rfl
    have c2 := hH.cell (i := 2) rfl
    have c3 := hH.cell (i := 3) rfl
    have hlt := hH.lt
    have hne : (w1.heap.size == w.heap.size) = false := by simp; omega
    clear hH hb1
    go_wp2_with fail
    repeat (first
      | (go_at_call 56; have hq := HHA2.out; clear hq; refine (pgFits_any _ _ _ (by first | omega | simp) (by decide)).mono ?_; rw [hFb.out]; rintro e w3 ⟨rfl, hb3⟩
         have e0 := (HHA2.out.kept hb3).cell (i := 3) rfl
         have t0 := (HHS2.out.kept hb3).cell (i := 3) rfl
         have HB3 := Stow.mk (Below.call HB2'.out hb3)
         clear d0 d1 d2 d3 s0 s1 s2 s3 hb3
         go_wp2_with fail)
      | (go_at_call 56; refine (pgFits_any _ _ _ (by first | omega | simp) (by decide)).mono ?_; rw [hFa.out]; rintro e w2 ⟨rfl, hb2⟩
         obtain ⟨hA2, hS2, HB2⟩ := HK.out w1 w2 HB1.out hb2
         have d0 := hA2.cell (i := 0) rfl
         have d1 := hA2.cell (i := 1) rfl
         have d2 := hA2.cell (i := 2) rfl
         have d3 := hA2.cell (i := 3) rfl
         have s0 := hS2.cell (i := 0) rfl
         have s1 := hS2.cell (i := 1) rfl
         have s2 := hS2.cell (i := 2) rfl
         have s3 := hS2.cell (i := 3) rfl
         have HB2' := Stow.mk HB2
         have HHA2 := Stow.mk hA2
         have HHS2 := Stow.mk hS2
         clear hA2 hS2 HB2 hb2 c0 c1 c2 c3 hne
         go_wp2_with fail)
      | (go_at_call 57; refine (pgTraced_any _ _).mono ?_; rw [hT.out]; rintro e w2 ⟨rfl, rfl⟩; go_wp2_with fail))
    go_ret
    first
      | exact ⟨by rw [HR.out]; rfl, HB3.out⟩
      | exact ⟨by rw [HR.out]; rfl, HB2'.out⟩
      | exact ⟨by rw [HR.out]; rfl, Below.alloc' (Below.call (Below.alloc' (Below.self _) _) HB1.out) _⟩
  subst h3
  obtain ⟨cN, hcN⟩ : ∃ c, nameOk a = c := ⟨_, rfl⟩
  have hN := Stow.mk hcN
  cases cN
  · have hFa : Stow (Pg.fits a 2 = 7) := ⟨by simp [Pg.fits, hcN]⟩
    have HR : Stow (Pg.check ⟨6, a, b, 0⟩ = 7) := ⟨by simp [Pg.check, Pg.noA, Pg.noB, hcN]⟩
    clear hcN
    go_enter Tryd.func18, Tryd.ntmps18
    go_wp2_with fail
    refine (pgOf_any 6 _ (by decide) (by decide)).mono ?_
    rw [show Pg.sa 6 = 2 from rfl, show Pg.sb 6 = 3 from rfl, show Pg.sn 6 = 0 from rfl]
    rintro e w1 ⟨rfl, hb1⟩
    have hH := HH.out w1 hb1
    have HB1 := Stow.mk hb1
    have c0 := hH.cell (i := 0) rfl
    have c1 := hH.cell (i := 1) rfl
    have c2 := hH.cell (i := 2) rfl
    have c3 := hH.cell (i := 3) rfl
    have hlt := hH.lt
    have hne : (w1.heap.size == w.heap.size) = false := by simp; omega
    clear hH hb1
    go_wp2_with fail
    repeat (first
      | (go_at_call 56; have hq := HHA2.out; clear hq; refine (pgFits_any _ _ _ (by first | omega | simp) (by decide)).mono ?_; rw [hFb.out]; rintro e w3 ⟨rfl, hb3⟩
         have e0 := (HHA2.out.kept hb3).cell (i := 3) rfl
         have t0 := (HHS2.out.kept hb3).cell (i := 3) rfl
         have HB3 := Stow.mk (Below.call HB2'.out hb3)
         clear d0 d1 d2 d3 s0 s1 s2 s3 hb3
         go_wp2_with fail)
      | (go_at_call 56; refine (pgFits_any _ _ _ (by first | omega | simp) (by decide)).mono ?_; rw [hFa.out]; rintro e w2 ⟨rfl, hb2⟩
         obtain ⟨hA2, hS2, HB2⟩ := HK.out w1 w2 HB1.out hb2
         have d0 := hA2.cell (i := 0) rfl
         have d1 := hA2.cell (i := 1) rfl
         have d2 := hA2.cell (i := 2) rfl
         have d3 := hA2.cell (i := 3) rfl
         have s0 := hS2.cell (i := 0) rfl
         have s1 := hS2.cell (i := 1) rfl
         have s2 := hS2.cell (i := 2) rfl
         have s3 := hS2.cell (i := 3) rfl
         have HB2' := Stow.mk HB2
         have HHA2 := Stow.mk hA2
         have HHS2 := Stow.mk hS2
         clear hA2 hS2 HB2 hb2 c0 c1 c2 c3 hne
         go_wp2_with fail)
      | (go_at_call 57; refine (pgTraced_any _ _).mono ?_; rw [hT.out]; rintro e w2 ⟨rfl, rfl⟩; go_wp2_with fail))
    go_ret
    first
      | exact ⟨by rw [HR.out]; rfl, HB3.out⟩
      | exact ⟨by rw [HR.out]; rfl, HB2'.out⟩
      | exact ⟨by rw [HR.out]; rfl, Below.alloc' (Below.call (Below.alloc' (Below.self _) _) HB1.out) _⟩
  have hFa : Stow (Pg.fits a 2 = 0) := ⟨by simp [Pg.fits, hcN]⟩
  obtain ⟨cP, hcP⟩ : ∃ c, Ms.pathOk b = c := ⟨_, rfl⟩
  have hP := Stow.mk hcP
  cases cP
  · have hFb : Stow (Pg.fits b 3 = 12) := ⟨by simp [Pg.fits, hcP]⟩
    have HR : Stow (Pg.check ⟨6, a, b, 0⟩ = 12) := ⟨by simp [Pg.check, Pg.noA, Pg.noB, hcN, hcP]⟩
    clear hcP hcN
    go_enter Tryd.func18, Tryd.ntmps18
    go_wp2_with fail
    refine (pgOf_any 6 _ (by decide) (by decide)).mono ?_
    rw [show Pg.sa 6 = 2 from rfl, show Pg.sb 6 = 3 from rfl, show Pg.sn 6 = 0 from rfl]
    rintro e w1 ⟨rfl, hb1⟩
    have hH := HH.out w1 hb1
    have HB1 := Stow.mk hb1
    have c0 := hH.cell (i := 0) rfl
    have c1 := hH.cell (i := 1) rfl
    have c2 := hH.cell (i := 2) rfl
    have c3 := hH.cell (i := 3) rfl
    have hlt := hH.lt
    have hne : (w1.heap.size == w.heap.size) = false := by simp; omega
    clear hH hb1
    go_wp2_with fail
    repeat (first
      | (go_at_call 56; have hq := HHA2.out; clear hq; refine (pgFits_any _ _ _ (by first | omega | simp) (by decide)).mono ?_; rw [hFb.out]; rintro e w3 ⟨rfl, hb3⟩
         have e0 := (HHA2.out.kept hb3).cell (i := 3) rfl
         have t0 := (HHS2.out.kept hb3).cell (i := 3) rfl
         have HB3 := Stow.mk (Below.call HB2'.out hb3)
         clear d0 d1 d2 d3 s0 s1 s2 s3 hb3
         go_wp2_with fail)
      | (go_at_call 56; refine (pgFits_any _ _ _ (by first | omega | simp) (by decide)).mono ?_; rw [hFa.out]; rintro e w2 ⟨rfl, hb2⟩
         obtain ⟨hA2, hS2, HB2⟩ := HK.out w1 w2 HB1.out hb2
         have d0 := hA2.cell (i := 0) rfl
         have d1 := hA2.cell (i := 1) rfl
         have d2 := hA2.cell (i := 2) rfl
         have d3 := hA2.cell (i := 3) rfl
         have s0 := hS2.cell (i := 0) rfl
         have s1 := hS2.cell (i := 1) rfl
         have s2 := hS2.cell (i := 2) rfl
         have s3 := hS2.cell (i := 3) rfl
         have HB2' := Stow.mk HB2
         have HHA2 := Stow.mk hA2
         have HHS2 := Stow.mk hS2
         clear hA2 hS2 HB2 hb2 c0 c1 c2 c3 hne
         go_wp2_with fail)
      | (go_at_call 57; refine (pgTraced_any _ _).mono ?_; rw [hT.out]; rintro e w2 ⟨rfl, rfl⟩; go_wp2_with fail))
    go_ret
    first
      | exact ⟨by rw [HR.out]; rfl, HB3.out⟩
      | exact ⟨by rw [HR.out]; rfl, HB2'.out⟩
      | exact ⟨by rw [HR.out]; rfl, Below.alloc' (Below.call (Below.alloc' (Below.self _) _) HB1.out) _⟩
  have hFb : Stow (Pg.fits b 3 = 0) := ⟨by simp [Pg.fits, hcP]⟩
  have HR : Stow (Pg.check ⟨6, a, b, 0⟩ = 0) := ⟨by simp [Pg.check, Pg.noA, Pg.noB, hcN, hcP]⟩
  clear hcN
  clear hcP
  go_enter Tryd.func18, Tryd.ntmps18
  go_wp2_with fail
  refine (pgOf_any 6 _ (by decide) (by decide)).mono ?_
  rw [show Pg.sa 6 = 2 from rfl, show Pg.sb 6 = 3 from rfl, show Pg.sn 6 = 0 from rfl]
  rintro e w1 ⟨rfl, hb1⟩
  have hH := HH.out w1 hb1
  have HB1 := Stow.mk hb1
  have c0 := hH.cell (i := 0) rfl
  have c1 := hH.cell (i := 1) rfl
  have c2 := hH.cell (i := 2) rfl
  have c3 := hH.cell (i := 3) rfl
  have hlt := hH.lt
  have hne : (w1.heap.size == w.heap.size) = false := by simp; omega
  clear hH hb1
  go_wp2_with fail
  repeat (first
    | (go_at_call 56; have hq := HHA2.out; clear hq; refine (pgFits_any _ _ _ (by first | omega | simp) (by decide)).mono ?_; rw [hFb.out]; rintro e w3 ⟨rfl, hb3⟩
       have e0 := (HHA2.out.kept hb3).cell (i := 3) rfl
       have t0 := (HHS2.out.kept hb3).cell (i := 3) rfl
       have HB3 := Stow.mk (Below.call HB2'.out hb3)
       clear d0 d1 d2 d3 s0 s1 s2 s3 hb3
       go_wp2_with fail)
    | (go_at_call 56; refine (pgFits_any _ _ _ (by first | omega | simp) (by decide)).mono ?_; rw [hFa.out]; rintro e w2 ⟨rfl, hb2⟩
       obtain ⟨hA2, hS2, HB2⟩ := HK.out w1 w2 HB1.out hb2
       have d0 := hA2.cell (i := 0) rfl
       have d1 := hA2.cell (i := 1) rfl
       have d2 := hA2.cell (i := 2) rfl
       have d3 := hA2.cell (i := 3) rfl
       have s0 := hS2.cell (i := 0) rfl
       have s1 := hS2.cell (i := 1) rfl
       have s2 := hS2.cell (i := 2) rfl
       have s3 := hS2.cell (i := 3) rfl
       have HB2' := Stow.mk HB2
       have HHA2 := Stow.mk hA2
       have HHS2 := Stow.mk hS2
       clear hA2 hS2 HB2 hb2 c0 c1 c2 c3 hne
       go_wp2_with fail)
    | (go_at_call 57; refine (pgTraced_any _ _).mono ?_; rw [hT.out]; rintro e w2 ⟨rfl, rfl⟩; go_wp2_with fail))
  go_ret
  first
    | exact ⟨by rw [HR.out]; rfl, HB3.out⟩
    | exact ⟨by rw [HR.out]; rfl, HB2'.out⟩
    | exact ⟨by rw [HR.out]; rfl, Below.alloc' (Below.call (Below.alloc' (Below.self _) _) HB1.out) _⟩

set_option maxHeartbeats 4000000 in
set_option maxRecDepth 100000 in
theorem pgC7 (a b : List UInt8) (n : Int) (w : World) (ha : a.length ≤ 140737488355328) (hb : b.length ≤ 140737488355328) :
    Calls Tryd.prog 18 #[.agg #[.int .i64 7, .string (bs a), .string (bs b), .int .i64 n]] w fun e w' => e = .returned (.int .i64 (Pg.check ⟨7, a, b, n⟩ : Nat)) ∧ Below w.heap.size w w' := by
  have HH : Stow (∀ w1, Below (w.alloc (.cells #[.int .i64 7, .string (bs a), .string (bs b), .int .i64 n] 23)).heap.size (w.alloc (.cells #[.int .i64 7, .string (bs a), .string (bs b), .int .i64 n] 23)) w1 → Held w1 w.heap.size [.int .i64 7, .string (bs a), .string (bs b), .int .i64 n]) := ⟨fun w1 h => (Held.made w [.int .i64 7, .string (bs a), .string (bs b), .int .i64 n] _).kept h⟩
  have HK : Stow (∀ w1 w2, Below (w.alloc (.cells #[.int .i64 7, .string (bs a), .string (bs b), .int .i64 n] 23)).heap.size (w.alloc (.cells #[.int .i64 7, .string (bs a), .string (bs b), .int .i64 n] 23)) w1 → Below (w1.alloc (.cells #[.string (bs (Pg.word 7)), .int .i64 0, .int .i64 0, .int .i64 4] 75)).heap.size (w1.alloc (.cells #[.string (bs (Pg.word 7)), .int .i64 0, .int .i64 0, .int .i64 4] 75)) w2 → Held w2 w.heap.size [.int .i64 7, .string (bs a), .string (bs b), .int .i64 n] ∧ Held w2 w1.heap.size [.string (bs (Pg.word 7)), .int .i64 0, .int .i64 0, .int .i64 4] ∧ Below w.heap.size w w2) := ⟨fun w1 w2 h1 h2 => op_kept (S := [.string (bs (Pg.word 7)), .int .i64 0, .int .i64 0, .int .i64 4]) h1 h2⟩
  by_cases h1 : a = []
  rotate_left
  · have h1e : a.isEmpty = false := by simpa using h1
    have HR : Stow (Pg.check ⟨7, a, b, n⟩ = 2) := ⟨by simp [Pg.check, Pg.noA, Pg.noB, h1]⟩
    go_enter Tryd.func18, Tryd.ntmps18
    go_wp2_with fail
    refine (pgOf_any 7 _ (by decide) (by decide)).mono ?_
    rw [show Pg.sa 7 = 0 from rfl, show Pg.sb 7 = 0 from rfl, show Pg.sn 7 = 4 from rfl]
    rintro e w1 ⟨rfl, hb1⟩
    have hH := HH.out w1 hb1
    have HB1 := Stow.mk hb1
    have c0 := hH.cell (i := 0) rfl
    have c1 := hH.cell (i := 1) rfl
    have c2 := hH.cell (i := 2) rfl
    have c3 := hH.cell (i := 3) rfl
    have hlt := hH.lt
    have hne : (w1.heap.size == w.heap.size) = false := by simp; omega
    clear hH hb1
    go_wp2_with fail
    repeat (first
      | (go_at_call 56; have hq := HHA2.out; clear hq; refine (pgFits_any _ _ _ (by first | omega | simp) (by decide)).mono ?_; rw [hFb.out]; rintro e w3 ⟨rfl, hb3⟩
         have e0 := (HHA2.out.kept hb3).cell (i := 3) rfl
         have t0 := (HHS2.out.kept hb3).cell (i := 3) rfl
         have HB3 := Stow.mk (Below.call HB2'.out hb3)
         clear d0 d1 d2 d3 s0 s1 s2 s3 hb3
         go_wp2_with fail)
      | (go_at_call 56; refine (pgFits_any _ _ _ (by first | omega | simp) (by decide)).mono ?_; rw [hFa.out]; rintro e w2 ⟨rfl, hb2⟩
         obtain ⟨hA2, hS2, HB2⟩ := HK.out w1 w2 HB1.out hb2
         have d0 := hA2.cell (i := 0) rfl
         have d1 := hA2.cell (i := 1) rfl
         have d2 := hA2.cell (i := 2) rfl
         have d3 := hA2.cell (i := 3) rfl
         have s0 := hS2.cell (i := 0) rfl
         have s1 := hS2.cell (i := 1) rfl
         have s2 := hS2.cell (i := 2) rfl
         have s3 := hS2.cell (i := 3) rfl
         have HB2' := Stow.mk HB2
         have HHA2 := Stow.mk hA2
         have HHS2 := Stow.mk hS2
         clear hA2 hS2 HB2 hb2 c0 c1 c2 c3 hne
         go_wp2_with fail)
      | (go_at_call 57; refine (pgTraced_any _ _).mono ?_; rw [hT.out]; rintro e w2 ⟨rfl, rfl⟩; go_wp2_with fail))
    go_ret
    first
      | exact ⟨by rw [HR.out]; rfl, HB3.out⟩
      | exact ⟨by rw [HR.out]; rfl, HB2'.out⟩
      | exact ⟨by rw [HR.out]; rfl, Below.alloc' (Below.call (Below.alloc' (Below.self _) _) HB1.out) _⟩
  subst h1
  by_cases h2 : b = []
  rotate_left
  · have h2e : b.isEmpty = false := by simpa using h2
    have HR : Stow (Pg.check ⟨7, [], b, n⟩ = 2) := ⟨by simp [Pg.check, Pg.noA, Pg.noB, h2]⟩
    go_enter Tryd.func18, Tryd.ntmps18
    go_wp2_with fail
    refine (pgOf_any 7 _ (by decide) (by decide)).mono ?_
    rw [show Pg.sa 7 = 0 from rfl, show Pg.sb 7 = 0 from rfl, show Pg.sn 7 = 4 from rfl]
    rintro e w1 ⟨rfl, hb1⟩
    have hH := HH.out w1 hb1
    have HB1 := Stow.mk hb1
    have c0 := hH.cell (i := 0) rfl
    have c1 := hH.cell (i := 1) rfl
    have c2 := hH.cell (i := 2) rfl
    have c3 := hH.cell (i := 3) rfl
    have hlt := hH.lt
    have hne : (w1.heap.size == w.heap.size) = false := by simp; omega
    clear hH hb1
    go_wp2_with fail
    repeat (first
      | (go_at_call 56; have hq := HHA2.out; clear hq; refine (pgFits_any _ _ _ (by first | omega | simp) (by decide)).mono ?_; rw [hFb.out]; rintro e w3 ⟨rfl, hb3⟩
         have e0 := (HHA2.out.kept hb3).cell (i := 3) rfl
         have t0 := (HHS2.out.kept hb3).cell (i := 3) rfl
         have HB3 := Stow.mk (Below.call HB2'.out hb3)
         clear d0 d1 d2 d3 s0 s1 s2 s3 hb3
         go_wp2_with fail)
      | (go_at_call 56; refine (pgFits_any _ _ _ (by first | omega | simp) (by decide)).mono ?_; rw [hFa.out]; rintro e w2 ⟨rfl, hb2⟩
         obtain ⟨hA2, hS2, HB2⟩ := HK.out w1 w2 HB1.out hb2
         have d0 := hA2.cell (i := 0) rfl
         have d1 := hA2.cell (i := 1) rfl
         have d2 := hA2.cell (i := 2) rfl
         have d3 := hA2.cell (i := 3) rfl
         have s0 := hS2.cell (i := 0) rfl
         have s1 := hS2.cell (i := 1) rfl
         have s2 := hS2.cell (i := 2) rfl
         have s3 := hS2.cell (i := 3) rfl
         have HB2' := Stow.mk HB2
         have HHA2 := Stow.mk hA2
         have HHS2 := Stow.mk hS2
         clear hA2 hS2 HB2 hb2 c0 c1 c2 c3 hne
         go_wp2_with fail)
      | (go_at_call 57; refine (pgTraced_any _ _).mono ?_; rw [hT.out]; rintro e w2 ⟨rfl, rfl⟩; go_wp2_with fail))
    go_ret
    first
      | exact ⟨by rw [HR.out]; rfl, HB3.out⟩
      | exact ⟨by rw [HR.out]; rfl, HB2'.out⟩
      | exact ⟨by rw [HR.out]; rfl, Below.alloc' (Below.call (Below.alloc' (Below.self _) _) HB1.out) _⟩
  subst h2
  have hFa : Stow (Pg.fits [] 0 = 0) := ⟨rfl⟩
  have hFb : Stow (Pg.fits [] 0 = 0) := ⟨rfl⟩
  by_cases h4 : n < 100
  · have HR : Stow (Pg.check ⟨7, [], [], n⟩ = 12) := ⟨by simp [Pg.check, Pg.noA, Pg.noB, h4]⟩
    go_enter Tryd.func18, Tryd.ntmps18
    go_wp2_with fail
    refine (pgOf_any 7 _ (by decide) (by decide)).mono ?_
    rw [show Pg.sa 7 = 0 from rfl, show Pg.sb 7 = 0 from rfl, show Pg.sn 7 = 4 from rfl]
    rintro e w1 ⟨rfl, hb1⟩
    have hH := HH.out w1 hb1
    have HB1 := Stow.mk hb1
    have c0 := hH.cell (i := 0) rfl
    have c1 := hH.cell (i := 1) rfl
    have c2 := hH.cell (i := 2) rfl
    have c3 := hH.cell (i := 3) rfl
    have hlt := hH.lt
    have hne : (w1.heap.size == w.heap.size) = false := by simp; omega
    clear hH hb1
    go_wp2_with fail
    repeat (first
      | (go_at_call 56; have hq := HHA2.out; clear hq; refine (pgFits_any _ _ _ (by first | omega | simp) (by decide)).mono ?_; rw [hFb.out]; rintro e w3 ⟨rfl, hb3⟩
         have e0 := (HHA2.out.kept hb3).cell (i := 3) rfl
         have t0 := (HHS2.out.kept hb3).cell (i := 3) rfl
         have HB3 := Stow.mk (Below.call HB2'.out hb3)
         clear d0 d1 d2 d3 s0 s1 s2 s3 hb3
         go_wp2_with fail)
      | (go_at_call 56; refine (pgFits_any _ _ _ (by first | omega | simp) (by decide)).mono ?_; rw [hFa.out]; rintro e w2 ⟨rfl, hb2⟩
         obtain ⟨hA2, hS2, HB2⟩ := HK.out w1 w2 HB1.out hb2
         have d0 := hA2.cell (i := 0) rfl
         have d1 := hA2.cell (i := 1) rfl
         have d2 := hA2.cell (i := 2) rfl
         have d3 := hA2.cell (i := 3) rfl
         have s0 := hS2.cell (i := 0) rfl
         have s1 := hS2.cell (i := 1) rfl
         have s2 := hS2.cell (i := 2) rfl
         have s3 := hS2.cell (i := 3) rfl
         have HB2' := Stow.mk HB2
         have HHA2 := Stow.mk hA2
         have HHS2 := Stow.mk hS2
         clear hA2 hS2 HB2 hb2 c0 c1 c2 c3 hne
         go_wp2_with fail)
      | (go_at_call 57; refine (pgTraced_any _ _).mono ?_; rw [hT.out]; rintro e w2 ⟨rfl, rfl⟩; go_wp2_with fail))
    go_ret
    first
      | exact ⟨by rw [HR.out]; rfl, HB3.out⟩
      | exact ⟨by rw [HR.out]; rfl, HB2'.out⟩
      | exact ⟨by rw [HR.out]; rfl, Below.alloc' (Below.call (Below.alloc' (Below.self _) _) HB1.out) _⟩
  by_cases h5 : 599 < n
  · have HR : Stow (Pg.check ⟨7, [], [], n⟩ = 12) := ⟨by simp [Pg.check, Pg.noA, Pg.noB, h5]⟩
    go_enter Tryd.func18, Tryd.ntmps18
    go_wp2_with fail
    refine (pgOf_any 7 _ (by decide) (by decide)).mono ?_
    rw [show Pg.sa 7 = 0 from rfl, show Pg.sb 7 = 0 from rfl, show Pg.sn 7 = 4 from rfl]
    rintro e w1 ⟨rfl, hb1⟩
    have hH := HH.out w1 hb1
    have HB1 := Stow.mk hb1
    have c0 := hH.cell (i := 0) rfl
    have c1 := hH.cell (i := 1) rfl
    have c2 := hH.cell (i := 2) rfl
    have c3 := hH.cell (i := 3) rfl
    have hlt := hH.lt
    have hne : (w1.heap.size == w.heap.size) = false := by simp; omega
    clear hH hb1
    go_wp2_with fail
    repeat (first
      | (go_at_call 56; have hq := HHA2.out; clear hq; refine (pgFits_any _ _ _ (by first | omega | simp) (by decide)).mono ?_; rw [hFb.out]; rintro e w3 ⟨rfl, hb3⟩
         have e0 := (HHA2.out.kept hb3).cell (i := 3) rfl
         have t0 := (HHS2.out.kept hb3).cell (i := 3) rfl
         have HB3 := Stow.mk (Below.call HB2'.out hb3)
         clear d0 d1 d2 d3 s0 s1 s2 s3 hb3
         go_wp2_with fail)
      | (go_at_call 56; refine (pgFits_any _ _ _ (by first | omega | simp) (by decide)).mono ?_; rw [hFa.out]; rintro e w2 ⟨rfl, hb2⟩
         obtain ⟨hA2, hS2, HB2⟩ := HK.out w1 w2 HB1.out hb2
         have d0 := hA2.cell (i := 0) rfl
         have d1 := hA2.cell (i := 1) rfl
         have d2 := hA2.cell (i := 2) rfl
         have d3 := hA2.cell (i := 3) rfl
         have s0 := hS2.cell (i := 0) rfl
         have s1 := hS2.cell (i := 1) rfl
         have s2 := hS2.cell (i := 2) rfl
         have s3 := hS2.cell (i := 3) rfl
         have HB2' := Stow.mk HB2
         have HHA2 := Stow.mk hA2
         have HHS2 := Stow.mk hS2
         clear hA2 hS2 HB2 hb2 c0 c1 c2 c3 hne
         go_wp2_with fail)
      | (go_at_call 57; refine (pgTraced_any _ _).mono ?_; rw [hT.out]; rintro e w2 ⟨rfl, rfl⟩; go_wp2_with fail))
    go_ret
    first
      | exact ⟨by rw [HR.out]; rfl, HB3.out⟩
      | exact ⟨by rw [HR.out]; rfl, HB2'.out⟩
      | exact ⟨by rw [HR.out]; rfl, Below.alloc' (Below.call (Below.alloc' (Below.self _) _) HB1.out) _⟩
  have HR : Stow (Pg.check ⟨7, [], [], n⟩ = 0) := ⟨by simp [Pg.check, Pg.noA, Pg.noB, h4, h5]⟩
  go_enter Tryd.func18, Tryd.ntmps18
  go_wp2_with fail
  refine (pgOf_any 7 _ (by decide) (by decide)).mono ?_
  rw [show Pg.sa 7 = 0 from rfl, show Pg.sb 7 = 0 from rfl, show Pg.sn 7 = 4 from rfl]
  rintro e w1 ⟨rfl, hb1⟩
  have hH := HH.out w1 hb1
  have HB1 := Stow.mk hb1
  have c0 := hH.cell (i := 0) rfl
  have c1 := hH.cell (i := 1) rfl
  have c2 := hH.cell (i := 2) rfl
  have c3 := hH.cell (i := 3) rfl
  have hlt := hH.lt
  have hne : (w1.heap.size == w.heap.size) = false := by simp; omega
  clear hH hb1
  go_wp2_with fail
  repeat (first
    | (go_at_call 56; have hq := HHA2.out; clear hq; refine (pgFits_any _ _ _ (by first | omega | simp) (by decide)).mono ?_; rw [hFb.out]; rintro e w3 ⟨rfl, hb3⟩
       have e0 := (HHA2.out.kept hb3).cell (i := 3) rfl
       have t0 := (HHS2.out.kept hb3).cell (i := 3) rfl
       have HB3 := Stow.mk (Below.call HB2'.out hb3)
       clear d0 d1 d2 d3 s0 s1 s2 s3 hb3
       go_wp2_with fail)
    | (go_at_call 56; refine (pgFits_any _ _ _ (by first | omega | simp) (by decide)).mono ?_; rw [hFa.out]; rintro e w2 ⟨rfl, hb2⟩
       obtain ⟨hA2, hS2, HB2⟩ := HK.out w1 w2 HB1.out hb2
       have d0 := hA2.cell (i := 0) rfl
       have d1 := hA2.cell (i := 1) rfl
       have d2 := hA2.cell (i := 2) rfl
       have d3 := hA2.cell (i := 3) rfl
       have s0 := hS2.cell (i := 0) rfl
       have s1 := hS2.cell (i := 1) rfl
       have s2 := hS2.cell (i := 2) rfl
       have s3 := hS2.cell (i := 3) rfl
       have HB2' := Stow.mk HB2
       have HHA2 := Stow.mk hA2
       have HHS2 := Stow.mk hS2
       clear hA2 hS2 HB2 hb2 c0 c1 c2 c3 hne
       go_wp2_with fail)
    | (go_at_call 57; refine (pgTraced_any _ _).mono ?_; rw [hT.out]; rintro e w2 ⟨rfl, rfl⟩; go_wp2_with fail))
  go_ret
  first
    | exact ⟨by rw [HR.out]; rfl, HB3.out⟩
    | exact ⟨by rw [HR.out]; rfl, HB2'.out⟩
    | exact ⟨by rw [HR.out]; rfl, Below.alloc' (Below.call (Below.alloc' (Below.self _) _) HB1.out) _⟩

theorem Pg.check_bound (o : Ob) : Pg.check o ≤ 15 := by
  unfold Pg.check
  repeat' split
  all_goals omega

set_option maxHeartbeats 2000000 in
set_option maxRecDepth 100000 in
theorem pgRefCheck_any (o : Ob) (w : World) (ha : o.a.length ≤ 140737488355328) (hb : o.b.length ≤ 140737488355328) :
    Calls Tryd.prog 19 #[o.val] w fun e w' => e = .returned (.int .i64 (Pg.check o : Nat)) ∧ Below w.heap.size w w' := by
  obtain ⟨k, a, b, n⟩ := o
  by_cases h0 : k < 1
  · have HR : Stow (Pg.check ⟨k, a, b, n⟩ = 2) := ⟨Pg.check_out (.inl h0)⟩
    unfold Ob.val
    simp only
    go_enter Tryd.func19, Tryd.ntmps19
    go_wp2_with fail
    go_ret
    exact ⟨by rw [HR.out]; rfl, Below.alloc' (Below.self _) _⟩
  by_cases h1 : 7 < k
  · have HR : Stow (Pg.check ⟨k, a, b, n⟩ = 2) := ⟨Pg.check_out (.inr h1)⟩
    unfold Ob.val
    simp only
    go_enter Tryd.func19, Tryd.ntmps19
    go_wp2_with fail
    go_ret
    exact ⟨by rw [HR.out]; rfl, Below.alloc' (Below.self _) _⟩
  simp only at ha hb
  rcases Pg.kind_cases (k := k) (by omega) (by omega) with rfl | rfl | rfl | rfl | rfl | rfl | rfl
  · exact pgRef1 a b n w ha hb
  · exact pgRef2 a b n w ha hb
  · exact pgRef3 a b n w ha hb
  · exact pgRef4 a b n w ha hb
  · exact pgRef5 a b n w ha hb
  · exact pgRef6 a b n w ha hb
  · exact pgRef7 a b n w ha hb

set_option maxHeartbeats 2000000 in
set_option maxRecDepth 100000 in
theorem pgCheck_any (o : Ob) (w : World) (ha : o.a.length ≤ 140737488355328) (hb : o.b.length ≤ 140737488355328) :
    Calls Tryd.prog 18 #[o.val] w fun e w' => e = .returned (.int .i64 (Pg.check o : Nat)) ∧ Below w.heap.size w w' := by
  obtain ⟨k, a, b, n⟩ := o
  by_cases hk : k < 1 ∨ 7 < k
  · have HR : Stow (Pg.check ⟨k, a, b, n⟩ = 2) := ⟨Pg.check_out hk⟩
    have HK := Stow.mk hk
    clear hk
    unfold Ob.val
    simp only
    go_enter Tryd.func18, Tryd.ntmps18
    go_wp2_with fail
    refine (pgOf_no k _ HK.out).mono ?_
    rintro e w1 ⟨rfl, hb1⟩
    go_wp2_with fail
    go_ret
    exact ⟨by rw [HR.out]; rfl, Below.alloc' (Below.call (Below.alloc' (Below.self _) _) hb1) _⟩
  simp only at ha hb
  rcases Pg.kind_cases (k := k) (by omega) (by omega) with rfl | rfl | rfl | rfl | rfl | rfl | rfl
  · exact pgC1 a b n w ha hb
  · exact pgC2 a b n w ha hb
  · exact pgC3 a b n w ha hb
  · exact pgC4 a b n w ha hb
  · exact pgC5 a b n w ha hb
  · exact pgC6 a b n w ha hb
  · exact pgC7 a b n w ha hb
end Go.Proofs.YtbnaicgomabigaaDoor
