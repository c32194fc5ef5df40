/- Walks of batch's place, Kind, numbers and Check, and of the reference's. Conditions: fields fit their types; texts are no longer than an int can say.; Walk of spanrec.Write. Condition: a span's fields fit their types.; Walks of the reference's eight and Write. Condition: a span's fields fit their types. -/
import Derived.Test.YtfbhdkkmcfnghaaGreatM15
import Derived.Test.YtfbhdkkmcfnghaaGreatM02
import Derived.Test.YtfbhdkkmcfnghaaGreatM09
import Derived.Test.YtfbhdkkmcfnghaaGreatM10

section
namespace Go.Proofs.YtfbhdkkmcfnghaaGreat
open Go.RowKit
set_option linter.unusedVariables false

set_option maxHeartbeats 400000 in
set_option maxRecDepth 100000 in
theorem place_any (x y : Int) (w : World) : Calls Tryz.prog 54 #[.int .i64 x, .int .i64 y] w fun e w' => e = .returned (.bool (placeB x y)) ∧ w' = w := by
  by_cases h1 : 0 ≤ x
  rotate_left
  · have d1 : decide (0 ≤ x) = false := by simpa using h1
    have HP : Stow (placeB x y = false) := ⟨by simp [placeB, d1]⟩
    go_enter Tryz.func54, Tryz.ntmps54
    go_wp2_with fail
    go_ret
    exact ⟨by rw [HP.out]; rfl, rfl⟩
  by_cases h2 : x < 8
  rotate_left
  · have d2 : decide (x < 8) = false := by simpa using h2
    have HP : Stow (placeB x y = false) := ⟨by simp [placeB, d2]⟩
    go_enter Tryz.func54, Tryz.ntmps54
    go_wp2_with fail
    go_ret
    exact ⟨by rw [HP.out]; rfl, rfl⟩
  by_cases h3 : 0 ≤ y
  rotate_left
  · have d3 : decide (0 ≤ y) = false := by simpa using h3
    have HP : Stow (placeB x y = false) := ⟨by simp [placeB, d3]⟩
    go_enter Tryz.func54, Tryz.ntmps54
    go_wp2_with fail
    go_ret
    exact ⟨by rw [HP.out]; rfl, rfl⟩
  by_cases h4 : y ≤ 1099511627776
  · have HP : Stow (placeB x y = true) := ⟨by simp [placeB, h1, h2, h3, h4]⟩
    go_enter Tryz.func54, Tryz.ntmps54
    go_wp2_with fail
    go_ret
    exact ⟨by rw [HP.out]; rfl, rfl⟩
  · have d4 : decide (y ≤ 1099511627776) = false := by simpa using h4
    have HP : Stow (placeB x y = false) := ⟨by simp [placeB, d4]⟩
    go_enter Tryz.func54, Tryz.ntmps54
    go_wp2_with fail
    go_ret
    exact ⟨by rw [HP.out]; rfl, rfl⟩
set_option maxHeartbeats 400000 in
set_option maxRecDepth 100000 in
theorem refPlace_any (x y : Int) (w : World) : Calls Tryz.prog 48 #[.int .i64 x, .int .i64 y] w fun e w' => e = .returned (.bool (placeB x y)) ∧ w' = w := by
  by_cases h1 : 0 ≤ x
  rotate_left
  · have d1 : decide (0 ≤ x) = false := by simpa using h1
    have HP : Stow (placeB x y = false) := ⟨by simp [placeB, d1]⟩
    go_enter Tryz.func48, Tryz.ntmps48
    go_wp2_with fail
    go_ret
    exact ⟨by rw [HP.out]; rfl, rfl⟩
  by_cases h2 : x < 8
  rotate_left
  · have d2 : decide (x < 8) = false := by simpa using h2
    have HP : Stow (placeB x y = false) := ⟨by simp [placeB, d2]⟩
    go_enter Tryz.func48, Tryz.ntmps48
    go_wp2_with fail
    go_ret
    exact ⟨by rw [HP.out]; rfl, rfl⟩
  by_cases h3 : 0 ≤ y
  rotate_left
  · have d3 : decide (0 ≤ y) = false := by simpa using h3
    have HP : Stow (placeB x y = false) := ⟨by simp [placeB, d3]⟩
    go_enter Tryz.func48, Tryz.ntmps48
    go_wp2_with fail
    go_ret
    exact ⟨by rw [HP.out]; rfl, rfl⟩
  by_cases h4 : y ≤ 1099511627776
  · have HP : Stow (placeB x y = true) := ⟨by simp [placeB, h1, h2, h3, h4]⟩
    go_enter Tryz.func48, Tryz.ntmps48
    go_wp2_with fail
    go_ret
    exact ⟨by rw [HP.out]; rfl, rfl⟩
  · have d4 : decide (y ≤ 1099511627776) = false := by simpa using h4
    have HP : Stow (placeB x y = false) := ⟨by simp [placeB, d4]⟩
    go_enter Tryz.func48, Tryz.ntmps48
    go_wp2_with fail
    go_ret
    exact ⟨by rw [HP.out]; rfl, rfl⟩

theorem placeB_true {x y : Int} (h : placeB x y = true) : 0 ≤ x ∧ x < 8 ∧ 0 ≤ y ∧ y ≤ 1099511627776 := by
  simp [placeB] at h; omega

/-! Which texts begin so. -/
set_option maxHeartbeats 400000 in
set_option maxRecDepth 100000 in
theorem litePrefix_any (l p : List UInt8) (w : World) (hl : l.length ≤ 9223372036854775807) (hp : p.length ≤ 9223372036854775807) :
    Calls Tryz.prog 148 #[.string (bs l), .string (bs p)] w fun e w' => e = .returned (.bool (decide (l.take p.length = p))) ∧ w' = w := by
  by_cases h : p.length ≤ l.length
  · obtain ⟨b, hb⟩ : ∃ b : Bool, (l.take p.length == p) = b := ⟨_, rfl⟩
    have HB : Stow (decide (l.take p.length = p) = b) := ⟨by rw [← hb, Bool.eq_iff_iff]; simp⟩
    go_enter Tryz.func148, Tryz.ntmps148
    go_wp2_with fail
    go_ret
    exact ⟨by rw [HB.out]; rfl, rfl⟩
  · have HB : Stow (decide (l.take p.length = p) = false) := ⟨by
      have : l.take p.length ≠ p := fun e => by have := congrArg List.length e; simp at this; omega
      simpa using this⟩
    have hd : decide (p.length ≤ l.length) = false := by simpa using h
    go_enter Tryz.func148, Tryz.ntmps148
    go_wp2_with fail
    go_ret
    exact ⟨by rw [HB.out]; rfl, rfl⟩
set_option maxHeartbeats 400000 in
set_option maxRecDepth 100000 in
theorem prefix_any (l p : List UInt8) (w : World) (hl : l.length ≤ 9223372036854775807) (hp : p.length ≤ 9223372036854775807) :
    Calls Tryz.prog 120 #[.string (bs l), .string (bs p)] w fun e w' => e = .returned (.bool (decide (l.take p.length = p))) ∧ w' = w := by
  obtain ⟨b, hb⟩ : ∃ b : Bool, decide (l.take p.length = p) = b := ⟨_, rfl⟩
  have HB := Stow.mk hb
  rw [hb]
  clear hb
  go_enter Tryz.func120, Tryz.ntmps120
  go_wp2_with fail
  refine (litePrefix_any l p _ hl hp).mono ?_
  rw [HB.out]
  rintro e w' ⟨rfl, rfl⟩
  go_wp2_with fail
  go_ret
  exact ⟨rfl, rfl⟩
set_option maxHeartbeats 400000 in
set_option maxRecDepth 100000 in
theorem begins_any (l p : List UInt8) (w : World) (hl : l.length ≤ 9223372036854775807) (hp : p.length ≤ 9223372036854775807) :
    Calls Tryz.prog 136 #[.string (bs l), .string (bs p)] w fun e w' => e = .returned (.bool (decide (l.take p.length = p))) ∧ w' = w := by
  by_cases h : p.length ≤ l.length
  · obtain ⟨b, hb⟩ : ∃ b : Bool, (l.take p.length == p) = b := ⟨_, rfl⟩
    have HB : Stow (decide (l.take p.length = p) = b) := ⟨by rw [← hb, Bool.eq_iff_iff]; simp⟩
    go_enter Tryz.func136, Tryz.ntmps136
    go_wp2_with fail
    go_ret
    exact ⟨by rw [HB.out]; rfl, rfl⟩
  · have HB : Stow (decide (l.take p.length = p) = false) := ⟨by
      have : l.take p.length ≠ p := fun e => by have := congrArg List.length e; simp at this; omega
      simpa using this⟩
    have hd : decide (p.length ≤ l.length) = false := by simpa using h
    go_enter Tryz.func136, Tryz.ntmps136
    go_wp2_with fail
    go_ret
    exact ⟨by rw [HB.out]; rfl, rfl⟩

set_option maxHeartbeats 400000 in
set_option maxRecDepth 100000 in
theorem kind_any (l : List UInt8) (w : World) (hl : l.length ≤ 9223372036854775807) :
    Calls Tryz.prog 83 #[.string (bs l)] w fun e w' => e = .returned (.int .i64 (kindOf l : Nat)) ∧ w' = w := by
  have l1 : (⟨#[80, 66, 1]⟩ : ByteArray) = bs [80, 66, 1] := rfl
  have l2 : (⟨#[80, 65, 1]⟩ : ByteArray) = bs [80, 65, 1] := rfl
  obtain ⟨a, ha⟩ : ∃ b : Bool, decide (l.take 3 = [80, 66, 1]) = b := ⟨_, rfl⟩
  obtain ⟨b, hb⟩ : ∃ b : Bool, decide (l.take 3 = [80, 65, 1]) = b := ⟨_, rfl⟩
  have HK : Stow (kindOf l = if a = true then 1 else if b = true then 2 else 0) := ⟨by unfold kindOf; rw [← ha, ← hb]; simp⟩
  have HA := Stow.mk ha
  have HB := Stow.mk hb
  clear ha hb
  cases a
  · cases b
    all_goals
      go_enter Tryz.func83, Tryz.ntmps83
      go_wp2_with fail
      refine (prefix_any l [80, 66, 1] _ hl (by decide)).mono ?_
      rw [show [80, 66, (1 : UInt8)].length = 3 from rfl, HA.out]
      rintro e w' ⟨rfl, rfl⟩
      go_wp2_with fail
      refine (prefix_any l [80, 65, 1] _ hl (by decide)).mono ?_
      rw [show [80, 65, (1 : UInt8)].length = 3 from rfl, HB.out]
      rintro e w' ⟨rfl, rfl⟩
      go_wp2_with fail
      go_ret
      exact ⟨by rw [HK.out]; rfl, rfl⟩
  · go_enter Tryz.func83, Tryz.ntmps83
    go_wp2_with fail
    refine (prefix_any l [80, 66, 1] _ hl (by decide)).mono ?_
    rw [show [80, 66, (1 : UInt8)].length = 3 from rfl, HA.out]
    rintro e w' ⟨rfl, rfl⟩
    go_wp2_with fail
    go_ret
    exact ⟨by rw [HK.out]; rfl, rfl⟩
set_option maxHeartbeats 400000 in
set_option maxRecDepth 100000 in
theorem refKind_any (l : List UInt8) (w : World) (hl : l.length ≤ 9223372036854775807) :
    Calls Tryz.prog 97 #[.string (bs l)] w fun e w' => e = .returned (.int .i64 (kindOf l : Nat)) ∧ w' = w := by
  have l1 : (⟨#[80, 66, 1]⟩ : ByteArray) = bs [80, 66, 1] := rfl
  have l2 : (⟨#[80, 65, 1]⟩ : ByteArray) = bs [80, 65, 1] := rfl
  obtain ⟨a, ha⟩ : ∃ b : Bool, decide (l.take 3 = [80, 66, 1]) = b := ⟨_, rfl⟩
  obtain ⟨b, hb⟩ : ∃ b : Bool, decide (l.take 3 = [80, 65, 1]) = b := ⟨_, rfl⟩
  have HK : Stow (kindOf l = if a = true then 1 else if b = true then 2 else 0) := ⟨by unfold kindOf; rw [← ha, ← hb]; simp⟩
  have HA := Stow.mk ha
  have HB := Stow.mk hb
  clear ha hb
  cases a
  · cases b
    all_goals
      go_enter Tryz.func97, Tryz.ntmps97
      go_wp2_with fail
      refine (begins_any l [80, 66, 1] _ hl (by decide)).mono ?_
      rw [show [80, 66, (1 : UInt8)].length = 3 from rfl, HA.out]
      rintro e w' ⟨rfl, rfl⟩
      go_wp2_with fail
      refine (begins_any l [80, 65, 1] _ hl (by decide)).mono ?_
      rw [show [80, 65, (1 : UInt8)].length = 3 from rfl, HB.out]
      rintro e w' ⟨rfl, rfl⟩
      go_wp2_with fail
      go_ret
      exact ⟨by rw [HK.out]; rfl, rfl⟩
  · go_enter Tryz.func97, Tryz.ntmps97
    go_wp2_with fail
    refine (begins_any l [80, 66, 1] _ hl (by decide)).mono ?_
    rw [show [80, 66, (1 : UInt8)].length = 3 from rfl, HA.out]
    rintro e w' ⟨rfl, rfl⟩
    go_wp2_with fail
    go_ret
    exact ⟨by rw [HK.out]; rfl, rfl⟩

set_option maxHeartbeats 400000 in
set_option maxRecDepth 100000 in
theorem numbers_any (g cap : Nat) (L : List Nat) (w : World) (hg : g < w.heap.size) (hr : Row .i64 w g L) (hL : L.length ≤ 100) (hb : ∀ n ∈ L, n < 9223372036854775808) :
    Calls Tryz.prog 56 #[.slice (some ⟨g, 0, none⟩) L.length cap] w fun e w' => e = .returned (.string (bs (L.flatMap Vr.put))) ∧ Below w.heap.size w w' := by
  have HR := Stow.mk hr
  have HB := Stow.mk hb
  clear hr hb
  go_enter Tryz.func56, Tryz.ntmps56
  go_wp2_with fail
  go_loopw [3, 5, 8] (fun o _ v wr => ∃ j : Nat, v = .int .i64 j ∧ j ≤ L.length ∧ o = .string (bs ((L.take j).flatMap Vr.put)) ∧ Below w.heap.size w wr) (fun _ _ v _ => L.length - (intOf v).toNat)
  case atStart => exact ⟨0, rfl, by omega, rfl, Below.self _⟩
  case round =>
    obtain ⟨j, rfl, hj, rfl, hbr⟩ := hrel
    by_cases hlt : j < L.length
    · have hcell := (HR.out.kept hbr hg) j hlt
      have HN := Stow.mk (flatMap_next (f := Vr.put) (L := L) (j := j) hlt)
      have hlj : ((L.take j).flatMap Vr.put).length ≤ 10 * L.length := flatMap_len (f := Vr.put) (c := 10) (fun n => (put_len n).2) L j
      have hn64 : L.getD j 0 < 9223372036854775808 := by
        have := HB.out L[j] (List.getElem_mem hlt)
        simpa [hlt] using this
      generalize L.getD j 0 = n at hcell HN hn64
      generalize (L.take j).flatMap Vr.put = acc at HN hlj
      have hpl := (put_len n).2
      go_wp2_with fail
      refine (put_any _ n (by omega) _ (by omega)).mono ?_
      rintro e w3 ⟨rfl, hb3⟩
      go_wp2_with fail
      exact ⟨⟨j + 1, rfl, by omega, by rw [HN.out], Below.call hbr hb3⟩, by simp [intOf]; omega⟩
    · obtain rfl : j = L.length := by omega
      rw [List.take_length]
      go_wp2_with fail
      go_ret
      exact ⟨rfl, hbr⟩
end Go.Proofs.YtfbhdkkmcfnghaaGreat
end

section
namespace Go.Proofs.YtfbhdkkmcfnghaaGreat
open Go.RowKit

end Go.Proofs.YtfbhdkkmcfnghaaGreat
end

section
namespace Go.Proofs.YtfbhdkkmcfnghaaGreat
open Go.RowKit

set_option maxHeartbeats 400000 in
set_option maxRecDepth 100000 in
theorem eight_any (x : Int) (n : Nat) (hx : x = n) (w : World) (hn : n < 18446744073709551616) :
    Calls Tryz.prog 76 #[.int .u64 x] w fun e w' => e = .returned (.string (bs (Oc.digs 256 8 n))) ∧ Below w.heap.size w w' := by
  subst hx
  go_enter Tryz.func76, Tryz.ntmps76
  go_wp2_with fail
  refine (refOctPut8_any _ n rfl _ hn).mono ?_
  rintro e w1 ⟨rfl, hb⟩
  go_wp2_with fail
  go_ret
  exact ⟨rfl, hb⟩

theorem refPut_small (x : Int) (n : Nat) (hx : x = n) (w : World) (hn : n ≤ 1099511627776) :
    Calls Tryz.prog 44 #[.int .u64 x] w fun e w' => e = .returned (.string (bs (Vr.put n))) ∧ Below w.heap.size w w' :=
  refPut_any 9 x n w hx (by omega) (by omega) (Lib.hid (by have e : 2 * 128 ^ 9 = 18446744073709551616 := rfl; omega))

set_option maxHeartbeats 1000000 in
set_option maxRecDepth 100000 in
theorem refWrite_any (s : Sp) (w : World) (hs : s.fits) : Calls Tryz.prog 45 #[s.val] w fun e w' => e = .returned (.tuple #[.string (bs (write s).1), .int .i64 (write s).2]) ∧ Below w.heap.size w w' := by
  have hs0 := Lib.hid hs
  by_cases hc : check s = 0
  · have HW : Hid (write s = (spanBytes s, 0)) := Lib.hid (by simp [write, hc])
    obtain ⟨-, -, hn, c1, c2, c3, c4, c5, c6, c7, c8, c9, c10⟩ := check_zero hc
    have HC := Lib.hid hc; clear hc
    obtain ⟨hi, lo, id, up, name, st, sq, kd, sh, t0, t1⟩ := s
    simp only at hn c1 c2 c3 c4 c5 c6 c7 c8 c9 c10
    obtain ⟨h1, h2, h3, h4, h5⟩ := hs
    obtain ⟨a, rfl⟩ := Int.eq_ofNat_of_zero_le c1
    obtain ⟨b, rfl⟩ := Int.eq_ofNat_of_zero_le c3
    obtain ⟨c, rfl⟩ := Int.eq_ofNat_of_zero_le c5
    obtain ⟨d, rfl⟩ := Int.eq_ofNat_of_zero_le c7
    obtain ⟨f, rfl⟩ : ∃ f : Nat, t1 = (d : Int) + f := ⟨(t1 - d).toNat, by omega⟩
    have hnl : name.length ≤ 32 := by simp [nameOk] at hn; omega
    clear hn
    have htl : (Vr.text name).length ≤ 42 := by have := put_len name.length; simp [Vr.text]; omega
    have hdl := Oc.digs_len 256 8
    have hpa := (put_len a).2
    have hpb := (put_len b).2
    have hpc := (put_len c).2
    have hpd := (put_len d).2
    have hpf := (put_len f).2
    have hdf : (d : Int) + f - d = f := by omega
    simp only [Sp.val]
    have hp0 : Vr.put 0 = [0] := by decide
    have hp1 : Vr.put 1 = [1] := by decide
    have Hp0 := Lib.hid hp0
    have Hp1 := Lib.hid hp1
    clear hp0 hp1
    cases sh
    · go_enter Tryz.func45, Tryz.ntmps45
      go_wp2_with fail
      refine (refCheck_any ⟨hi, lo, id, up, name, a, b, c, false, d, d + f⟩ _ hs0.out).mono ?_
      rw [HC.out]
      rintro e w1 ⟨rfl, hb1⟩
      obtain ⟨hc1, hz1⟩ := bcell hb1
      have hsz1 : w.heap.size < w1.heap.size := by have := hb1.size; simp at this; omega
      go_wp2_with fail
      have g0 : ∀ x : Later w1.heap.size w1, x.1.cell? ⟨w.heap.size, 0, none⟩ = some (.int .u64 (hi : Int)) := fun x => x.cell ((hc1 _ _ (by simp)).trans (by simp)) hsz1
      have g1 : ∀ x : Later w1.heap.size w1, x.1.cell? ⟨w.heap.size, 1, none⟩ = some (.int .u64 (lo : Int)) := fun x => x.cell ((hc1 _ _ (by simp)).trans (by simp)) hsz1
      have g2 : ∀ x : Later w1.heap.size w1, x.1.cell? ⟨w.heap.size, 2, none⟩ = some (.int .u64 (id : Int)) := fun x => x.cell ((hc1 _ _ (by simp)).trans (by simp)) hsz1
      have g3 : ∀ x : Later w1.heap.size w1, x.1.cell? ⟨w.heap.size, 3, none⟩ = some (.int .u64 (up : Int)) := fun x => x.cell ((hc1 _ _ (by simp)).trans (by simp)) hsz1
      have g4 : ∀ x : Later w1.heap.size w1, x.1.cell? ⟨w.heap.size, 4, none⟩ = some (.string (bs name)) := fun x => x.cell ((hc1 _ _ (by simp)).trans (by simp)) hsz1
      have g5 : ∀ x : Later w1.heap.size w1, x.1.cell? ⟨w.heap.size, 5, none⟩ = some (.int .i64 (a : Int)) := fun x => x.cell ((hc1 _ _ (by simp)).trans (by simp)) hsz1
      have g6 : ∀ x : Later w1.heap.size w1, x.1.cell? ⟨w.heap.size, 6, none⟩ = some (.int .i64 (b : Int)) := fun x => x.cell ((hc1 _ _ (by simp)).trans (by simp)) hsz1
      have g7 : ∀ x : Later w1.heap.size w1, x.1.cell? ⟨w.heap.size, 7, none⟩ = some (.int .i64 (c : Int)) := fun x => x.cell ((hc1 _ _ (by simp)).trans (by simp)) hsz1
      have g9 : ∀ x : Later w1.heap.size w1, x.1.cell? ⟨w.heap.size, 9, none⟩ = some (.int .i64 (d : Int)) := fun x => x.cell ((hc1 _ _ (by simp)).trans (by simp)) hsz1
      have g10 : ∀ x : Later w1.heap.size w1, x.1.cell? ⟨w.heap.size, 10, none⟩ = some (.int .i64 ((d : Int) + f)) := fun x => x.cell ((hc1 _ _ (by simp)).trans (by simp)) hsz1
      clear hc1 hz1
      refine wp_region_later w1.heap.size (by kernel_rfl) (by kernel_rfl) ?_
      repeat (go_big_quiet_step (first
        | (go_at_call 76; exact Calls.later (Nat.le_refl _) (eight_any _ _ rfl _ (by assumption)))
        | (go_at_call 77; exact Calls.later (Nat.le_refl _) (refText_any name _ (by omega)))
        | (go_at_call 44; refine Calls.later (Nat.le_refl _) (refPut_small _ _ rfl _ ?_); omega)
        | (go_at_call 75; exact Calls.later (Nat.le_refl _) (refByte_any _ 0 rfl _))))
      refine wpQuiet_nil ?_
      rintro ⟨wx, hbx⟩
      go_wp2_with fail
      go_ret2
      refine ⟨?_, ((Below.refl _ _).alloc (Nat.le_refl _) _).trans ((hb1.mono (by simp)).trans (hbx.mono (by omega)))⟩
      rw [HW.out]
      show Ending.returned (.tuple #[.string (bs _), .int .i64 0]) = _
      have e : ((d : Int) + f - d).toNat = f := by omega
      simp only [spanBytes, e]
      simp [Hp0.out]
    · go_enter Tryz.func45, Tryz.ntmps45
      go_wp2_with fail
      refine (refCheck_any ⟨hi, lo, id, up, name, a, b, c, true, d, d + f⟩ _ hs0.out).mono ?_
      rw [HC.out]
      rintro e w1 ⟨rfl, hb1⟩
      obtain ⟨hc1, hz1⟩ := bcell hb1
      have hsz1 : w.heap.size < w1.heap.size := by have := hb1.size; simp at this; omega
      go_wp2_with fail
      have g0 : ∀ x : Later w1.heap.size w1, x.1.cell? ⟨w.heap.size, 0, none⟩ = some (.int .u64 (hi : Int)) := fun x => x.cell ((hc1 _ _ (by simp)).trans (by simp)) hsz1
      have g1 : ∀ x : Later w1.heap.size w1, x.1.cell? ⟨w.heap.size, 1, none⟩ = some (.int .u64 (lo : Int)) := fun x => x.cell ((hc1 _ _ (by simp)).trans (by simp)) hsz1
      have g2 : ∀ x : Later w1.heap.size w1, x.1.cell? ⟨w.heap.size, 2, none⟩ = some (.int .u64 (id : Int)) := fun x => x.cell ((hc1 _ _ (by simp)).trans (by simp)) hsz1
      have g3 : ∀ x : Later w1.heap.size w1, x.1.cell? ⟨w.heap.size, 3, none⟩ = some (.int .u64 (up : Int)) := fun x => x.cell ((hc1 _ _ (by simp)).trans (by simp)) hsz1
      have g4 : ∀ x : Later w1.heap.size w1, x.1.cell? ⟨w.heap.size, 4, none⟩ = some (.string (bs name)) := fun x => x.cell ((hc1 _ _ (by simp)).trans (by simp)) hsz1
      have g5 : ∀ x : Later w1.heap.size w1, x.1.cell? ⟨w.heap.size, 5, none⟩ = some (.int .i64 (a : Int)) := fun x => x.cell ((hc1 _ _ (by simp)).trans (by simp)) hsz1
      have g6 : ∀ x : Later w1.heap.size w1, x.1.cell? ⟨w.heap.size, 6, none⟩ = some (.int .i64 (b : Int)) := fun x => x.cell ((hc1 _ _ (by simp)).trans (by simp)) hsz1
      have g7 : ∀ x : Later w1.heap.size w1, x.1.cell? ⟨w.heap.size, 7, none⟩ = some (.int .i64 (c : Int)) := fun x => x.cell ((hc1 _ _ (by simp)).trans (by simp)) hsz1
      have g9 : ∀ x : Later w1.heap.size w1, x.1.cell? ⟨w.heap.size, 9, none⟩ = some (.int .i64 (d : Int)) := fun x => x.cell ((hc1 _ _ (by simp)).trans (by simp)) hsz1
      have g10 : ∀ x : Later w1.heap.size w1, x.1.cell? ⟨w.heap.size, 10, none⟩ = some (.int .i64 ((d : Int) + f)) := fun x => x.cell ((hc1 _ _ (by simp)).trans (by simp)) hsz1
      clear hc1 hz1
      refine wp_region_later w1.heap.size (by kernel_rfl) (by kernel_rfl) ?_
      repeat (go_big_quiet_step (first
        | (go_at_call 76; exact Calls.later (Nat.le_refl _) (eight_any _ _ rfl _ (by assumption)))
        | (go_at_call 77; exact Calls.later (Nat.le_refl _) (refText_any name _ (by omega)))
        | (go_at_call 44; refine Calls.later (Nat.le_refl _) (refPut_small _ _ rfl _ ?_); omega)
        | (go_at_call 75; exact Calls.later (Nat.le_refl _) (refByte_any _ 1 rfl _))))
      refine wpQuiet_nil ?_
      rintro ⟨wx, hbx⟩
      go_wp2_with fail
      go_ret2
      refine ⟨?_, ((Below.refl _ _).alloc (Nat.le_refl _) _).trans ((hb1.mono (by simp)).trans (hbx.mono (by omega)))⟩
      rw [HW.out]
      show Ending.returned (.tuple #[.string (bs _), .int .i64 0]) = _
      have e : ((d : Int) + f - d).toNat = f := by omega
      simp only [spanBytes, e]
      simp [Hp1.out]
  · obtain ⟨c0, hc0⟩ : ∃ c0, check s = c0 := ⟨_, rfl⟩
    have HW : Hid (write s = ([], c0)) := Lib.hid (by simp [write, hc0]; omega)
    rw [hc0] at hc
    have HC := Lib.hid hc0
    have hne : (((c0 : Nat) : Int) != 0) = true := by simp; omega
    clear hc0
    obtain ⟨hi, lo, id, up, name, st, sq, kd, sh, t0, t1⟩ := s
    simp only [Sp.val]
    go_enter Tryz.func45, Tryz.ntmps45
    go_wp2_with fail
    refine (refCheck_any ⟨hi, lo, id, up, name, st, sq, kd, sh, t0, t1⟩ _ hs0.out).mono ?_
    rw [HC.out]
    rintro e w1 ⟨rfl, hb1⟩
    obtain ⟨hc1, hz1⟩ := bcell hb1
    have hsz1 : w.heap.size < w1.heap.size := by have := hb1.size; simp at this; omega
    go_wp2_with fail
    refine (refCheck_any ⟨hi, lo, id, up, name, st, sq, kd, sh, t0, t1⟩ _ hs0.out).mono ?_
    rw [HC.out]
    rintro e w2 ⟨rfl, hb2⟩
    go_wp2_with fail
    go_ret2
    exact ⟨by rw [HW.out]; rfl, ((Below.refl _ _).alloc (Nat.le_refl _) _).trans ((hb1.mono (by simp)).trans (hb2.mono (by omega)))⟩
end Go.Proofs.YtfbhdkkmcfnghaaGreat
end
