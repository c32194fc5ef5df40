/- Walks of batch's place, Kind, numbers and Check, and of the reference's. Conditions: fields fit their types; texts are no longer than an int can say. -/
import Derived.Test.YtkhepehgafijfaaBatchSpec
import Derived.Test.YtkhepehgafijfaaSlice
import Derived.Test.YtkhepehgafijfaaVarintText
namespace Go.Proofs.Ytkhepehgafijfaa
open Go.RowKit
set_option linter.unusedVariables false

set_option maxHeartbeats 400000 in
set_option maxRecDepth 100000 in
theorem place_any (x y : Int) (w : World) : Calls Try.prog 28 #[.int .i64 x, .int .i64 y] w fun e w' => e = .returned (.bool (placeB x y)) ∧ w' = w := by
  by_cases h1 : 0 ≤ x
  rotate_left
  · have d1 : decide (0 ≤ x) = false := by simpa using h1
    have HP : Stow (placeB x y = false) := ⟨by simp [placeB, d1]⟩
    go_enter Try.func28, Try.ntmps28
    go_wp2_with fail
    go_ret
    exact ⟨by rw [HP.out]; rfl, rfl⟩
  by_cases h2 : x < 8
  rotate_left
  · have d2 : decide (x < 8) = false := by simpa using h2
    have HP : Stow (placeB x y = false) := ⟨by simp [placeB, d2]⟩
    go_enter Try.func28, Try.ntmps28
    go_wp2_with fail
    go_ret
    exact ⟨by rw [HP.out]; rfl, rfl⟩
  by_cases h3 : 0 ≤ y
  rotate_left
  · have d3 : decide (0 ≤ y) = false := by simpa using h3
    have HP : Stow (placeB x y = false) := ⟨by simp [placeB, d3]⟩
    go_enter Try.func28, Try.ntmps28
    go_wp2_with fail
    go_ret
    exact ⟨by rw [HP.out]; rfl, rfl⟩
  by_cases h4 : y ≤ 1099511627776
  · have HP : Stow (placeB x y = true) := ⟨by simp [placeB, h1, h2, h3, h4]⟩
    go_enter Try.func28, Try.ntmps28
    go_wp2_with fail
    go_ret
    exact ⟨by rw [HP.out]; rfl, rfl⟩
  · have d4 : decide (y ≤ 1099511627776) = false := by simpa using h4
    have HP : Stow (placeB x y = false) := ⟨by simp [placeB, d4]⟩
    go_enter Try.func28, Try.ntmps28
    go_wp2_with fail
    go_ret
    exact ⟨by rw [HP.out]; rfl, rfl⟩
set_option maxHeartbeats 400000 in
set_option maxRecDepth 100000 in
theorem refPlace_any (x y : Int) (w : World) : Calls Try.prog 29 #[.int .i64 x, .int .i64 y] w fun e w' => e = .returned (.bool (placeB x y)) ∧ w' = w := by
  by_cases h1 : 0 ≤ x
  rotate_left
  · have d1 : decide (0 ≤ x) = false := by simpa using h1
    have HP : Stow (placeB x y = false) := ⟨by simp [placeB, d1]⟩
    go_enter Try.func29, Try.ntmps29
    go_wp2_with fail
    go_ret
    exact ⟨by rw [HP.out]; rfl, rfl⟩
  by_cases h2 : x < 8
  rotate_left
  · have d2 : decide (x < 8) = false := by simpa using h2
    have HP : Stow (placeB x y = false) := ⟨by simp [placeB, d2]⟩
    go_enter Try.func29, Try.ntmps29
    go_wp2_with fail
    go_ret
    exact ⟨by rw [HP.out]; rfl, rfl⟩
  by_cases h3 : 0 ≤ y
  rotate_left
  · have d3 : decide (0 ≤ y) = false := by simpa using h3
    have HP : Stow (placeB x y = false) := ⟨by simp [placeB, d3]⟩
    go_enter Try.func29, Try.ntmps29
    go_wp2_with fail
    go_ret
    exact ⟨by rw [HP.out]; rfl, rfl⟩
  by_cases h4 : y ≤ 1099511627776
  · have HP : Stow (placeB x y = true) := ⟨by simp [placeB, h1, h2, h3, h4]⟩
    go_enter Try.func29, Try.ntmps29
    go_wp2_with fail
    go_ret
    exact ⟨by rw [HP.out]; rfl, rfl⟩
  · have d4 : decide (y ≤ 1099511627776) = false := by simpa using h4
    have HP : Stow (placeB x y = false) := ⟨by simp [placeB, d4]⟩
    go_enter Try.func29, Try.ntmps29
    go_wp2_with fail
    go_ret
    exact ⟨by rw [HP.out]; rfl, rfl⟩

theorem placeB_true {x y : Int} (h : placeB x y = true) : 0 ≤ x ∧ x < 8 ∧ 0 ≤ y ∧ y ≤ 1099511627776 := by
  simp [placeB] at h; omega

/-! Which texts begin so. -/
set_option maxHeartbeats 400000 in
set_option maxRecDepth 100000 in
theorem litePrefix_any (l p : List UInt8) (w : World) (hl : l.length ≤ 9223372036854775807) (hp : p.length ≤ 9223372036854775807) :
    Calls Try.prog 63 #[.string (bs l), .string (bs p)] w fun e w' => e = .returned (.bool (decide (l.take p.length = p))) ∧ w' = w := by
  by_cases h : p.length ≤ l.length
  · obtain ⟨b, hb⟩ : ∃ b : Bool, (l.take p.length == p) = b := ⟨_, rfl⟩
    have HB : Stow (decide (l.take p.length = p) = b) := ⟨by rw [← hb, Bool.eq_iff_iff]; simp⟩
    go_enter Try.func63, Try.ntmps63
    go_wp2_with fail
    go_ret
    exact ⟨by rw [HB.out]; rfl, rfl⟩
  · have HB : Stow (decide (l.take p.length = p) = false) := ⟨by
      have : l.take p.length ≠ p := fun e => by have := congrArg List.length e; simp at this; omega
      simpa using this⟩
    have hd : decide (p.length ≤ l.length) = false := by simpa using h
    go_enter Try.func63, Try.ntmps63
    go_wp2_with fail
    go_ret
    exact ⟨by rw [HB.out]; rfl, rfl⟩
set_option maxHeartbeats 400000 in
set_option maxRecDepth 100000 in
theorem prefix_any (l p : List UInt8) (w : World) (hl : l.length ≤ 9223372036854775807) (hp : p.length ≤ 9223372036854775807) :
    Calls Try.prog 38 #[.string (bs l), .string (bs p)] w fun e w' => e = .returned (.bool (decide (l.take p.length = p))) ∧ w' = w := by
  obtain ⟨b, hb⟩ : ∃ b : Bool, decide (l.take p.length = p) = b := ⟨_, rfl⟩
  have HB := Stow.mk hb
  rw [hb]
  clear hb
  go_enter Try.func38, Try.ntmps38
  go_wp2_with fail
  refine (litePrefix_any l p _ hl hp).mono ?_
  rw [HB.out]
  rintro e w' ⟨rfl, rfl⟩
  go_wp2_with fail
  go_ret
  exact ⟨rfl, rfl⟩
set_option maxHeartbeats 400000 in
set_option maxRecDepth 100000 in
theorem begins_any (l p : List UInt8) (w : World) (hl : l.length ≤ 9223372036854775807) (hp : p.length ≤ 9223372036854775807) :
    Calls Try.prog 39 #[.string (bs l), .string (bs p)] w fun e w' => e = .returned (.bool (decide (l.take p.length = p))) ∧ w' = w := by
  by_cases h : p.length ≤ l.length
  · obtain ⟨b, hb⟩ : ∃ b : Bool, (l.take p.length == p) = b := ⟨_, rfl⟩
    have HB : Stow (decide (l.take p.length = p) = b) := ⟨by rw [← hb, Bool.eq_iff_iff]; simp⟩
    go_enter Try.func39, Try.ntmps39
    go_wp2_with fail
    go_ret
    exact ⟨by rw [HB.out]; rfl, rfl⟩
  · have HB : Stow (decide (l.take p.length = p) = false) := ⟨by
      have : l.take p.length ≠ p := fun e => by have := congrArg List.length e; simp at this; omega
      simpa using this⟩
    have hd : decide (p.length ≤ l.length) = false := by simpa using h
    go_enter Try.func39, Try.ntmps39
    go_wp2_with fail
    go_ret
    exact ⟨by rw [HB.out]; rfl, rfl⟩

set_option maxHeartbeats 400000 in
set_option maxRecDepth 100000 in
theorem kind_any (l : List UInt8) (w : World) (hl : l.length ≤ 9223372036854775807) :
    Calls Try.prog 20 #[.string (bs l)] w fun e w' => e = .returned (.int .i64 (kindOf l : Nat)) ∧ w' = w := by
  have l1 : (⟨#[80, 66, 1]⟩ : ByteArray) = bs [80, 66, 1] := rfl
  have l2 : (⟨#[80, 65, 1]⟩ : ByteArray) = bs [80, 65, 1] := rfl
  obtain ⟨a, ha⟩ : ∃ b : Bool, decide (l.take 3 = [80, 66, 1]) = b := ⟨_, rfl⟩
  obtain ⟨b, hb⟩ : ∃ b : Bool, decide (l.take 3 = [80, 65, 1]) = b := ⟨_, rfl⟩
  have HK : Stow (kindOf l = if a = true then 1 else if b = true then 2 else 0) := ⟨by unfold kindOf; rw [← ha, ← hb]; simp⟩
  have HA := Stow.mk ha
  have HB := Stow.mk hb
  clear ha hb
  cases a
  · cases b
    all_goals
      go_enter Try.func20, Try.ntmps20
      go_wp2_with fail
      refine (prefix_any l [80, 66, 1] _ hl (by decide)).mono ?_
      rw [show [80, 66, (1 : UInt8)].length = 3 from rfl, HA.out]
      rintro e w' ⟨rfl, rfl⟩
      go_wp2_with fail
      refine (prefix_any l [80, 65, 1] _ hl (by decide)).mono ?_
      rw [show [80, 65, (1 : UInt8)].length = 3 from rfl, HB.out]
      rintro e w' ⟨rfl, rfl⟩
      go_wp2_with fail
      go_ret
      exact ⟨by rw [HK.out]; rfl, rfl⟩
  · go_enter Try.func20, Try.ntmps20
    go_wp2_with fail
    refine (prefix_any l [80, 66, 1] _ hl (by decide)).mono ?_
    rw [show [80, 66, (1 : UInt8)].length = 3 from rfl, HA.out]
    rintro e w' ⟨rfl, rfl⟩
    go_wp2_with fail
    go_ret
    exact ⟨by rw [HK.out]; rfl, rfl⟩
set_option maxHeartbeats 400000 in
set_option maxRecDepth 100000 in
theorem refKind_any (l : List UInt8) (w : World) (hl : l.length ≤ 9223372036854775807) :
    Calls Try.prog 21 #[.string (bs l)] w fun e w' => e = .returned (.int .i64 (kindOf l : Nat)) ∧ w' = w := by
  have l1 : (⟨#[80, 66, 1]⟩ : ByteArray) = bs [80, 66, 1] := rfl
  have l2 : (⟨#[80, 65, 1]⟩ : ByteArray) = bs [80, 65, 1] := rfl
  obtain ⟨a, ha⟩ : ∃ b : Bool, decide (l.take 3 = [80, 66, 1]) = b := ⟨_, rfl⟩
  obtain ⟨b, hb⟩ : ∃ b : Bool, decide (l.take 3 = [80, 65, 1]) = b := ⟨_, rfl⟩
  have HK : Stow (kindOf l = if a = true then 1 else if b = true then 2 else 0) := ⟨by unfold kindOf; rw [← ha, ← hb]; simp⟩
  have HA := Stow.mk ha
  have HB := Stow.mk hb
  clear ha hb
  cases a
  · cases b
    all_goals
      go_enter Try.func21, Try.ntmps21
      go_wp2_with fail
      refine (begins_any l [80, 66, 1] _ hl (by decide)).mono ?_
      rw [show [80, 66, (1 : UInt8)].length = 3 from rfl, HA.out]
      rintro e w' ⟨rfl, rfl⟩
      go_wp2_with fail
      refine (begins_any l [80, 65, 1] _ hl (by decide)).mono ?_
      rw [show [80, 65, (1 : UInt8)].length = 3 from rfl, HB.out]
      rintro e w' ⟨rfl, rfl⟩
      go_wp2_with fail
      go_ret
      exact ⟨by rw [HK.out]; rfl, rfl⟩
  · go_enter Try.func21, Try.ntmps21
    go_wp2_with fail
    refine (begins_any l [80, 66, 1] _ hl (by decide)).mono ?_
    rw [show [80, 66, (1 : UInt8)].length = 3 from rfl, HA.out]
    rintro e w' ⟨rfl, rfl⟩
    go_wp2_with fail
    go_ret
    exact ⟨by rw [HK.out]; rfl, rfl⟩

set_option maxHeartbeats 400000 in
set_option maxRecDepth 100000 in
theorem numbers_any (g cap : Nat) (L : List Nat) (w : World) (hg : g < w.heap.size) (hr : Row .i64 w g L) (hL : L.length ≤ 100) (hb : ∀ n ∈ L, n < 9223372036854775808) :
    Calls Try.prog 23 #[.slice (some ⟨g, 0, none⟩) L.length cap] w fun e w' => e = .returned (.string (bs (L.flatMap Vr.put))) ∧ Below w.heap.size w w' := by
  have HR := Stow.mk hr
  have HB := Stow.mk hb
  clear hr hb
  go_enter Try.func23, Try.ntmps23
  go_wp2_with fail
  go_loopw [3, 5, 8] (fun o _ v wr => ∃ j : Nat, v = .int .i64 j ∧ j ≤ L.length ∧ o = .string (bs ((L.take j).flatMap Vr.put)) ∧ Below w.heap.size w wr) (fun _ _ v _ => L.length - (intOf v).toNat)
  case atStart => exact ⟨0, rfl, by omega, rfl, Below.self _⟩
  case round =>
    obtain ⟨j, rfl, hj, rfl, hbr⟩ := hrel
    by_cases hlt : j < L.length
    · have hcell := (HR.out.kept hbr hg) j hlt
      have HN := Stow.mk (flatMap_next (f := Vr.put) (L := L) (j := j) hlt)
      have hlj : ((L.take j).flatMap Vr.put).length ≤ 10 * L.length := flatMap_len (f := Vr.put) (c := 10) (fun n => (put_len n).2) L j
      have hn64 : L.getD j 0 < 9223372036854775808 := by
        have := HB.out L[j] (List.getElem_mem hlt)
        simpa [hlt] using this
      generalize L.getD j 0 = n at hcell HN hn64
      generalize (L.take j).flatMap Vr.put = acc at HN hlj
      have hpl := (put_len n).2
      go_wp2_with fail
      refine (put_any _ n (by omega) _ (by omega)).mono ?_
      rintro e w3 ⟨rfl, hb3⟩
      go_wp2_with fail
      exact ⟨⟨j + 1, rfl, by omega, by rw [HN.out], Below.call hbr hb3⟩, by simp [intOf]; omega⟩
    · obtain rfl : j = L.length := by omega
      rw [List.take_length]
      go_wp2_with fail
      go_ret
      exact ⟨rfl, hbr⟩
/-- A span's cells. -/
def Sp.cells (s : Sp) : List Value := [.int .u64 (s.hi : Int), .int .u64 (s.lo : Int), .int .u64 (s.id : Int), .int .u64 (s.up : Int), .string (bs s.name), .int .i64 s.st, .int .i64 s.sq, .int .i64 s.kd, .bool s.sh, .int .i64 s.t0, .int .i64 s.t1]
theorem Sp.cells_len (s : Sp) : s.cells.length = 11 := rfl

/-- The cells of an element of a slice. -/
theorem SlR.cells {w : World} {c b off n cap : Nat} {L : List (List Value)} (h : SlR w c (.slice (some ⟨b, off, none⟩) n cap) L) {i : Nat} {x : List Value} (hi : L[i]? = some x) :
    b < w.heap.size ∧ ∀ j u, x[j]? = some u → w.cell? ⟨b, off + i * c + j, none⟩ = some u := by
  have hlt : i < L.length := by rcases Nat.lt_or_ge i L.length with h | h; exact h; simp [List.getElem?_eq_none h] at hi
  obtain ⟨b', off', hA, hb, hc⟩ := h.open (by omega)
  simp only [Option.some.injEq, Addr.mk.injEq] at hA
  obtain ⟨rfl, rfl, _⟩ := hA
  exact ⟨hb, hc i x hi⟩

/-- A span in a slice: its eleven cells, as the walk asks for them. -/
structure SpanAt (w : World) (b o : Nat) (s : Sp) : Prop where
  lt : b < w.heap.size
  c0 : w.cell? ⟨b, o, none⟩ = some (.int .u64 (s.hi : Int))
  c1 : w.cell? ⟨b, o + 1, none⟩ = some (.int .u64 (s.lo : Int))
  c2 : w.cell? ⟨b, o + 2, none⟩ = some (.int .u64 (s.id : Int))
  c3 : w.cell? ⟨b, o + 3, none⟩ = some (.int .u64 (s.up : Int))
  c4 : w.cell? ⟨b, o + 4, none⟩ = some (.string (bs s.name))
  c5 : w.cell? ⟨b, o + 5, none⟩ = some (.int .i64 s.st)
  c6 : w.cell? ⟨b, o + 6, none⟩ = some (.int .i64 s.sq)
  c7 : w.cell? ⟨b, o + 7, none⟩ = some (.int .i64 s.kd)
  c8 : w.cell? ⟨b, o + 8, none⟩ = some (.bool s.sh)
  c9 : w.cell? ⟨b, o + 9, none⟩ = some (.int .i64 s.t0)
  c10 : w.cell? ⟨b, o + 10, none⟩ = some (.int .i64 s.t1)
theorem span_at {w : World} {b off n cap k : Nat} {L : List Sp} (h : SlR w 11 (.slice (some ⟨b, off, none⟩) n cap) (L.map Sp.cells)) (hk : k < L.length) : SpanAt w b (off + k * 11) L[k] := by
  have hi : (L.map Sp.cells)[k]? = some (L[k].cells) := by rw [List.getElem?_map, List.getElem?_eq_getElem hk]; rfl
  obtain ⟨hb, hc⟩ := h.cells hi
  exact ⟨hb, hc 0 _ rfl, hc 1 _ rfl, hc 2 _ rfl, hc 3 _ rfl, hc 4 _ rfl, hc 5 _ rfl, hc 6 _ rfl, hc 7 _ rfl, hc 8 _ rfl, hc 9 _ rfl, hc 10 _ rfl⟩


set_option maxHeartbeats 1000000 in
set_option maxRecDepth 100000 in
theorem btCheck_any (x y : Int) (A : Option Addr) (cap : Nat) (L : List Sp) (w : World) (hS : SlR w 11 (.slice A L.length cap) (L.map Sp.cells)) (hf : ∀ s ∈ L, s.fits) :
    Calls Try.prog 13 #[.agg #[.int .i64 x, .int .i64 y, .slice A L.length cap]] w fun e w' => e = .returned (.int .i64 (btCheck x y L : Nat)) ∧ Below w.heap.size w w' := by
  have HS := Stow.mk hS
  have HF := Stow.mk hf
  have hlen := hS.len
  simp only [List.length_map] at hlen
  clear hS hf
  obtain ⟨p, hp⟩ : ∃ p, placeB x y = p := ⟨_, rfl⟩
  have HP := Stow.mk hp
  clear hp
  cases p
  · have HC : Stow (btCheck x y L = 12) := ⟨by simp [btCheck, HP.out]⟩
    go_enter Try.func13, Try.ntmps13
    go_wp2_with fail
    refine (place_any x y _).mono ?_
    rw [HP.out]
    rintro e w' ⟨rfl, rfl⟩
    go_wp2_with fail
    go_ret
    refine ⟨by rw [HC.out]; rfl, ?_⟩
    (repeat (first | exact Below.self _ | refine Below.alloc' ?_ _ | refine Below.drew ?_ | refine Below.drewN' ?_ _ | (refine Below.call ?_ (by assumption))))
  by_cases h0 : L.length = 0
  · have HC : Stow (btCheck x y L = 9) := ⟨by simp [btCheck, HP.out, h0]⟩
    go_enter Try.func13, Try.ntmps13
    go_wp2_with fail
    refine (place_any x y _).mono ?_
    rw [HP.out]
    rintro e w' ⟨rfl, rfl⟩
    go_wp2_with fail
    go_ret
    refine ⟨by rw [HC.out]; rfl, ?_⟩
    (repeat (first | exact Below.self _ | refine Below.alloc' ?_ _ | refine Below.drew ?_ | refine Below.drewN' ?_ _ | (refine Below.call ?_ (by assumption))))
  have h0i : ((L.length : Int) == 0) = false := by simpa using h0
  by_cases h16 : 16 < L.length
  · have HC : Stow (btCheck x y L = 8) := ⟨by simp [btCheck, HP.out, h0, h16]⟩
    go_enter Try.func13, Try.ntmps13
    go_wp2_with fail
    refine (place_any x y _).mono ?_
    rw [HP.out]
    rintro e w' ⟨rfl, rfl⟩
    go_wp2_with fail
    go_ret
    refine ⟨by rw [HC.out]; rfl, ?_⟩
    (repeat (first | exact Below.self _ | refine Below.alloc' ?_ _ | refine Below.drew ?_ | refine Below.drewN' ?_ _ | (refine Below.call ?_ (by assumption))))
  have HC : Stow (btCheck x y L = firstBad L) := ⟨by unfold btCheck; rw [if_neg (by simp [HP.out]), if_neg h0, if_neg h16]⟩
  have h16d : decide (16 < L.length) = false := by simpa using h16
  obtain ⟨b, off, rfl, hblt, _⟩ := HS.out.open (by simp; omega)
  clear h0
  go_enter Try.func13, Try.ntmps13
  go_wp2_with fail
  refine (place_any x y _).mono ?_
  rw [HP.out]
  rintro e w' ⟨rfl, rfl⟩
  go_wp2_with fail
  go_loopw [4, 5, 26] (fun _ _ v wr => ∃ j : Nat, v = .int .i64 j ∧ j ≤ L.length ∧ Stow (∀ s ∈ L.take j, check s = 0) ∧ Below w.heap.size w wr) (fun _ _ v _ => L.length - (intOf v).toNat)
  case atStart => exact ⟨0, rfl, by omega, ⟨by simp⟩, Below.alloc' (Below.self _) _⟩
  case round =>
    obtain ⟨j, rfl, hj, HJ, hbr⟩ := hrel
    by_cases hlt : j < L.length
    · have hsp := span_at (HS.out.keep hbr) hlt
      have hsf := Stow.mk (HF.out L[j] (List.getElem_mem hlt))
      obtain ⟨s, hs⟩ : ∃ s, L[j] = s := ⟨_, rfl⟩
      have HSJ := Stow.mk hs
      rw [hs] at hsp hsf
      clear hs
      obtain ⟨c, hc⟩ : ∃ c, check s = c := ⟨_, rfl⟩
      have HCS := Stow.mk hc
      clear hc
      obtain ⟨hi, lo, id, up, name, st, sq, kd, sh, t0, t1⟩ := s
      obtain ⟨hltb, q0, q1, q2, q3, q4, q5, q6, q7, q8, q9, q10⟩ := hsp
      simp only at q0 q1 q2 q3 q4 q5 q6 q7 q8 q9 q10
      go_wp2_with fail
      clear q0 q1 q2 q3 q4 q5 q6 q7 q8 q9 q10
      refine (check_any ⟨hi, lo, id, up, name, st, sq, kd, sh, t0, t1⟩ _ hsf.out).mono ?_
      rw [HCS.out]
      rintro e w3 ⟨rfl, hb3⟩
      by_cases hc0 : c = 0
      · subst hc0
        go_wp2_with fail
        refine ⟨⟨j + 1, rfl, by omega, ⟨take_all_succ hlt HJ.out (by rw [HSJ.out, HCS.out])⟩, ?_⟩, by simp [intOf]; omega⟩
        exact Below.call (Below.alloc' hbr _) hb3
      · have hcn : ((c : Int) != 0) = true := by simp; omega
        go_wp2_with fail
        go_ret
        refine ⟨?_, Below.call (Below.alloc' hbr _) hb3⟩
        rw [HC.out, firstBad_at hlt HJ.out (by rw [HSJ.out, HCS.out]; exact hc0), HSJ.out, HCS.out]
        rfl
    · obtain rfl : j = L.length := by omega
      go_wp2_with fail
      go_ret
      refine ⟨?_, hbr⟩
      have := HJ.out
      rw [List.take_length] at this
      rw [HC.out, firstBad_zero.2 this]
      rfl
end Go.Proofs.Ytkhepehgafijfaa
