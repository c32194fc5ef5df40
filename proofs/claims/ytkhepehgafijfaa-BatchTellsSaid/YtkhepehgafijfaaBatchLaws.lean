/- Walks of the statements on batches: what is alike, what is small, the fixed calls. Condition: fields fit their types. -/
import Derived.Test.YtkhepehgafijfaaBatchWrite
import Derived.Test.YtkhepehgafijfaaBatchRefRead2
namespace Go.Proofs.Ytkhepehgafijfaa
open Go.RowKit
set_option linter.unusedVariables false

set_option maxHeartbeats 1000000 in
set_option maxRecDepth 100000 in
theorem sameSpans_any (L : List Sp) (A A' : Option Addr) (cap cap' : Nat) (w : World) (hS : SlR w 11 (.slice A L.length cap) (L.map Sp.cells)) (hS' : SlR w 11 (.slice A' L.length cap') (L.map Sp.cells)) :
    Calls Try.prog 37 #[.slice A L.length cap, .slice A' L.length cap'] w fun e w' => e = .returned (.bool true) ∧ Below w.heap.size w w' := by
  have HS := Stow.mk hS
  have HS' := Stow.mk hS'
  have hlen := hS.len
  simp only [List.length_map] at hlen
  clear hS hS'
  by_cases h0 : L.length = 0
  · obtain rfl := List.eq_nil_of_length_eq_zero h0
    simp only [List.length_nil]
    clear HS HS' hlen h0
    go_enter Try.func37, Try.ntmps37
    go_wp2_with fail
    go_loopw [5] (fun v wr => v = .int .i64 0 ∧ Below w.heap.size w wr) (fun _ _ => 0)
    case atStart => exact ⟨rfl, Below.self _⟩
    case round =>
      obtain ⟨rfl, hbr⟩ := hrel
      go_wp2_with fail
      go_ret
      exact ⟨rfl, hbr⟩
  obtain ⟨b, off, rfl, hblt, _⟩ := HS.out.open (by simp; omega)
  obtain ⟨b', off', rfl, hblt', _⟩ := HS'.out.open (by simp; omega)
  clear h0
  go_enter Try.func37, Try.ntmps37
  go_wp2_with fail
  go_loopw [5] (fun v wr => ∃ j : Nat, v = .int .i64 j ∧ j ≤ L.length ∧ Below w.heap.size w wr) (fun v _ => L.length - (intOf v).toNat)
  case atStart => exact ⟨0, rfl, by omega, Below.self _⟩
  case round =>
    obtain ⟨j, rfl, hj, hbr⟩ := hrel
    by_cases hlt : j < L.length
    · have hsp := span_at (HS.out.keep hbr) hlt
      have hsp' := span_at (HS'.out.keep hbr) hlt
      obtain ⟨s, hs⟩ : ∃ s, L[j] = s := ⟨_, rfl⟩
      rw [hs] at hsp hsp'
      clear hs
      obtain ⟨hi, lo, id, up, name, st, sq, kd, sh, t0, t1⟩ := s
      obtain ⟨hltb, q0, q1, q2, q3, q4, q5, q6, q7, q8, q9, q10⟩ := hsp
      obtain ⟨hltb', p0, p1, p2, p3, p4, p5, p6, p7, p8, p9, p10⟩ := hsp'
      simp only at q0 q1 q2 q3 q4 q5 q6 q7 q8 q9 q10 p0 p1 p2 p3 p4 p5 p6 p7 p8 p9 p10
      have hji : (j : Int) < L.length := by omega
      go_wp2_with fail
      go_quiet (fail)
      go_wp2_with fail
      exact ⟨⟨j + 1, rfl, by omega, Below.drewN' hbr _⟩, by simp [intOf]; omega⟩
    · obtain rfl : j = L.length := by omega
      go_wp2_with fail
      go_ret
      exact ⟨rfl, hbr⟩

set_option maxHeartbeats 1000000 in
set_option maxRecDepth 100000 in
theorem sameBt_any (x y : Int) (L : List Sp) (A A' : Option Addr) (cap cap' : Nat) (w : World) (hS : SlR w 11 (.slice A L.length cap) (L.map Sp.cells)) (hS' : SlR w 11 (.slice A' L.length cap') (L.map Sp.cells)) :
    Calls Try.prog 19 #[.agg #[.int .i64 x, .int .i64 y, .slice A L.length cap], .agg #[.int .i64 x, .int .i64 y, .slice A' L.length cap']] w fun e w' => e = .returned (.bool true) ∧ Below w.heap.size w w' := by
  have HS := Stow.mk hS
  have HS' := Stow.mk hS'
  clear hS hS'
  go_enter Try.func19, Try.ntmps19
  go_wp2_with fail
  refine (sameSpans_any L A A' cap cap' _ ((HS.out.alloc _).alloc _) ((HS'.out.alloc _).alloc _)).mono ?_
  rintro e w1 ⟨rfl, hb1⟩
  go_wp2_with fail
  go_ret
  refine ⟨rfl, ?_⟩
  (repeat (first | exact Below.self _ | refine Below.alloc' ?_ _ | refine Below.drew ?_ | refine Below.drewN' ?_ _ | (refine Below.call ?_ (by assumption))))

/-- What the statements call small. -/
def fewB (L : List Sp) : Bool := decide (L.length ≤ 40) && L.all fun s => decide (s.name.length ≤ 200)

set_option maxHeartbeats 1000000 in
set_option maxRecDepth 100000 in
theorem few10_any (x y : Int) (L : List Sp) (A : Option Addr) (cap : Nat) (w : World) (hS : SlR w 11 (.slice A L.length cap) (L.map Sp.cells)) (hf : ∀ s ∈ L, s.fits) :
    Calls Try.prog 7 #[.agg #[.int .i64 x, .int .i64 y, .slice A L.length cap]] w fun e w' => e = .returned (.bool (fewB L)) ∧ Below w.heap.size w w' := by
  have HS := Stow.mk hS
  have HF := Stow.mk hf
  have hlen := hS.len
  simp only [List.length_map] at hlen
  clear hS hf
  by_cases h40 : 40 < L.length
  · have HB : Stow (fewB L = false) := ⟨by simp [fewB]; omega⟩
    go_enter Try.func7, Try.ntmps7
    go_wp2_with fail
    go_ret
    refine ⟨by rw [HB.out]; rfl, ?_⟩
    (repeat (first | exact Below.self _ | refine Below.alloc' ?_ _ | refine Below.drew ?_ | refine Below.drewN' ?_ _ | (refine Below.call ?_ (by assumption))))
  have hd40 : decide (40 < L.length) = false := by simpa using h40
  have HB : Stow (fewB L = L.all fun s => decide (s.name.length ≤ 200)) := ⟨by simp [fewB]; omega⟩
  by_cases h0 : L.length = 0
  · have HT : Stow (fewB L = true) := ⟨by rw [HB.out, List.eq_nil_of_length_eq_zero h0]; rfl⟩
    obtain rfl := List.eq_nil_of_length_eq_zero h0
    simp only [List.length_nil]
    clear HS HF hlen h0 HB
    go_enter Try.func7, Try.ntmps7
    go_wp2_with fail
    go_loopw [3] (fun v wr => v = .int .i64 0 ∧ Below w.heap.size w wr ∧ Held wr w.heap.size [.int .i64 x, .int .i64 y, .slice A 0 cap]) (fun _ _ => 0)
    case atStart => exact ⟨rfl, Below.alloc' (Below.self _) _, Held.made w [.int .i64 x, .int .i64 y, .slice A 0 cap] _⟩
    case round =>
      obtain ⟨rfl, hbr, hH⟩ := hrel
      have c2 := hH.cell (i := 2) rfl
      go_wp2_with fail
      go_ret
      exact ⟨by rw [HT.out]; rfl, hbr⟩
  obtain ⟨b, off, rfl, hblt, _⟩ := HS.out.open (by simp; omega)
  clear h0
  go_enter Try.func7, Try.ntmps7
  go_wp2_with fail
  go_loopw [3] (fun v wr => ∃ j : Nat, v = .int .i64 j ∧ j ≤ L.length ∧ Below w.heap.size w wr ∧ Held wr w.heap.size [.int .i64 x, .int .i64 y, .slice (some ⟨b, off, none⟩) L.length cap] ∧ Stow ((L.take j).all (fun s => decide (s.name.length ≤ 200)) = true)) (fun v _ => L.length - (intOf v).toNat)
  case atStart => exact ⟨0, rfl, by omega, Below.alloc' (Below.self _) _, Held.made w [.int .i64 x, .int .i64 y, .slice (some ⟨b, off, none⟩) L.length cap] _, ⟨rfl⟩⟩
  case round =>
    obtain ⟨j, rfl, hj, hbr, hH, HJ⟩ := hrel
    have c2 := hH.cell (i := 2) rfl
    by_cases hlt : j < L.length
    · have hsp := span_at (HS.out.keep hbr) hlt
      have hfn := (HF.out L[j] (List.getElem_mem hlt)).name
      have e1 : (L.take (j + 1)).all (fun s => decide (s.name.length ≤ 200)) = ((L.take j).all (fun s => decide (s.name.length ≤ 200)) && decide (L[j].name.length ≤ 200)) := by
        rw [List.take_succ_eq_append_getElem hlt, List.all_append]; simp
      have E1 := Stow.mk e1
      have hmem : L[j] ∈ L := List.getElem_mem hlt
      have HM := Stow.mk hmem
      clear e1 hmem
      obtain ⟨s, hs⟩ : ∃ s, L[j] = s := ⟨_, rfl⟩
      rw [hs] at hsp hfn E1 HM
      clear hs
      obtain ⟨hi, lo, id, up, name, st, sq, kd, sh, t0, t1⟩ := s
      obtain ⟨hltb, q0, q1, q2, q3, q4, q5, q6, q7, q8, q9, q10⟩ := hsp
      simp only at q4 hfn
      clear q0 q1 q2 q3 q5 q6 q7 q8 q9 q10
      by_cases hn : 200 < name.length
      · go_wp2_with fail
        go_ret
        refine ⟨?_, hbr⟩
        have : (L.all fun s => decide (s.name.length ≤ 200)) = false := by
          rw [List.all_eq_false]
          exact ⟨_, HM.out, by simp; omega⟩
        rw [HB.out, this]
        rfl
      · go_wp2_with fail
        refine ⟨⟨j + 1, rfl, by omega, hbr, hH, ⟨by rw [E1.out, HJ.out]; simp; omega⟩⟩, by simp [intOf]; omega⟩
    · obtain rfl : j = L.length := by omega
      go_wp2_with fail
      go_ret
      refine ⟨?_, hbr⟩
      have := HJ.out
      rw [List.take_length] at this
      rw [HB.out, this]
      rfl
end Go.Proofs.Ytkhepehgafijfaa
