/- Walk of what the laws ask of a request: Few. Condition: texts not longer than 2^47. -/
import Derived.Test.YtbnaicgomabigaaDoorHead
import Derived.Test.YtbnaicgomabigaaDoorKit
namespace Go.Proofs.YtbnaicgomabigaaDoor
open Go.RowKit
set_option linter.unusedVariables false

theorem allp_take_succ {α : Type} {p : α → Bool} {l : List α} {i : Nat} (h : i < l.length) (ha : (l.take i).all p = true) (hb : p l[i] = true) : (l.take (i + 1)).all p = true := by
  rw [List.take_succ_eq_append_getElem h, List.all_append, ha]; simp [hb]
theorem allp_false_of {α : Type} {p : α → Bool} {l : List α} {i : Nat} (h : i < l.length) (hb : p l[i] = false) : l.all p = false := by
  rw [List.all_eq_false]; exact ⟨l[i], List.getElem_mem h, by simp [hb]⟩

def fewQ (m h p b : List UInt8) (hs : List Hd) : Bool := decide (m.length + h.length + p.length + b.length ≤ 2000) && (decide (hs.length ≤ 40) && hs.all fun x => decide (x.1.length + x.2.length ≤ 400))

set_option maxHeartbeats 1000000 in
set_option maxRecDepth 100000 in
theorem fewQ_any (m h p b : List UInt8) (hs : List Hd) (A : Option Addr) (cap : Nat) (w : World) (hS : SlR w 2 (.slice A hs.length cap) (hs.map Hd.cells))
    (hm : m.length ≤ 140737488355328) (hh : h.length ≤ 140737488355328) (hp : p.length ≤ 140737488355328) (hb : b.length ≤ 140737488355328) (hL : ∀ x ∈ hs, x.1.length ≤ 140737488355328 ∧ x.2.length ≤ 140737488355328) :
    Calls Tryd.prog 31 #[.agg #[.string (bs m), .string (bs h), .string (bs p), .slice A hs.length cap, .string (bs b)]] w fun e w' => e = .returned (.bool (fewQ m h p b hs)) ∧ Below w.heap.size w w' := by
  have HS := Stow.mk hS
  have HL := Stow.mk hL
  have hlen := hS.len
  simp only [List.length_map] at hlen
  clear hS hL
  by_cases h2000 : 2000 < m.length + h.length + p.length + b.length
  · have HF : Stow (fewQ m h p b hs = false) := ⟨by simp [fewQ]; omega⟩
    have d1 : (2000 : Int) < (m.length : Int) + h.length + p.length + b.length := by omega
    go_enter Tryd.func31, Tryd.ntmps31
    go_wp2_with fail
    go_ret
    refine ⟨by rw [HF.out]; rfl, ?_⟩
    (repeat (first | exact Below.self _ | refine Below.alloc' ?_ _ | refine Below.drew ?_ | refine Below.drewN' ?_ _ | (refine Below.call ?_ (by assumption))))
  have d1 : ¬ (2000 : Int) < (m.length : Int) + h.length + p.length + b.length := by omega
  by_cases h40 : 40 < hs.length
  · have HF : Stow (fewQ m h p b hs = false) := ⟨by simp [fewQ]; omega⟩
    go_enter Tryd.func31, Tryd.ntmps31
    go_wp2_with fail
    go_ret
    refine ⟨by rw [HF.out]; rfl, ?_⟩
    (repeat (first | exact Below.self _ | refine Below.alloc' ?_ _ | refine Below.drew ?_ | refine Below.drewN' ?_ _ | (refine Below.call ?_ (by assumption))))
  have HF : Stow (fewQ m h p b hs = hs.all fun x => decide (x.1.length + x.2.length ≤ 400)) := ⟨by unfold fewQ; rw [decide_eq_true (show m.length + h.length + p.length + b.length ≤ 2000 by omega), decide_eq_true (show hs.length ≤ 40 by omega)]; simp⟩
  by_cases h0 : hs.length = 0
  · obtain rfl := List.eq_nil_of_length_eq_zero h0
    go_enter Tryd.func31, Tryd.ntmps31
    go_wp2_with fail
    go_loopw [3] (fun v wr => v = .int .i64 0 ∧ Below w.heap.size w wr ∧ Held wr w.heap.size [.string (bs m), .string (bs h), .string (bs p), .slice A 0 cap, .string (bs b)]) (fun _ _ => 0)
    case atStart => exact ⟨rfl, Below.alloc' (Below.self _) _, Held.made w [.string (bs m), .string (bs h), .string (bs p), .slice A 0 cap, .string (bs b)] _⟩
    case round =>
      obtain ⟨rfl, hbr, hH⟩ := hrel
      have c3 := hH.cell (i := 3) rfl
      go_wp2_with fail
      go_ret
      exact ⟨by rw [HF.out]; rfl, hbr⟩
  obtain ⟨bb, off, rfl, hblt, _⟩ := HS.out.open (by simp; omega)
  clear h0
  go_enter Tryd.func31, Tryd.ntmps31
  go_wp2_with fail
  go_loopw [3] (fun v wr => ∃ j : Nat, v = .int .i64 j ∧ j ≤ hs.length ∧ Stow ((hs.take j).all (fun x => decide (x.1.length + x.2.length ≤ 400)) = true) ∧ Below w.heap.size w wr ∧
    Held wr w.heap.size [.string (bs m), .string (bs h), .string (bs p), .slice (some ⟨bb, off, none⟩) hs.length cap, .string (bs b)]) (fun v _ => hs.length - (intOf v).toNat)
  case atStart => exact ⟨0, rfl, by omega, ⟨rfl⟩, Below.alloc' (Below.self _) _, Held.made w [.string (bs m), .string (bs h), .string (bs p), .slice (some ⟨bb, off, none⟩) hs.length cap, .string (bs b)] _⟩
  case round =>
    obtain ⟨j, rfl, hj, HJ, hbr, hH⟩ := hrel
    have c3 := hH.cell (i := 3) rfl
    have hltr := hH.lt
    by_cases hlt : j < hs.length
    · have hsp := head_at (HS.out.keep hbr) hlt
      have htl := HL.out hs[j] (List.getElem_mem hlt)
      obtain ⟨s, hs2⟩ : ∃ s, hs[j] = s := ⟨_, rfl⟩
      have HSJ := Stow.mk hs2
      rw [hs2] at hsp htl
      clear hs2
      obtain ⟨x, y⟩ := s
      obtain ⟨hltb, q0, q1⟩ := hsp
      simp only at q0 q1 htl
      obtain ⟨hx, hy⟩ := htl
      have HBR := Stow.mk hbr
      have HH := Stow.mk hH
      clear hbr hH
      by_cases h400 : 400 < x.length + y.length
      · have HB : Stow (hs.all (fun x => decide (x.1.length + x.2.length ≤ 400)) = false) := ⟨allp_false_of hlt (by rw [HSJ.out]; simp; omega)⟩
        have d2 : (400 : Int) < (x.length : Int) + y.length := by omega
        go_wp2_with fail
        go_quiet (fail)
        go_wp2_with fail
        go_ret
        exact ⟨by rw [HF.out, HB.out]; rfl, by first | exact HBR.out | exact Below.drewN' HBR.out _⟩
      · have HB : Stow ((hs.take (j + 1)).all (fun x => decide (x.1.length + x.2.length ≤ 400)) = true) := ⟨allp_take_succ hlt HJ.out (by rw [HSJ.out]; simp; omega)⟩
        have d2 : ¬ (400 : Int) < (x.length : Int) + y.length := by omega
        go_wp2_with fail
        go_quiet (fail)
        go_wp2_with fail
        exact ⟨⟨j + 1, rfl, by omega, HB, by first | exact HBR.out | exact Below.drewN' HBR.out _, by first | exact HH.out | exact HH.out.drewN _⟩, by simp [intOf]; omega⟩
    · obtain rfl : j = hs.length := by omega
      go_wp2_with fail
      go_ret
      refine ⟨?_, hbr⟩
      have h := HJ.out
      rw [List.take_length] at h
      rw [HF.out, h]; rfl
end Go.Proofs.YtbnaicgomabigaaDoor
