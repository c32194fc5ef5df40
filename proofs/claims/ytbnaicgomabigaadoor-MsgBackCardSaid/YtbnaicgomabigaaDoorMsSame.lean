/- Walks of the reference's Same on headers, requests, responses, at alike ones; what is left of texts that were cut. Conditions: a slice's own. -/
import Derived.Test.YtbnaicgomabigaaDoorMsRefHeads
namespace Go.Proofs.YtbnaicgomabigaaDoor
open Go.RowKit
set_option linter.unusedVariables false

set_option maxHeartbeats 1000000 in
set_option maxRecDepth 100000 in
theorem hdSame_any (L : List Hd) (v v' : Value) (w : World) (hS : SlR w 2 v (L.map Hd.cells)) (hS' : SlR w 2 v' (L.map Hd.cells)) :
    Calls Tryd.prog 26 #[v, v'] w fun e w' => e = .returned (.bool true) ∧ Below w.heap.size w w' := by
  obtain ⟨A, cap, rfl, _⟩ := hS.form
  obtain ⟨A', cap', rfl, _⟩ := hS'.form
  simp only [List.length_map] at *
  have HS := Stow.mk hS
  have HS' := Stow.mk hS'
  have hlen := hS.len
  simp only [List.length_map] at hlen
  clear hS hS'
  rename_i _ _
  go_enter Tryd.func26, Tryd.ntmps26
  go_wp2_with fail
  go_loopw [5] (fun v wr => ∃ j : Nat, v = .int .i64 j ∧ j ≤ L.length ∧ Below w.heap.size w wr) (fun v _ => L.length - (intOf v).toNat)
  case atStart => exact ⟨0, rfl, by omega, Below.self _⟩
  case round =>
    obtain ⟨j, rfl, hj, hbr⟩ := hrel
    by_cases hlt : j < L.length
    · obtain ⟨b, off, rfl, hblt, _⟩ := HS.out.open (by simp; omega)
      obtain ⟨b', off', rfl, hblt', _⟩ := HS'.out.open (by simp; omega)
      have hsp := head_at (HS.out.keep hbr) hlt
      have hsp' := head_at (HS'.out.keep hbr) hlt
      obtain ⟨s, hs⟩ : ∃ s, L[j] = s := ⟨_, rfl⟩
      rw [hs] at hsp hsp'
      clear hs
      obtain ⟨x, y⟩ := s
      obtain ⟨hltb, q0, q1⟩ := hsp
      obtain ⟨hltb', p0, p1⟩ := hsp'
      simp only at q0 q1 p0 p1
      have hji : (j : Int) < L.length := by omega
      go_wp2_with fail
      go_quiet (fail)
      go_wp2_with fail
      exact ⟨⟨j + 1, rfl, by omega, Below.drewN' hbr _⟩, by simp [intOf]; omega⟩
    · obtain rfl : j = L.length := by omega
      go_wp2_with fail
      go_ret
      exact ⟨rfl, hbr⟩

set_option maxHeartbeats 1000000 in
set_option maxRecDepth 100000 in
theorem msSame_any (q : Rq) (A A' : Option Addr) (cap cap' : Nat) (w : World) (hS : SlR w 2 (.slice A q.hs.length cap) (q.hs.map Hd.cells)) (hS' : SlR w 2 (.slice A' q.hs.length cap') (q.hs.map Hd.cells)) :
    Calls Tryd.prog 45 #[q.val A cap, q.val A' cap'] w fun e w' => e = .returned (.bool true) ∧ Below w.heap.size w w' := by
  have HS := Stow.mk hS
  have HS' := Stow.mk hS'
  clear hS hS'
  obtain ⟨m, h, p, hs, b⟩ := q
  simp only at HS HS'
  unfold Rq.val
  simp only
  have HX : Stow (∀ W, Below ((w.alloc (.cells #[.string (bs m), .string (bs h), .string (bs p), .slice A hs.length cap, .string (bs b)] 58)).alloc (.cells #[.string (bs m), .string (bs h), .string (bs p), .slice A' hs.length cap', .string (bs b)] 58)).heap.size ((w.alloc (.cells #[.string (bs m), .string (bs h), .string (bs p), .slice A hs.length cap, .string (bs b)] 58)).alloc (.cells #[.string (bs m), .string (bs h), .string (bs p), .slice A' hs.length cap', .string (bs b)] 58)) W →
      Held W w.heap.size [.string (bs m), .string (bs h), .string (bs p), .slice A hs.length cap, .string (bs b)] ∧ Held W (w.heap.size + 1) [.string (bs m), .string (bs h), .string (bs p), .slice A' hs.length cap', .string (bs b)] ∧ Below w.heap.size w W) := ⟨fun W hb => by
    have e1 : (w.alloc (.cells #[.string (bs m), .string (bs h), .string (bs p), .slice A hs.length cap, .string (bs b)] 58)).heap.size = w.heap.size + 1 := by simp
    have h1 := ((Held.made w [.string (bs m), .string (bs h), .string (bs p), .slice A hs.length cap, .string (bs b)] 58).kept (Below.alloc' (Below.self _) (.cells #[.string (bs m), .string (bs h), .string (bs p), .slice A' hs.length cap', .string (bs b)] 58))).kept hb
    have h2 := (Held.made (w.alloc (.cells #[.string (bs m), .string (bs h), .string (bs p), .slice A hs.length cap, .string (bs b)] 58)) [.string (bs m), .string (bs h), .string (bs p), .slice A' hs.length cap', .string (bs b)] 58).kept hb
    rw [e1] at h2
    exact ⟨h1, h2, Below.call (Below.alloc' (Below.alloc' (Below.self _) _) _) hb⟩⟩
  have z1 : (m == m) = true := by simp
  have z2 : (h == h) = true := by simp
  have z3 : (p == p) = true := by simp
  have z4 : (b == b) = true := by simp
  go_enter Tryd.func45, Tryd.ntmps45
  go_wp2_with fail
  refine (hdSame_any hs _ _ _ ((HS.out.alloc _).alloc _) ((HS'.out.alloc _).alloc _)).mono ?_
  rintro e w1 ⟨rfl, hb1⟩
  obtain ⟨h1, h2, hB⟩ := HX.out w1 hb1
  have HB := Stow.mk hB
  have a4 := h1.cell (i := 4) rfl
  have b4 := h2.cell (i := 4) rfl
  clear h1 h2 hB hb1
  go_wp2_with fail
  go_ret
  exact ⟨by first | rfl | simp, HB.out⟩

set_option maxHeartbeats 1000000 in
set_option maxRecDepth 100000 in
theorem msSameBack_any (q : Rs) (A A' : Option Addr) (cap cap' : Nat) (w : World) (hS : SlR w 2 (.slice A q.hs.length cap) (q.hs.map Hd.cells)) (hS' : SlR w 2 (.slice A' q.hs.length cap') (q.hs.map Hd.cells)) :
    Calls Tryd.prog 46 #[q.val A cap, q.val A' cap'] w fun e w' => e = .returned (.bool true) ∧ Below w.heap.size w w' := by
  have HS := Stow.mk hS
  have HS' := Stow.mk hS'
  clear hS hS'
  obtain ⟨st, hs, b⟩ := q
  simp only at HS HS'
  unfold Rs.val
  simp only
  have HX : Stow (∀ W, Below ((w.alloc (.cells #[.int .i64 st, .slice A hs.length cap, .string (bs b)] 63)).alloc (.cells #[.int .i64 st, .slice A' hs.length cap', .string (bs b)] 63)).heap.size ((w.alloc (.cells #[.int .i64 st, .slice A hs.length cap, .string (bs b)] 63)).alloc (.cells #[.int .i64 st, .slice A' hs.length cap', .string (bs b)] 63)) W →
      Held W w.heap.size [.int .i64 st, .slice A hs.length cap, .string (bs b)] ∧ Held W (w.heap.size + 1) [.int .i64 st, .slice A' hs.length cap', .string (bs b)] ∧ Below w.heap.size w W) := ⟨fun W hb => by
    have e1 : (w.alloc (.cells #[.int .i64 st, .slice A hs.length cap, .string (bs b)] 63)).heap.size = w.heap.size + 1 := by simp
    have h1 := ((Held.made w [.int .i64 st, .slice A hs.length cap, .string (bs b)] 63).kept (Below.alloc' (Below.self _) (.cells #[.int .i64 st, .slice A' hs.length cap', .string (bs b)] 63))).kept hb
    have h2 := (Held.made (w.alloc (.cells #[.int .i64 st, .slice A hs.length cap, .string (bs b)] 63)) [.int .i64 st, .slice A' hs.length cap', .string (bs b)] 63).kept hb
    rw [e1] at h2
    exact ⟨h1, h2, Below.call (Below.alloc' (Below.alloc' (Below.self _) _) _) hb⟩⟩
  have z0 : (st == st) = true := by simp
  have z4 : (b == b) = true := by simp
  go_enter Tryd.func46, Tryd.ntmps46
  go_wp2_with fail
  refine (hdSame_any hs _ _ _ ((HS.out.alloc _).alloc _) ((HS'.out.alloc _).alloc _)).mono ?_
  rintro e w1 ⟨rfl, hb1⟩
  obtain ⟨h1, h2, hB⟩ := HX.out w1 hb1
  have HB := Stow.mk hB
  have a4 := h1.cell (i := 2) rfl
  have b4 := h2.cell (i := 2) rfl
  clear h1 h2 hB hb1
  go_wp2_with fail
  go_ret
  exact ⟨by first | rfl | simp, HB.out⟩

namespace Ms
theorem rest_mem {M : List Hd} {b : List UInt8} : b.length ≤ (rest M b).length ∧ ∀ m ∈ M, m.1.length ≤ (rest M b).length ∧ m.2.length ≤ (rest M b).length := by
  induction M with
  | nil => simp [rest]
  | cons x t ih =>
    have e : (rest (x :: t) b).length = (hdLine x).length + (rest t b).length := by simp [rest]
    have h2 : x.1.length ≤ (hdLine x).length ∧ x.2.length ≤ (hdLine x).length := by simp [hdLine]; omega
    refine ⟨by omega, fun m hm => ?_⟩
    rcases List.mem_cons.1 hm with rfl | hm
    · omega
    · have := ih.2 m hm; omega
theorem heads_len {s : List UInt8} {L : List Hd} {b : List UInt8} (h : heads 17 s [] = some (L, b)) : b.length ≤ s.length ∧ ∀ m ∈ L, m.1.length ≤ s.length ∧ m.2.length ≤ s.length := by
  obtain ⟨M, hM, hr, _⟩ := heads_back h
  simp only [List.nil_append] at hM
  subst hM
  rw [hr]
  exact rest_mem
theorem parts_len {s f : List UInt8} {L : List Hd} {b : List UInt8} (h : parts s = some (f, L, b)) : f.length ≤ s.length ∧ b.length ≤ s.length ∧ ∀ m ∈ L, m.1.length ≤ s.length ∧ m.2.length ≤ s.length := by
  unfold parts at h
  cases hc : cutAt 10 s with
  | none => rw [hc] at h; cases h
  | some fr =>
    obtain ⟨f', r⟩ := fr
    rw [hc] at h
    simp only at h
    have hl := cutAt_len hc
    cases hh : heads 17 r [] with
    | none => rw [hh] at h; cases h
    | some Lb =>
      obtain ⟨L', b'⟩ := Lb
      rw [hh] at h
      simp only [Option.some.injEq, Prod.mk.injEq] at h
      obtain ⟨rfl, rfl, rfl⟩ := h
      have h2 := heads_len hh
      exact ⟨by omega, by omega, fun m hm => by have := h2.2 m hm; omega⟩
theorem read_parts (s : List UInt8) : read s = match parts s with
    | none => none
    | some (f, L, b) => match Ts.pieces 32 f with
      | [m, h, p] => if check ⟨m, h, p, L, b⟩ = 0 then some ⟨m, h, p, L, b⟩ else none
      | _ => none := by
  unfold read parts
  cases cutAt 10 s with
  | none => rfl
  | some fr =>
    obtain ⟨f, r⟩ := fr
    simp only
    cases heads 17 r [] with
    | none => rfl
    | some Lb => rfl
theorem readBack_parts (s : List UInt8) : readBack s = match parts s with
    | none => none
    | some (f, L, b) => if f.length = 3 ∧ eachB 48 57 f = true ∧ checkBack ⟨Pg.num f, L, b⟩ = 0 then some ⟨Pg.num f, L, b⟩ else none := by
  unfold readBack parts
  cases cutAt 10 s with
  | none => rfl
  | some fr =>
    obtain ⟨f, r⟩ := fr
    simp only
    cases heads 17 r [] with
    | none => rfl
    | some Lb => rfl
theorem atoi_num {f : List UInt8} (hl : f.length = 3) (he : eachB 48 57 f = true) : Lib.atoi f = some (Pg.num f) := by
  match f, hl with
  | [x, y, z], _ =>
    have hn : Pg.num [x, y, z] = 100 * (x.toNat - 48 : Int) + 10 * (y.toNat - 48 : Int) + (z.toNat - 48 : Int) := by
      unfold Pg.num
      simp only
      rw [he, if_pos rfl]
    unfold eachB at he
    simp only [List.all_cons, List.all_nil, Bool.and_true, Bool.and_eq_true, decide_eq_true_eq] at he
    have n45 : (x == 45) = false := by rw [beq_eq_false_iff_ne]; intro e; rw [e] at he; simp at he
    have n43 : (x == 43) = false := by rw [beq_eq_false_iff_ne]; intro e; rw [e] at he; simp at he
    have d1 : Lib.digitVal x = some (x.toNat - 48) := by unfold Lib.digitVal; rw [if_pos (by omega)]
    have d2 : Lib.digitVal y = some (y.toNat - 48) := by unfold Lib.digitVal; rw [if_pos (by omega)]
    have d3 : Lib.digitVal z = some (z.toNat - 48) := by unfold Lib.digitVal; rw [if_pos (by omega)]
    unfold Lib.atoi
    simp only []
    rw [n45, n43, hn]
    simp only [Bool.false_eq_true, if_false, Lib.decNat, List.isEmpty_cons, Lib.decFrom, d1, d2, d3, Option.map_some]
    congr 1
    omega
end Ms
end Go.Proofs.YtbnaicgomabigaaDoor
