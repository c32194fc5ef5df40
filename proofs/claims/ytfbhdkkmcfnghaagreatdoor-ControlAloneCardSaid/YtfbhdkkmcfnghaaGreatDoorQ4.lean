/- Walks of the reference's Same on predicates, rules, configs, at alike ones, and of its Few. Conditions: slices' own.; Walk of the reference's Order. Conditions: the rules' memory; not longer than a thousand.; Walks of the reference's Compile, Same and Whole of tables, at what may be. Conditions: the tables' and the names' memory.; Walks of the statement's known and nothing. Condition: what the library's variables hold. -/
import Derived.Test.YtfbhdkkmcfnghaaGreatDoorCfMem
import Derived.Test.YtfbhdkkmcfnghaaGreatDoorQ2
import Derived.BigRegion
import Derived.BigQuiet
import Derived.Test.YtfbhdkkmcfnghaaGreatDoorQ3

section
namespace Go.Proofs.YtfbhdkkmcfnghaaGreatDoor
open Go.RowKit
set_option linter.unusedVariables false
set_option linter.unusedSimpArgs false

theorem eq_pd (d : Nat) (k : Int) (a b : ByteArray) (w : World) : (Op.equalIn (d + 2) 98 (.agg #[.int .i64 k, .string a, .string b]) (.agg #[.int .i64 k, .string a, .string b])).run Tryz.prog w = .ok true w := by
  have hu := Tryz.underlying98
  have hi := Tryz.underlying3
  have ht := Tryz.underlying9
  have hs : (Tryz.prog.info? 3).map (·.size) = some 1 := by kernel_rfl
  have hs2 : (Tryz.prog.info? 9).map (·.size) = some 1 := by kernel_rfl
  rw [show d + 2 = (d + 1) + 1 from rfl, Op.equalIn]
  simp [go_sem, run_underlying hu]
set_option maxHeartbeats 1000000 in
set_option maxRecDepth 100000 in
theorem pdsSame_any (L : List Pd) (A A' : Option Addr) (cap cap' : Nat) (w : World) (hS : SlR w 3 (.slice A L.length cap) (L.map Pd.cells)) (hS' : SlR w 3 (.slice A' L.length cap') (L.map Pd.cells)) :
    Calls Tryz.prog 146 #[.slice A L.length cap, .slice A' L.length cap'] w fun e w' => e = .returned (.bool true) ∧ Below w.heap.size w w' := by
  have HS := Stow.mk hS
  have HS' := Stow.mk hS'
  have hlen := hS.len
  simp only [List.length_map] at hlen
  clear hS hS'
  go_enter Tryz.func146, Tryz.ntmps146
  go_wp2_with fail
  go_loopw [5] (fun v wr => ∃ j : Nat, v = .int .i64 j ∧ j ≤ L.length ∧ Below w.heap.size w wr) (fun v _ => L.length - (intOf v).toNat)
  case atStart => exact ⟨0, rfl, by omega, Below.self _⟩
  case round =>
    obtain ⟨j, rfl, hj, hbr⟩ := hrel
    by_cases hlt : j < L.length
    · obtain ⟨b, off, rfl, hblt, _⟩ := HS.out.open (by simp; omega)
      obtain ⟨b', off', rfl, hblt', _⟩ := HS'.out.open (by simp; omega)
      obtain ⟨q0, q1, q2⟩ := pd_at (HS.out.keep hbr) hlt
      obtain ⟨p0, p1, p2⟩ := pd_at (HS'.out.keep hbr) hlt
      obtain ⟨s, hs⟩ : ∃ s, L[j] = s := ⟨_, rfl⟩
      rw [hs] at q0 q1 q2 p0 p1 p2
      clear hs
      obtain ⟨k, x, y⟩ := s
      simp only at q0 q1 q2 p0 p1 p2
      have hji : (j : Int) < L.length := by omega
      have heq : ∀ w', (Op.equalIn 10000 98 (.agg #[.int .i64 k, .string (bs x), .string (bs y)]) (.agg #[.int .i64 k, .string (bs x), .string (bs y)])).run Tryz.prog w' = .ok true w' := fun w' => eq_pd 9998 k _ _ w'
      go_wp2_with fail
      go_quiet (fail)
      go_wp2_with fail
      exact ⟨⟨j + 1, rfl, by omega, Below.drewN' hbr _⟩, by simp [intOf]; omega⟩
    · obtain rfl : j = L.length := by omega
      go_wp2_with fail
      go_ret
      exact ⟨rfl, hbr⟩
set_option maxHeartbeats 2000000 in
set_option maxRecDepth 100000 in
theorem ruSame_any (r : Ru) (A1 A2 : Option Addr) (c1 c2 : Nat) (w : World) (h1 : RmR w ⟨r, A1, c1⟩) (h2 : RmR w ⟨r, A2, c2⟩) :
    Calls Tryz.prog 107 #[.agg (Rm.cells ⟨r, A1, c1⟩).toArray, .agg (Rm.cells ⟨r, A2, c2⟩).toArray] w fun e w' => e = .returned (.bool true) ∧ Below w.heap.size w w' := by
  have hs1 := h1.row
  have hs2 := h2.row
  obtain ⟨rank, ps, tg, ap, st, dp, dt, mp, mi, sm⟩ := r
  unfold Rm.cells
  simp only at hs1 hs2 ⊢
  have hb1 := Below.alloc' (Below.self w) (.cells #[.int .i64 rank, .slice A1 ps.length c1, .string (bs tg), .int .i64 ap, .int .i64 st, .int .i64 dp, .int .i64 dt, .int .i64 mp, .string (bs mi), .int .i64 sm] 95)
  have hb2 := Below.alloc' (Below.self (w.alloc (.cells #[.int .i64 rank, .slice A1 ps.length c1, .string (bs tg), .int .i64 ap, .int .i64 st, .int .i64 dp, .int .i64 dt, .int .i64 mp, .string (bs mi), .int .i64 sm] 95))) (.cells #[.int .i64 rank, .slice A2 ps.length c2, .string (bs tg), .int .i64 ap, .int .i64 st, .int .i64 dp, .int .i64 dt, .int .i64 mp, .string (bs mi), .int .i64 sm] 95)
  have HB := Stow.mk (Below.call hb1 hb2)
  have HC := Stow.mk (pdsSame_any ps A1 A2 c1 c2 ((w.alloc (.cells #[.int .i64 rank, .slice A1 ps.length c1, .string (bs tg), .int .i64 ap, .int .i64 st, .int .i64 dp, .int .i64 dt, .int .i64 mp, .string (bs mi), .int .i64 sm] 95)).alloc (.cells #[.int .i64 rank, .slice A2 ps.length c2, .string (bs tg), .int .i64 ap, .int .i64 st, .int .i64 dp, .int .i64 dt, .int .i64 mp, .string (bs mi), .int .i64 sm] 95)) ((hs1.keep hb1).keep hb2) ((hs2.keep hb1).keep hb2))
  clear h1 h2 hs1 hs2 hb1 hb2
  go_enter Tryz.func107, Tryz.ntmps107
  go_wp2_with fail
  refine HC.out.mono ?_
  rintro e w3 ⟨rfl, hb3⟩
  have HB3 := Stow.mk (Below.call HB.out hb3)
  have hq := ((Held.made w [.int .i64 rank, .slice A1 ps.length c1, .string (bs tg), .int .i64 ap, .int .i64 st, .int .i64 dp, .int .i64 dt, .int .i64 mp, .string (bs mi), .int .i64 sm] 95).kept (Below.alloc' (Below.self _) (.cells #[.int .i64 rank, .slice A2 ps.length c2, .string (bs tg), .int .i64 ap, .int .i64 st, .int .i64 dp, .int .i64 dt, .int .i64 mp, .string (bs mi), .int .i64 sm] 95))).kept hb3
  have hp := (Held.made (w.alloc (.cells #[.int .i64 rank, .slice A1 ps.length c1, .string (bs tg), .int .i64 ap, .int .i64 st, .int .i64 dp, .int .i64 dt, .int .i64 mp, .string (bs mi), .int .i64 sm] 95)) [.int .i64 rank, .slice A2 ps.length c2, .string (bs tg), .int .i64 ap, .int .i64 st, .int .i64 dp, .int .i64 dt, .int .i64 mp, .string (bs mi), .int .i64 sm] 95).kept hb3
  have hp2 : Held w3 (w.heap.size + 1) [.int .i64 rank, .slice A2 ps.length c2, .string (bs tg), .int .i64 ap, .int .i64 st, .int .i64 dp, .int .i64 dt, .int .i64 mp, .string (bs mi), .int .i64 sm] := by simpa using hp
  have a0 := hq.cell (i := 0) rfl
  have b0 := hp2.cell (i := 0) rfl
  have a1 := hq.cell (i := 1) rfl
  have b1 := hp2.cell (i := 1) rfl
  have a2 := hq.cell (i := 2) rfl
  have b2 := hp2.cell (i := 2) rfl
  have a3 := hq.cell (i := 3) rfl
  have b3 := hp2.cell (i := 3) rfl
  have a4 := hq.cell (i := 4) rfl
  have b4 := hp2.cell (i := 4) rfl
  have a5 := hq.cell (i := 5) rfl
  have b5 := hp2.cell (i := 5) rfl
  have a6 := hq.cell (i := 6) rfl
  have b6 := hp2.cell (i := 6) rfl
  have a7 := hq.cell (i := 7) rfl
  have b7 := hp2.cell (i := 7) rfl
  have a8 := hq.cell (i := 8) rfl
  have b8 := hp2.cell (i := 8) rfl
  have a9 := hq.cell (i := 9) rfl
  have b9 := hp2.cell (i := 9) rfl
  clear hb3 hq hp hp2 HC HB
  go_wp2_with fail
  go_ret
  exact ⟨rfl, HB3.out⟩
set_option maxHeartbeats 2000000 in
set_option maxRecDepth 100000 in
theorem rsSame_any (n : Nat) (R1 R2 : List Rm) (A1 A2 : Option Addr) (c1 c2 : Nat) (w : World) (hn : R1.length = n) (h1 : RsR w A1 c1 R1) (h2 : RsR w A2 c2 R2) (he : R1.map Rm.r = R2.map Rm.r) :
    Calls Tryz.prog 56 #[.slice A1 n c1, .slice A2 n c2] w fun e w' => e = .returned (.bool true) ∧ Below w.heap.size w w' := by
  have hn2 : R2.length = n := by have := congrArg List.length he; simpa [hn] using this.symm
  have HS := Stow.mk h1
  have HS' := Stow.mk h2
  have hlen := h1.row.len
  simp only [List.length_map] at hlen
  have HE := Stow.mk he
  have HN := Stow.mk hn
  have HN2 := Stow.mk hn2
  have hln : n ≤ 9223372036854775807 := by omega
  clear h1 h2 he hn hn2 hlen
  go_enter Tryz.func56, Tryz.ntmps56
  go_wp2_with fail
  go_loopw [5] (fun v wr => ∃ j : Nat, v = .int .i64 j ∧ j ≤ n ∧ Stow (Below w.heap.size w wr)) (fun v _ => n - (intOf v).toNat)
  case atStart => exact ⟨0, rfl, by omega, ⟨Below.self _⟩⟩
  case round =>
    obtain ⟨j, rfl, hj, hbr⟩ := hrel
    by_cases hlt : j < n
    · have hl1 : j < R1.length := by rw [HN.out]; exact hlt
      have hl2 : j < R2.length := by rw [HN2.out]; exact hlt
      obtain ⟨b, off, rfl, hblt, _⟩ := SlR.open HS.out.row (by simp; omega)
      obtain ⟨b', off', rfl, hblt', _⟩ := SlR.open HS'.out.row (by simp; omega)
      have hra := (rm_at (SlR.keep HS.out.row hbr.out) hl1).2
      have hrb := (rm_at (SlR.keep HS'.out.row hbr.out) hl2).2
      have hm1 := (HS.out.each _ (List.getElem_mem hl1)).keep hbr.out
      have hm2 := (HS'.out.each _ (List.getElem_mem hl2)).keep hbr.out
      have hrr : R1[j].r = R2[j].r := by
        have h := HE.out
        have h1 : (R1.map Rm.r)[j]? = some R1[j].r := by rw [List.getElem?_map, List.getElem?_eq_getElem hl1]; rfl
        have h2 : (R2.map Rm.r)[j]? = some R2[j].r := by rw [List.getElem?_map, List.getElem?_eq_getElem hl2]; rfl
        rw [h, h2] at h1
        exact (Option.some.inj h1).symm
      obtain ⟨m1, he1⟩ : ∃ m, R1[j] = m := ⟨_, rfl⟩
      obtain ⟨m2, he2⟩ : ∃ m, R2[j] = m := ⟨_, rfl⟩
      rw [he1] at hra hm1 hrr
      rw [he2] at hrb hm2 hrr
      clear he1 he2
      obtain ⟨r1, B1, k1⟩ := m1
      obtain ⟨r2, B2, k2⟩ := m2
      simp only at hrr
      subst hrr
      have hc := ruSame_any r1 B1 B2 k1 k2 wr.drew (hm1.keep (Below.drew (Below.self wr))) (hm2.keep (Below.drew (Below.self wr)))
      obtain ⟨rank, ps, tg, ap, st, dp, dt, mp, mi, sm⟩ := r1
      have q0 : wr.cell? ⟨b, off + j * 10, none⟩ = some (.int .i64 rank) := hra 0 _ rfl
      have p0 : wr.cell? ⟨b', off' + j * 10, none⟩ = some (.int .i64 rank) := hrb 0 _ rfl
      have q1 : wr.cell? ⟨b, off + j * 10 + 1, none⟩ = some (.slice B1 ps.length k1) := hra 1 _ rfl
      have p1 : wr.cell? ⟨b', off' + j * 10 + 1, none⟩ = some (.slice B2 ps.length k2) := hrb 1 _ rfl
      have q2 : wr.cell? ⟨b, off + j * 10 + 2, none⟩ = some (.string (bs tg)) := hra 2 _ rfl
      have p2 : wr.cell? ⟨b', off' + j * 10 + 2, none⟩ = some (.string (bs tg)) := hrb 2 _ rfl
      have q3 : wr.cell? ⟨b, off + j * 10 + 3, none⟩ = some (.int .i64 ap) := hra 3 _ rfl
      have p3 : wr.cell? ⟨b', off' + j * 10 + 3, none⟩ = some (.int .i64 ap) := hrb 3 _ rfl
      have q4 : wr.cell? ⟨b, off + j * 10 + 4, none⟩ = some (.int .i64 st) := hra 4 _ rfl
      have p4 : wr.cell? ⟨b', off' + j * 10 + 4, none⟩ = some (.int .i64 st) := hrb 4 _ rfl
      have q5 : wr.cell? ⟨b, off + j * 10 + 5, none⟩ = some (.int .i64 dp) := hra 5 _ rfl
      have p5 : wr.cell? ⟨b', off' + j * 10 + 5, none⟩ = some (.int .i64 dp) := hrb 5 _ rfl
      have q6 : wr.cell? ⟨b, off + j * 10 + 6, none⟩ = some (.int .i64 dt) := hra 6 _ rfl
      have p6 : wr.cell? ⟨b', off' + j * 10 + 6, none⟩ = some (.int .i64 dt) := hrb 6 _ rfl
      have q7 : wr.cell? ⟨b, off + j * 10 + 7, none⟩ = some (.int .i64 mp) := hra 7 _ rfl
      have p7 : wr.cell? ⟨b', off' + j * 10 + 7, none⟩ = some (.int .i64 mp) := hrb 7 _ rfl
      have q8 : wr.cell? ⟨b, off + j * 10 + 8, none⟩ = some (.string (bs mi)) := hra 8 _ rfl
      have p8 : wr.cell? ⟨b', off' + j * 10 + 8, none⟩ = some (.string (bs mi)) := hrb 8 _ rfl
      have q9 : wr.cell? ⟨b, off + j * 10 + 9, none⟩ = some (.int .i64 sm) := hra 9 _ rfl
      have p9 : wr.cell? ⟨b', off' + j * 10 + 9, none⟩ = some (.int .i64 sm) := hrb 9 _ rfl
      unfold Rm.cells at hc
      simp only at hc
      have HC := Stow.mk hc
      have hji : (j : Int) < n := by omega
      have hj0 : (0 : Int) ≤ j := by omega
      clear hra hrb hm1 hm2 hc
      go_upto_region 6 with fail
      go_region_with (go_at_call 107; refine HC.out.mono ?_; rintro e w3 ⟨rfl, hb3⟩; have HB3 := Stow.mk (hbr.out.trans (((Below.drew (Below.self wr)).trans hb3).mono hbr.out.size)); clear hb3)
      all_goals
        go_wp2_with fail
        exact ⟨⟨j + 1, rfl, by omega, HB3⟩, by simp [intOf]; omega⟩
    · obtain rfl : j = n := by omega
      go_wp2_with fail
      go_ret
      exact ⟨rfl, hbr.out⟩
set_option maxHeartbeats 2000000 in
set_option maxRecDepth 100000 in
theorem cfSame_any (n : Nat) (R1 R2 : List Rm) (A1 A2 : Option Addr) (c1 c2 : Nat) (f : List UInt8) (w : World) (hn : R1.length = n) (h1 : RsR w A1 c1 R1) (h2 : RsR w A2 c2 R2) (he : R1.map Rm.r = R2.map Rm.r) :
    Calls Tryz.prog 32 #[.agg #[.slice A1 n c1, .string (bs f)], .agg #[.slice A2 n c2, .string (bs f)]] w fun e w' => e = .returned (.bool true) ∧ Below w.heap.size w w' := by
  have hb1 := Below.alloc' (Below.self w) (.cells #[.slice A1 n c1, .string (bs f)] 54)
  have hb2 := Below.alloc' (Below.self (w.alloc (.cells #[.slice A1 n c1, .string (bs f)] 54))) (.cells #[.slice A2 n c2, .string (bs f)] 54)
  have HB := Stow.mk (Below.call hb1 hb2)
  have HC := Stow.mk (rsSame_any n R1 R2 A1 A2 c1 c2 ((w.alloc (.cells #[.slice A1 n c1, .string (bs f)] 54)).alloc (.cells #[.slice A2 n c2, .string (bs f)] 54)) hn ((h1.keep hb1).keep hb2) ((h2.keep hb1).keep hb2) he)
  clear h1 h2 hb1 hb2 he hn
  go_enter Tryz.func32, Tryz.ntmps32
  go_wp2_with fail
  refine HC.out.mono ?_
  rintro e w3 ⟨rfl, hb3⟩
  have HB3 := Stow.mk (Below.call HB.out hb3)
  clear hb3 HC HB
  go_wp2_with fail
  go_ret
  exact ⟨rfl, HB3.out⟩
end Go.Proofs.YtfbhdkkmcfnghaaGreatDoor
end

section
namespace Go.Proofs.YtfbhdkkmcfnghaaGreatDoor
open Go.RowKit
set_option linter.unusedVariables false
set_option linter.unusedSimpArgs false

theorem Ct.ins_put {M : List Rm} {x : Rm} {a : Nat} (hf : Ct.Falls (M.map Rm.r)) (h1 : ∀ z ∈ M.take a, x.r.rank ≤ z.r.rank) (h2 : a = M.length ∨ ∃ y : Rm, M[a]? = some y ∧ y.r.rank < x.r.rank) :
    (M.take a ++ x :: M.drop a).map Rm.r = Ct.ins x.r (M.map Rm.r) := by
  have e : M.map Rm.r = (M.take a).map Rm.r ++ (M.drop a).map Rm.r := by rw [← List.map_append, List.take_append_drop]
  rw [e, Ct.ins_at]
  · simp
  · intro z hz
    obtain ⟨m, hm, rfl⟩ := List.mem_map.1 hz
    exact h1 m hm
  · intro z hz
    obtain ⟨m, hm, rfl⟩ := List.mem_map.1 hz
    obtain ⟨i, hi, rfl⟩ := List.getElem_of_mem hm
    rw [List.length_drop] at hi
    rw [List.getElem_drop]
    rcases h2 with rfl | ⟨y, hy, hle⟩
    · omega
    · obtain ⟨hlt, rfl⟩ := List.getElem?_eq_some_iff.1 hy
      by_cases e2 : i = 0
      · subst e2; exact hle
      · have hp := List.pairwise_iff_getElem.1 hf a (a + i) (by rw [List.length_map]; omega) (by rw [List.length_map]; omega) (by omega)
        simp only [List.getElem_map] at hp
        omega
theorem rm_len10 {L : List Rm} : ∀ x ∈ L.map Rm.cells, x.length = 10 := fun x hx => by
  obtain ⟨y, _, rfl⟩ := List.mem_map.1 hx
  rfl
theorem rm_one10 {L : List Rm} : ∀ x ∈ L.map Rm.cells, ∀ u ∈ x, u.oneCell' = true := fun x hx => by
  obtain ⟨y, _, rfl⟩ := List.mem_map.1 hx
  exact Rm.one y
theorem own_cap0 {w : World} {B : Nat} {e : TypeId} {c n n' cap : Nat} {A : Option Addr} {xs : List Value} (h : w.ownsRow B e c (.slice A n' cap) n xs) : A = none → cap = 0 := by
  intro hA
  subst hA
  rcases h.2 with ⟨h1, _⟩ | ⟨g, cap', cur, hv, _⟩
  · simp only [Value.slice.injEq] at h1; exact h1.2.2
  · cases hv
theorem ro_flat (M : List Rm) (a : Nat) (x : Rm) : [] ++ ((M.map Rm.cells).take a).flatten ++ x.cells ++ ((M.map Rm.cells).drop a).flatten = (M.take a ++ x :: M.drop a).flatMap Rm.cells := by
  rw [← List.map_take, ← List.map_drop]
  simp [List.flatMap_def]
theorem rm_flat (L : List Rm) : (L.map Rm.cells).flatten = L.flatMap Rm.cells := by rw [List.flatMap_def]
theorem grown_none {w w' : World} {A : Option Addr} (h : w.grownBy w' (Value.slice none 0 0).ownBlock) : Below w.heap.size w w' := ⟨h.os, h.tape, h.output, h.size, fun k hk => h.block k hk (by intro e; cases e)⟩
set_option maxHeartbeats 8000000 in
set_option maxRecDepth 100000 in
theorem refOrder_any (A : Option Addr) (cap : Nat) (R : List Rm) (w : World) (h : RsR w A cap R) (hn : R.length ≤ 1000) :
    Calls Tryz.prog 106 #[.slice A R.length cap] w fun e w' => ∃ A' cap', ∃ M : List Rm, e = .returned (.slice A' R.length cap') ∧ M.map Rm.r = Ct.order (R.map Rm.r) ∧ (w'.ownsRow w.heap.size 95 10 (.slice A' R.length cap') R.length (M.flatMap Rm.cells) ∧ (∀ m ∈ M, m ∈ R) ∧ M.length = R.length) ∧ Below w.heap.size w w' := by
  have HR := Stow.mk h
  obtain ⟨n, hnn⟩ : ∃ n, R.length = n := ⟨_, rfl⟩
  have HNL := Stow.mk hnn
  rw [hnn] at hn ⊢
  clear h hnn
  go_enter Tryz.func106, Tryz.ntmps106
  go_wp2_with fail
  go_loopw [3, 4, 5, 6] (fun o u _ _ wr => ∃ i : Nat, u = .int .i64 (i : Int) ∧ i ≤ n ∧ Stow (∃ M : List Rm, M.length = i ∧ wr.ownsRow w.heap.size 95 10 o M.length (M.flatMap Rm.cells) ∧ M.map Rm.r = Ct.order ((R.take i).map Rm.r) ∧ ∀ m ∈ M, m ∈ R) ∧ Stow (Below w.heap.size w wr)) (fun _ u _ _ _ => n - (intOf u).toNat)
  case atStart => exact ⟨0, rfl, by omega, ⟨[], rfl, World.ownsRow_nil _ _ _ _, rfl, by simp⟩, ⟨Below.self _⟩⟩
  case round =>
    obtain ⟨i, rfl, hi, HM, HB⟩ := hrel
    by_cases hlt : i < n
    · have hlR : i < R.length := by rw [HNL.out]; exact hlt
      obtain ⟨b, off, rfl, hblt, _⟩ := SlR.open HR.out.row (by simp; omega)
      obtain ⟨M, hMl, hMo, hMr, hMs⟩ := HM.out
      obtain ⟨Ao, co, rfl⟩ := own_form hMo
      obtain ⟨x, hx⟩ : ∃ x, R[i] = x := ⟨_, rfl⟩
      have HX := Stow.mk hx
      have HMO := Stow.mk hMo
      have HML := Stow.mk hMl
      have HMR := Stow.mk hMr
      have HMS := Stow.mk hMs
      have HFL : Stow (Ct.Falls (M.map Rm.r)) := ⟨by rw [hMr]; exact Ct.order_falls _⟩
      obtain ⟨q, hq⟩ : ∃ q, M.length = q := ⟨_, rfl⟩
      have HQL := Stow.mk hq
      rw [hq] at HMO hMl ⊢
      have hqi : q ≤ 1000 := by omega
      have hii : (i : Int) < n := by omega
      have hi0 : (0 : Int) ≤ i := by omega
      have HB0 := HB
      clear hx hMo hMr hMs HM hq hMl
      go_wp2_with fail
      go_loopw [5] (fun u wi => ∃ a : Nat, u = .int .i64 (a : Int) ∧ a ≤ q ∧ Stow (∀ z ∈ M.take a, x.r.rank ≤ z.r.rank) ∧ Stow (wi.ownsRow w.heap.size 95 10 (.slice Ao q co) q (M.flatMap Rm.cells)) ∧ Stow (Below w.heap.size w wi)) (fun u _ => q - (intOf u).toNat)
      case atStart => exact ⟨0, rfl, by omega, ⟨by simp⟩, HMO, HB⟩
      case round =>
        obtain ⟨a, rfl, ha, HZ, HO, HBI⟩ := hrel
        by_cases haq : a < q
        · have haM : a < M.length := by rw [HQL.out]; exact haq
          obtain ⟨gm, cm, hform, hge, hgl⟩ := World.ownsRow.form HO.out (by omega)
          simp only [Value.slice.injEq, true_and] at hform
          obtain ⟨rfl, rfl⟩ := hform
          have hra := (rm_at (own_of_cells (fun _ => rfl) HO.out HQL.out.symm) haM).2
          have hrx := (rm_at (SlR.keep HR.out.row HBI.out) hlR).2
          rw [HX.out] at hrx
          obtain ⟨z, hz⟩ : ∃ z, M[a] = z := ⟨_, rfl⟩
          rw [hz] at hra
          have HZA : Stow (M[a]? = some z) := ⟨by rw [List.getElem?_eq_getElem haM, hz]⟩
          have z0 : wr.cell? ⟨gm, a * 10, none⟩ = some (.int .i64 z.r.rank) := by have := hra 0 _ rfl; simpa using this
          have x0 : wr.cell? ⟨b, off + i * 10, none⟩ = some (.int .i64 x.r.rank) := hrx 0 _ rfl
          have hai : (a : Int) < q := by omega
          have ha0 : (0 : Int) ≤ a := by omega
          have dd : decide ((a : Int) < (q : Int)) = true := by simpa using hai
          obtain ⟨zr, hzr⟩ : ∃ r, z.r.rank = r := ⟨_, rfl⟩
          obtain ⟨xr, hxr⟩ : ∃ r, x.r.rank = r := ⟨_, rfl⟩
          rw [hzr] at z0
          rw [hxr] at x0
          have HZR := Stow.mk hzr
          have HXR := Stow.mk hxr
          clear hra hrx hz hzr hxr
          by_cases hle : xr ≤ zr
          · have dle : decide (xr ≤ zr) = true := by simpa using hle
            go_upto_region 6 with fail
            go_quiet (fail)
            clear z0 x0
            have hbd := Below.drewN' (Below.self wr) nq
            have HO2 := Stow.mk (own_kept HO.out hbd)
            have HB2 := Stow.mk (HBI.out.trans (hbd.mono HBI.out.size))
            have HZ2 : Stow (∀ z ∈ M.take (a + 1), x.r.rank ≤ z.r.rank) := ⟨fun y hy => by
              rw [List.take_succ_eq_append_getElem haM] at hy
              rcases List.mem_append.1 hy with hy | hy
              · exact HZ.out y hy
              · simp only [List.mem_singleton] at hy
                subst hy
                obtain ⟨_, e⟩ := List.getElem?_eq_some_iff.1 HZA.out
                rw [e, HXR.out, HZR.out]
                exact hle⟩
            clear hbd
            go_wp2_with fail
            exact ⟨⟨a + 1, by simp, by omega, HZ2, HO2, HB2⟩, by simp [intOf]; omega⟩
          · have dle : decide (xr ≤ zr) = false := by simpa using hle
            have HSTOP : Stow (a = M.length ∨ ∃ y : Rm, M[a]? = some y ∧ y.r.rank < x.r.rank) := ⟨.inr ⟨z, HZA.out, by rw [HXR.out, HZR.out]; omega⟩⟩
            go_upto_region 6 with fail
            go_quiet (fail)
            clear z0 x0
            have hbd := Below.drewN' (Below.self wr) nq
            have HO8 := Stow.mk (own_kept HO.out hbd)
            have HB8 := Stow.mk (HBI.out.trans (hbd.mono HBI.out.size))
            have HSD : Stow (SlR (wr.drewN nq) 10 (.slice (some ⟨gm, a * 10, none⟩) (q - a) (co - a)) ((M.map Rm.cells).drop a)) := ⟨by
              have := (SlR.drop (own_of_cells (fun _ => rfl) HO8.out HQL.out.symm : SlR (wr.drewN nq) 10 (.slice (some ⟨gm, 0, none⟩) q co) (M.map Rm.cells)) a (by rw [List.length_map]; omega)).1
              rw [Nat.zero_add] at this
              exact this⟩
            clear hbd dle hle
            generalize wr.drewN nq = w8 at HO8 HB8 HSD ⊢
            have HS1 := Stow.mk ((own_of_cells (fun _ => rfl) HO8.out HQL.out.symm : SlR w8 10 (.slice (some ⟨gm, 0, none⟩) q co) (M.map Rm.cells)).take a (by rw [List.length_map, HQL.out]; omega))
            have HC0 := Stow.mk (own_cap0 HO8.out)
            obtain ⟨hqc, hcm⟩ : q ≤ co ∧ co ≤ maxLen := by
              obtain ⟨_, _, e, h1, h2⟩ := SlR.form (own_of_cells (fun _ => rfl) HO8.out HQL.out.symm : SlR w8 10 (.slice (some ⟨gm, 0, none⟩) q co) (M.map Rm.cells))
              simp only [Value.slice.injEq, List.length_map] at e h1
              obtain ⟨_, _, rfl⟩ := e
              exact ⟨by have := HQL.out; omega, h2⟩
            unfold maxLen at hcm
            have hac : (a : Int) ≤ co := by omega
            have hac2 : (a : Int) ≤ q := by omega
            have hqc2 : (q : Int) ≤ co := by omega
            have ha00 : (0 : Int) ≤ a := by omega
            have K1 : Stow (0 + a ≤ maxLen ∧ (0 + a) * 112 ≤ 140737488355328) := ⟨by unfold maxLen; omega, by omega⟩
            have K2 : Stow ((a + 1) * 112 ≤ 140737488355328 ∧ a + 1 ≤ maxLen) := ⟨by omega, by unfold maxLen; omega⟩
            have K3 : Stow (a + 1 + (q - a) ≤ maxLen ∧ (a + 1 + (q - a)) * 112 ≤ 140737488355328 ∧ a + 1 + (q - a) = q + 1) := ⟨by unfold maxLen; omega, by omega, by omega⟩
            have HXM : Stow (x ∈ R) := ⟨by rw [← HX.out]; exact List.getElem_mem hlR⟩
            go_upto_region 10 with (at_builtin; refine wpList_append_slr (World.ownsRow_nil w8 w8.heap.size 95 10) ((M.map Rm.cells).take a) (some ⟨gm, 0, none⟩) a co HS1.out HC0.out (fun x hx => rm_len10 x (List.mem_of_mem_take hx)) (fun x hx => rm_one10 x (List.mem_of_mem_take hx)) rfl (.tmp 32) (.tmp 35) 44 rfl Tryz.underlying44 info_rule rfl (by decide) rfl rfl K1.out.1 K1.out.2 (Nat.le_refl _) ?_; intro A4 c4 w4 h4 hg4 hb4; rw [Nat.zero_add] at h4 ⊢; have H4 := Stow.mk h4; have HG4 := Stow.mk hb4; clear h4 hg4 hb4)
            have HB4 := Stow.mk (HB8.out.trans (HG4.out.mono HB8.out.size))
            have hrx := (rm_at (SlR.keep HR.out.row HB4.out) hlR).2
            rw [HX.out] at hrx
            have HXC : Stow (∀ u ∈ x.cells, u.oneCell' = true) := ⟨Rm.one x⟩
            have HXL : Stow (M.map Rm.cells = M.map Rm.cells ∧ x.cells.length = 10) := ⟨rfl, rfl⟩
            have HLT4 := Stow.mk (SlR.keep HSD.out HG4.out)
            obtain ⟨⟨rank, ps, tg, ap, st, dp, dt, mp, mi, sm⟩, mA, mcap⟩ := x
            have q0 : w4.cell? ⟨b, off + i * 10, none⟩ = some (.int .i64 rank) := hrx 0 _ rfl
            have q1 := hrx 1 _ rfl
            have q2 := hrx 2 _ rfl
            have q3 := hrx 3 _ rfl
            have q4 := hrx 4 _ rfl
            have q5 := hrx 5 _ rfl
            have q6 := hrx 6 _ rfl
            have q7 := hrx 7 _ rfl
            have q8 := hrx 8 _ rfl
            have q9 := hrx 9 _ rfl
            simp only at q1 q2 q3 q4 q5 q6 q7 q8 q9
            clear hrx
            unfold Rm.cells at HXC
            simp only at HXC
            go_upto_region 11 with (at_builtin; refine wpList_append_elem_form w4 [.int .i64 rank, .slice mA ps.length mcap, .string (bs tg), .int .i64 ap, .int .i64 st, .int .i64 dp, .int .i64 dt, .int .i64 mp, .string (bs mi), .int .i64 sm] _ rfl (.tmp 37) (.tmp 42) 44 rfl w8.heap.size 95 _ 10 112 Tryz.underlying44 info_rule _ _ _ H4.out rfl _ rfl rfl rfl (by decide) rfl HXC.out K2.out.1 K2.out.2 HG4.out.size ?_; intro A5 c5 w5 h5 hg5 hb5 hs5; have H5 := Stow.mk h5; have HG5 := Stow.mk (HG4.out.trans hb5); clear h5 hg5 hb5 hs5)
            have HLT5 := Stow.mk (SlR.keep HSD.out HG5.out)
            clear q0 q1 q2 q3 q4 q5 q6 q7 q8 q9
            go_upto_region 12 with (at_builtin; refine wpList_append_slr H5.out ((M.map Rm.cells).drop a) (some ⟨gm, a * 10, none⟩) (q - a) (co - a) HLT5.out (fun h => by cases h) (fun x hx => rm_len10 x (List.mem_of_mem_drop hx)) (fun x hx => rm_one10 x (List.mem_of_mem_drop hx)) rfl (.tmp 44) (.tmp 47) 44 rfl Tryz.underlying44 info_rule rfl (by decide) rfl rfl K3.out.1 K3.out.2.1 HG5.out.size ?_; intro A6 c6 w6 h6 hg6 hb6; rw [K3.out.2.2] at h6 ⊢; have H6 := Stow.mk h6; have HG6 := Stow.mk (HG5.out.trans hb6); clear h6 hg6 hb6)
            have HE6 : Stow (∃ M' : List Rm, M'.length = i + 1 ∧ w6.ownsRow w.heap.size 95 10 (.slice A6 (q + 1) c6) M'.length (M'.flatMap Rm.cells) ∧ M'.map Rm.r = Ct.order ((R.take (i + 1)).map Rm.r) ∧ ∀ m ∈ M', m ∈ R) := ⟨by
              have hl : (M.take a ++ R[i] :: M.drop a).length = q + 1 := by
                have := HQL.out
                simp only [List.length_append, List.length_cons, List.length_take, List.length_drop]
                omega
              refine ⟨M.take a ++ R[i] :: M.drop a, ?_, ?_, ?_, ?_⟩
              · have h1 := HQL.out
                have h2 := HML.out
                rw [hl]
                omega
              · rw [hl, ← ro_flat, HX.out]
                exact World.ownsRow.mono H6.out HB8.out.size
              · rw [HX.out, Ct.ins_put HFL.out HZ.out HSTOP.out, HMR.out, List.map_take, List.map_take, Ct.order_take (by rw [List.length_map]; exact hlR), List.getElem_map, HX.out]
              · intro m hm
                rcases List.mem_append.1 hm with hm | hm
                · exact HMS.out m (List.mem_of_mem_take hm)
                · rcases List.mem_cons.1 hm with rfl | hm
                  · exact List.getElem_mem hlR
                  · exact HMS.out m (List.mem_of_mem_drop hm)⟩
            have HB6 := Stow.mk (HB8.out.trans (HG6.out.mono HB8.out.size))
            clear H4 H5 H6 HG4 HG5 HG6 HLT4 HLT5 HS1 HSD HXC HXL HXM
            go_wp2_with fail
            exact ⟨⟨i + 1, by simp, by omega, HE6, HB6⟩, by simp [intOf]; omega⟩
        · have hai : ¬ (a : Int) < q := by omega
          have dd : decide ((a : Int) < (q : Int)) = false := by simpa using hai
          have HSTOP : Stow (a = M.length ∨ ∃ y : Rm, M[a]? = some y ∧ y.r.rank < x.r.rank) := ⟨.inl (by rw [HQL.out]; omega)⟩
          go_upto_region 6 with fail
          go_quiet (fail)
          have hbd := Below.drewN' (Below.self wr) nq
          have HO8 := Stow.mk (own_kept HO.out hbd)
          have HB8 := Stow.mk (HBI.out.trans (hbd.mono HBI.out.size))
          clear hbd dd
          rcases Ao with _ | ad
          · have HSD : Stow (SlR (wr.drewN nq) 10 (.slice none 0 0) ((M.map Rm.cells).drop 0)) := ⟨by
              have hq0 : q = 0 := by
                rcases HO8.out.2 with ⟨h1, _⟩ | ⟨g, cap', cur, hv, _⟩
                · simp only [Value.slice.injEq] at h1; exact h1.2.1
                · cases hv
              obtain rfl := List.eq_nil_of_length_eq_zero (HQL.out.trans hq0)
              exact SlR.nil _ _⟩
            have hz0 := own_cap0 HO8.out rfl
            have hq0 : q = 0 := by
              rcases HO8.out.2 with ⟨h1, _⟩ | ⟨g, cap', cur, hv, _⟩
              · simp only [Value.slice.injEq] at h1; exact h1.2.1
              · cases hv
            subst hz0 hq0
            obtain rfl : a = 0 := by omega
            generalize wr.drewN nq = w8 at HO8 HB8 HSD ⊢
            have HS1 := Stow.mk ((own_of_cells (fun _ => rfl) HO8.out HQL.out.symm : SlR w8 10 (.slice none 0 0) (M.map Rm.cells)).take 0 (by rw [List.length_map, HQL.out]; omega))
            have HC0 := Stow.mk (own_cap0 HO8.out)
            obtain ⟨hqc, hcm⟩ : 0 ≤ 0 ∧ 0 ≤ maxLen := by
              obtain ⟨_, _, e, h1, h2⟩ := SlR.form (own_of_cells (fun _ => rfl) HO8.out HQL.out.symm : SlR w8 10 (.slice none 0 0) (M.map Rm.cells))
              simp only [Value.slice.injEq, List.length_map] at e h1
              obtain ⟨_, _, rfl⟩ := e
              exact ⟨by have := HQL.out; omega, h2⟩
            unfold maxLen at hcm
            have hac : (0 : Int) ≤ 0 := by omega
            have hac2 : (0 : Int) ≤ 0 := by omega
            have hqc2 : (0 : Int) ≤ 0 := by omega
            have ha00 : (0 : Int) ≤ 0 := by omega
            have K1 : Stow (0 + 0 ≤ maxLen ∧ (0 + 0) * 112 ≤ 140737488355328) := ⟨by unfold maxLen; omega, by omega⟩
            have K2 : Stow ((0 + 1) * 112 ≤ 140737488355328 ∧ 0 + 1 ≤ maxLen) := ⟨by omega, by unfold maxLen; omega⟩
            have K3 : Stow (0 + 1 + 0 ≤ maxLen ∧ (0 + 1 + 0) * 112 ≤ 140737488355328 ∧ 0 + 1 + 0 = 0 + 1) := ⟨by unfold maxLen; omega, by omega, by omega⟩
            have HXM : Stow (x ∈ R) := ⟨by rw [← HX.out]; exact List.getElem_mem hlR⟩
            go_upto_region 10 with (at_builtin; refine wpList_append_slr (World.ownsRow_nil w8 w8.heap.size 95 10) ((M.map Rm.cells).take 0) none 0 0 HS1.out HC0.out (fun x hx => rm_len10 x (List.mem_of_mem_take hx)) (fun x hx => rm_one10 x (List.mem_of_mem_take hx)) rfl (.tmp 32) (.tmp 35) 44 rfl Tryz.underlying44 info_rule rfl (by decide) rfl rfl K1.out.1 K1.out.2 (Nat.le_refl _) ?_; intro A4 c4 w4 h4 hg4 hb4; rw [Nat.zero_add] at h4 ⊢; have H4 := Stow.mk h4; have HG4 := Stow.mk hb4; clear h4 hg4 hb4)
            have HB4 := Stow.mk (HB8.out.trans (HG4.out.mono HB8.out.size))
            have hrx := (rm_at (SlR.keep HR.out.row HB4.out) hlR).2
            rw [HX.out] at hrx
            have HXC : Stow (∀ u ∈ x.cells, u.oneCell' = true) := ⟨Rm.one x⟩
            have HXL : Stow (M.map Rm.cells = M.map Rm.cells ∧ x.cells.length = 10) := ⟨rfl, rfl⟩
            have HLT4 := Stow.mk (SlR.keep HSD.out HG4.out)
            obtain ⟨⟨rank, ps, tg, ap, st, dp, dt, mp, mi, sm⟩, mA, mcap⟩ := x
            have q0 : w4.cell? ⟨b, off + i * 10, none⟩ = some (.int .i64 rank) := hrx 0 _ rfl
            have q1 := hrx 1 _ rfl
            have q2 := hrx 2 _ rfl
            have q3 := hrx 3 _ rfl
            have q4 := hrx 4 _ rfl
            have q5 := hrx 5 _ rfl
            have q6 := hrx 6 _ rfl
            have q7 := hrx 7 _ rfl
            have q8 := hrx 8 _ rfl
            have q9 := hrx 9 _ rfl
            simp only at q1 q2 q3 q4 q5 q6 q7 q8 q9
            clear hrx
            unfold Rm.cells at HXC
            simp only at HXC
            go_upto_region 11 with (at_builtin; refine wpList_append_elem_form w4 [.int .i64 rank, .slice mA ps.length mcap, .string (bs tg), .int .i64 ap, .int .i64 st, .int .i64 dp, .int .i64 dt, .int .i64 mp, .string (bs mi), .int .i64 sm] _ rfl (.tmp 37) (.tmp 42) 44 rfl w8.heap.size 95 _ 10 112 Tryz.underlying44 info_rule _ _ _ H4.out rfl _ rfl rfl rfl (by decide) rfl HXC.out K2.out.1 K2.out.2 HG4.out.size ?_; intro A5 c5 w5 h5 hg5 hb5 hs5; have H5 := Stow.mk h5; have HG5 := Stow.mk (HG4.out.trans hb5); clear h5 hg5 hb5 hs5)
            have HLT5 := Stow.mk (SlR.keep HSD.out HG5.out)
            clear q0 q1 q2 q3 q4 q5 q6 q7 q8 q9
            go_upto_region 12 with (at_builtin; refine wpList_append_slr H5.out ((M.map Rm.cells).drop 0) none 0 0 HLT5.out (fun h => rfl) (fun x hx => rm_len10 x (List.mem_of_mem_drop hx)) (fun x hx => rm_one10 x (List.mem_of_mem_drop hx)) rfl (.tmp 44) (.tmp 47) 44 rfl Tryz.underlying44 info_rule rfl (by decide) rfl rfl K3.out.1 K3.out.2.1 HG5.out.size ?_; intro A6 c6 w6 h6 hg6 hb6; rw [K3.out.2.2] at h6 ⊢; have H6 := Stow.mk h6; have HG6 := Stow.mk (HG5.out.trans hb6); clear h6 hg6 hb6)
            have HE6 : Stow (∃ M' : List Rm, M'.length = i + 1 ∧ w6.ownsRow w.heap.size 95 10 (.slice A6 (0 + 1) c6) M'.length (M'.flatMap Rm.cells) ∧ M'.map Rm.r = Ct.order ((R.take (i + 1)).map Rm.r) ∧ ∀ m ∈ M', m ∈ R) := ⟨by
              have hl : (M.take 0 ++ R[i] :: M.drop 0).length = 0 + 1 := by
                have := HQL.out
                simp only [List.length_append, List.length_cons, List.length_take, List.length_drop]
                omega
              refine ⟨M.take 0 ++ R[i] :: M.drop 0, ?_, ?_, ?_, ?_⟩
              · have h1 := HQL.out
                have h2 := HML.out
                rw [hl]
                omega
              · rw [hl, ← ro_flat, HX.out]
                exact World.ownsRow.mono H6.out HB8.out.size
              · rw [HX.out, Ct.ins_put HFL.out HZ.out HSTOP.out, HMR.out, List.map_take, List.map_take, Ct.order_take (by rw [List.length_map]; exact hlR), List.getElem_map, HX.out]
              · intro m hm
                rcases List.mem_append.1 hm with hm | hm
                · exact HMS.out m (List.mem_of_mem_take hm)
                · rcases List.mem_cons.1 hm with rfl | hm
                  · exact List.getElem_mem hlR
                  · exact HMS.out m (List.mem_of_mem_drop hm)⟩
            have HB6 := Stow.mk (HB8.out.trans (HG6.out.mono HB8.out.size))
            clear H4 H5 H6 HG4 HG5 HG6 HLT4 HLT5 HS1 HSD HXC HXL HXM
            go_wp2_with fail
            exact ⟨⟨i + 1, by simp, by omega, HE6, HB6⟩, by simp [intOf]; omega⟩
          · obtain ⟨gm, cm, hform, hge, hgl⟩ : ∃ gm cm, Value.slice (some ad) q co = .slice (some ⟨gm, 0, none⟩) q cm ∧ w.heap.size ≤ gm ∧ gm < (wr.drewN nq).heap.size := by
              rcases HO8.out.2 with ⟨h1, _⟩ | ⟨g, cap', cur, hv, hb, hg, _⟩
              · cases h1
              · exact ⟨g, cap', hv, hb, (Array.getElem?_eq_some_iff.1 hg).1⟩
            simp only [Value.slice.injEq, true_and, Option.some.injEq] at hform
            obtain ⟨rfl, rfl⟩ := hform
            obtain rfl : a = q := by omega
            have HDN : Stow ((M.map Rm.cells).drop a = []) := ⟨List.drop_eq_nil_of_le (by rw [List.length_map, HQL.out]; exact Nat.le_refl _)⟩
            by_cases hcq : co = a
            · subst hcq
              have HSD : Stow (SlR (wr.drewN nq) 10 (.slice (some ⟨gm, 0, none⟩) 0 0) ((M.map Rm.cells).drop co)) := ⟨by
                rw [HDN.out]
                exact ⟨_, _, rfl, Nat.le_refl _, by unfold maxLen; omega, fun h => absurd rfl h⟩⟩
              generalize wr.drewN nq = w8 at HO8 HB8 HSD ⊢
              have HS1 := Stow.mk ((own_of_cells (fun _ => rfl) HO8.out HQL.out.symm : SlR w8 10 (.slice (some ⟨gm, 0, none⟩) co co) (M.map Rm.cells)).take co (by rw [List.length_map, HQL.out]; omega))
              have HC0 := Stow.mk (own_cap0 HO8.out)
              obtain ⟨hqc, hcm⟩ : co ≤ co ∧ co ≤ maxLen := by
                obtain ⟨_, _, e, h1, h2⟩ := SlR.form (own_of_cells (fun _ => rfl) HO8.out HQL.out.symm : SlR w8 10 (.slice (some ⟨gm, 0, none⟩) co co) (M.map Rm.cells))
                simp only [Value.slice.injEq, List.length_map] at e h1
                obtain ⟨_, _, rfl⟩ := e
                exact ⟨by have := HQL.out; omega, h2⟩
              unfold maxLen at hcm
              have hac : (co : Int) ≤ co := by omega
              have hac2 : (co : Int) ≤ co := by omega
              have hqc2 : (co : Int) ≤ co := by omega
              have ha00 : (0 : Int) ≤ co := by omega
              have K1 : Stow (0 + co ≤ maxLen ∧ (0 + co) * 112 ≤ 140737488355328) := ⟨by unfold maxLen; omega, by omega⟩
              have K2 : Stow ((co + 1) * 112 ≤ 140737488355328 ∧ co + 1 ≤ maxLen) := ⟨by omega, by unfold maxLen; omega⟩
              have K3 : Stow (co + 1 + 0 ≤ maxLen ∧ (co + 1 + 0) * 112 ≤ 140737488355328 ∧ co + 1 + 0 = co + 1) := ⟨by unfold maxLen; omega, by omega, by omega⟩
              have HXM : Stow (x ∈ R) := ⟨by rw [← HX.out]; exact List.getElem_mem hlR⟩
              go_upto_region 10 with (at_builtin; refine wpList_append_slr (World.ownsRow_nil w8 w8.heap.size 95 10) ((M.map Rm.cells).take co) (some ⟨gm, 0, none⟩) co co HS1.out HC0.out (fun x hx => rm_len10 x (List.mem_of_mem_take hx)) (fun x hx => rm_one10 x (List.mem_of_mem_take hx)) rfl (.tmp 32) (.tmp 35) 44 rfl Tryz.underlying44 info_rule rfl (by decide) rfl rfl K1.out.1 K1.out.2 (Nat.le_refl _) ?_; intro A4 c4 w4 h4 hg4 hb4; rw [Nat.zero_add] at h4 ⊢; have H4 := Stow.mk h4; have HG4 := Stow.mk hb4; clear h4 hg4 hb4)
              have HB4 := Stow.mk (HB8.out.trans (HG4.out.mono HB8.out.size))
              have hrx := (rm_at (SlR.keep HR.out.row HB4.out) hlR).2
              rw [HX.out] at hrx
              have HXC : Stow (∀ u ∈ x.cells, u.oneCell' = true) := ⟨Rm.one x⟩
              have HXL : Stow (M.map Rm.cells = M.map Rm.cells ∧ x.cells.length = 10) := ⟨rfl, rfl⟩
              have HLT4 := Stow.mk (SlR.keep HSD.out HG4.out)
              obtain ⟨⟨rank, ps, tg, ap, st, dp, dt, mp, mi, sm⟩, mA, mcap⟩ := x
              have q0 : w4.cell? ⟨b, off + i * 10, none⟩ = some (.int .i64 rank) := hrx 0 _ rfl
              have q1 := hrx 1 _ rfl
              have q2 := hrx 2 _ rfl
              have q3 := hrx 3 _ rfl
              have q4 := hrx 4 _ rfl
              have q5 := hrx 5 _ rfl
              have q6 := hrx 6 _ rfl
              have q7 := hrx 7 _ rfl
              have q8 := hrx 8 _ rfl
              have q9 := hrx 9 _ rfl
              simp only at q1 q2 q3 q4 q5 q6 q7 q8 q9
              clear hrx
              unfold Rm.cells at HXC
              simp only at HXC
              go_upto_region 11 with (at_builtin; refine wpList_append_elem_form w4 [.int .i64 rank, .slice mA ps.length mcap, .string (bs tg), .int .i64 ap, .int .i64 st, .int .i64 dp, .int .i64 dt, .int .i64 mp, .string (bs mi), .int .i64 sm] _ rfl (.tmp 37) (.tmp 42) 44 rfl w8.heap.size 95 _ 10 112 Tryz.underlying44 info_rule _ _ _ H4.out rfl _ rfl rfl rfl (by decide) rfl HXC.out K2.out.1 K2.out.2 HG4.out.size ?_; intro A5 c5 w5 h5 hg5 hb5 hs5; have H5 := Stow.mk h5; have HG5 := Stow.mk (HG4.out.trans hb5); clear h5 hg5 hb5 hs5)
              have HLT5 := Stow.mk (SlR.keep HSD.out HG5.out)
              clear q0 q1 q2 q3 q4 q5 q6 q7 q8 q9
              go_upto_region 12 with (at_builtin; refine wpList_append_slr H5.out ((M.map Rm.cells).drop co) (some ⟨gm, 0, none⟩) 0 0 HLT5.out (fun h => by cases h) (fun x hx => rm_len10 x (List.mem_of_mem_drop hx)) (fun x hx => rm_one10 x (List.mem_of_mem_drop hx)) rfl (.tmp 44) (.tmp 47) 44 rfl Tryz.underlying44 info_rule rfl (by decide) rfl rfl K3.out.1 K3.out.2.1 HG5.out.size ?_; intro A6 c6 w6 h6 hg6 hb6; rw [K3.out.2.2] at h6 ⊢; have H6 := Stow.mk h6; have HG6 := Stow.mk (HG5.out.trans hb6); clear h6 hg6 hb6)
              have HE6 : Stow (∃ M' : List Rm, M'.length = i + 1 ∧ w6.ownsRow w.heap.size 95 10 (.slice A6 (co + 1) c6) M'.length (M'.flatMap Rm.cells) ∧ M'.map Rm.r = Ct.order ((R.take (i + 1)).map Rm.r) ∧ ∀ m ∈ M', m ∈ R) := ⟨by
                have hl : (M.take co ++ R[i] :: M.drop co).length = co + 1 := by
                  have := HQL.out
                  simp only [List.length_append, List.length_cons, List.length_take, List.length_drop]
                  omega
                refine ⟨M.take co ++ R[i] :: M.drop co, ?_, ?_, ?_, ?_⟩
                · have h1 := HQL.out
                  have h2 := HML.out
                  rw [hl]
                  omega
                · rw [hl, ← ro_flat, HX.out]
                  exact World.ownsRow.mono H6.out HB8.out.size
                · rw [HX.out, Ct.ins_put HFL.out HZ.out HSTOP.out, HMR.out, List.map_take, List.map_take, Ct.order_take (by rw [List.length_map]; exact hlR), List.getElem_map, HX.out]
                · intro m hm
                  rcases List.mem_append.1 hm with hm | hm
                  · exact HMS.out m (List.mem_of_mem_take hm)
                  · rcases List.mem_cons.1 hm with rfl | hm
                    · exact List.getElem_mem hlR
                    · exact HMS.out m (List.mem_of_mem_drop hm)⟩
              have HB6 := Stow.mk (HB8.out.trans (HG6.out.mono HB8.out.size))
              clear H4 H5 H6 HG4 HG5 HG6 HLT4 HLT5 HS1 HSD HXC HXL HXM
              go_wp2_with fail
              exact ⟨⟨i + 1, by simp, by omega, HE6, HB6⟩, by simp [intOf]; omega⟩
            · have hcp : (0 : Int) < (co : Int) - a := by
                have h := SlR.form (own_of_cells (fun _ => rfl) HO8.out HQL.out.symm : SlR (wr.drewN nq) 10 (.slice (some ⟨gm, 0, none⟩) a co) (M.map Rm.cells))
                obtain ⟨_, _, e, h1, _⟩ := h
                simp only [Value.slice.injEq, List.length_map] at e h1
                obtain ⟨_, e2, e3⟩ := e
                omega
              have hcp2 : ¬ (co - a = 0) := by omega
              have HSD : Stow (SlR (wr.drewN nq) 10 (.slice (some ⟨gm, a * 10, none⟩) 0 (co - a)) ((M.map Rm.cells).drop a)) := ⟨by
                rw [HDN.out]
                exact ⟨_, _, rfl, Nat.zero_le _, by have := SlR.form (own_of_cells (fun _ => rfl) HO8.out HQL.out.symm : SlR (wr.drewN nq) 10 (.slice (some ⟨gm, 0, none⟩) a co) (M.map Rm.cells)); obtain ⟨_, _, e, _, h2⟩ := this; simp only [Value.slice.injEq] at e; omega, fun h => absurd rfl h⟩⟩
              generalize wr.drewN nq = w8 at HO8 HB8 HSD ⊢
              have HS1 := Stow.mk ((own_of_cells (fun _ => rfl) HO8.out HQL.out.symm : SlR w8 10 (.slice (some ⟨gm, 0, none⟩) a co) (M.map Rm.cells)).take a (by rw [List.length_map, HQL.out]; omega))
              have HC0 := Stow.mk (own_cap0 HO8.out)
              obtain ⟨hqc, hcm⟩ : a ≤ co ∧ co ≤ maxLen := by
                obtain ⟨_, _, e, h1, h2⟩ := SlR.form (own_of_cells (fun _ => rfl) HO8.out HQL.out.symm : SlR w8 10 (.slice (some ⟨gm, 0, none⟩) a co) (M.map Rm.cells))
                simp only [Value.slice.injEq, List.length_map] at e h1
                obtain ⟨_, _, rfl⟩ := e
                exact ⟨by have := HQL.out; omega, h2⟩
              unfold maxLen at hcm
              have hac : (a : Int) ≤ co := by omega
              have hac2 : (a : Int) ≤ a := by omega
              have hqc2 : (a : Int) ≤ co := by omega
              have ha00 : (0 : Int) ≤ a := by omega
              have K1 : Stow (0 + a ≤ maxLen ∧ (0 + a) * 112 ≤ 140737488355328) := ⟨by unfold maxLen; omega, by omega⟩
              have K2 : Stow ((a + 1) * 112 ≤ 140737488355328 ∧ a + 1 ≤ maxLen) := ⟨by omega, by unfold maxLen; omega⟩
              have K3 : Stow (a + 1 + 0 ≤ maxLen ∧ (a + 1 + 0) * 112 ≤ 140737488355328 ∧ a + 1 + 0 = a + 1) := ⟨by unfold maxLen; omega, by omega, by omega⟩
              have HXM : Stow (x ∈ R) := ⟨by rw [← HX.out]; exact List.getElem_mem hlR⟩
              go_upto_region 10 with (at_builtin; refine wpList_append_slr (World.ownsRow_nil w8 w8.heap.size 95 10) ((M.map Rm.cells).take a) (some ⟨gm, 0, none⟩) a co HS1.out HC0.out (fun x hx => rm_len10 x (List.mem_of_mem_take hx)) (fun x hx => rm_one10 x (List.mem_of_mem_take hx)) rfl (.tmp 32) (.tmp 35) 44 rfl Tryz.underlying44 info_rule rfl (by decide) rfl rfl K1.out.1 K1.out.2 (Nat.le_refl _) ?_; intro A4 c4 w4 h4 hg4 hb4; rw [Nat.zero_add] at h4 ⊢; have H4 := Stow.mk h4; have HG4 := Stow.mk hb4; clear h4 hg4 hb4)
              have HB4 := Stow.mk (HB8.out.trans (HG4.out.mono HB8.out.size))
              have hrx := (rm_at (SlR.keep HR.out.row HB4.out) hlR).2
              rw [HX.out] at hrx
              have HXC : Stow (∀ u ∈ x.cells, u.oneCell' = true) := ⟨Rm.one x⟩
              have HXL : Stow (M.map Rm.cells = M.map Rm.cells ∧ x.cells.length = 10) := ⟨rfl, rfl⟩
              have HLT4 := Stow.mk (SlR.keep HSD.out HG4.out)
              obtain ⟨⟨rank, ps, tg, ap, st, dp, dt, mp, mi, sm⟩, mA, mcap⟩ := x
              have q0 : w4.cell? ⟨b, off + i * 10, none⟩ = some (.int .i64 rank) := hrx 0 _ rfl
              have q1 := hrx 1 _ rfl
              have q2 := hrx 2 _ rfl
              have q3 := hrx 3 _ rfl
              have q4 := hrx 4 _ rfl
              have q5 := hrx 5 _ rfl
              have q6 := hrx 6 _ rfl
              have q7 := hrx 7 _ rfl
              have q8 := hrx 8 _ rfl
              have q9 := hrx 9 _ rfl
              simp only at q1 q2 q3 q4 q5 q6 q7 q8 q9
              clear hrx
              unfold Rm.cells at HXC
              simp only at HXC
              go_upto_region 11 with (at_builtin; refine wpList_append_elem_form w4 [.int .i64 rank, .slice mA ps.length mcap, .string (bs tg), .int .i64 ap, .int .i64 st, .int .i64 dp, .int .i64 dt, .int .i64 mp, .string (bs mi), .int .i64 sm] _ rfl (.tmp 37) (.tmp 42) 44 rfl w8.heap.size 95 _ 10 112 Tryz.underlying44 info_rule _ _ _ H4.out rfl _ rfl rfl rfl (by decide) rfl HXC.out K2.out.1 K2.out.2 HG4.out.size ?_; intro A5 c5 w5 h5 hg5 hb5 hs5; have H5 := Stow.mk h5; have HG5 := Stow.mk (HG4.out.trans hb5); clear h5 hg5 hb5 hs5)
              have HLT5 := Stow.mk (SlR.keep HSD.out HG5.out)
              clear q0 q1 q2 q3 q4 q5 q6 q7 q8 q9
              go_upto_region 12 with (at_builtin; refine wpList_append_slr H5.out ((M.map Rm.cells).drop a) (some ⟨gm, a * 10, none⟩) 0 (co - a) HLT5.out (fun h => by cases h) (fun x hx => rm_len10 x (List.mem_of_mem_drop hx)) (fun x hx => rm_one10 x (List.mem_of_mem_drop hx)) rfl (.tmp 44) (.tmp 47) 44 rfl Tryz.underlying44 info_rule rfl (by decide) rfl rfl K3.out.1 K3.out.2.1 HG5.out.size ?_; intro A6 c6 w6 h6 hg6 hb6; rw [K3.out.2.2] at h6 ⊢; have H6 := Stow.mk h6; have HG6 := Stow.mk (HG5.out.trans hb6); clear h6 hg6 hb6)
              have HE6 : Stow (∃ M' : List Rm, M'.length = i + 1 ∧ w6.ownsRow w.heap.size 95 10 (.slice A6 (a + 1) c6) M'.length (M'.flatMap Rm.cells) ∧ M'.map Rm.r = Ct.order ((R.take (i + 1)).map Rm.r) ∧ ∀ m ∈ M', m ∈ R) := ⟨by
                have hl : (M.take a ++ R[i] :: M.drop a).length = a + 1 := by
                  have := HQL.out
                  simp only [List.length_append, List.length_cons, List.length_take, List.length_drop]
                  omega
                refine ⟨M.take a ++ R[i] :: M.drop a, ?_, ?_, ?_, ?_⟩
                · have h1 := HQL.out
                  have h2 := HML.out
                  rw [hl]
                  omega
                · rw [hl, ← ro_flat, HX.out]
                  exact World.ownsRow.mono H6.out HB8.out.size
                · rw [HX.out, Ct.ins_put HFL.out HZ.out HSTOP.out, HMR.out, List.map_take, List.map_take, Ct.order_take (by rw [List.length_map]; exact hlR), List.getElem_map, HX.out]
                · intro m hm
                  rcases List.mem_append.1 hm with hm | hm
                  · exact HMS.out m (List.mem_of_mem_take hm)
                  · rcases List.mem_cons.1 hm with rfl | hm
                    · exact List.getElem_mem hlR
                    · exact HMS.out m (List.mem_of_mem_drop hm)⟩
              have HB6 := Stow.mk (HB8.out.trans (HG6.out.mono HB8.out.size))
              clear H4 H5 H6 HG4 HG5 HG6 HLT4 HLT5 HS1 HSD HXC HXL HXM
              go_wp2_with fail
              exact ⟨⟨i + 1, by simp, by omega, HE6, HB6⟩, by simp [intOf]; omega⟩
    · obtain rfl : i = n := by omega
      obtain ⟨M, h1, h2, h3, h4⟩ := HM.out
      have hii : ¬ (i : Int) < i := by omega
      have e1 : R.take i = R := List.take_of_length_le (by rw [HNL.out]; exact Nat.le_refl _)
      rw [e1] at h3
      rw [h1] at h2
      obtain ⟨Ao, co, rfl⟩ := own_form h2
      have HF : Stow (M.map Rm.r = Ct.order (R.map Rm.r) ∧ (wr.ownsRow w.heap.size 95 10 (.slice Ao i co) i (M.flatMap Rm.cells) ∧ (∀ m ∈ M, m ∈ R) ∧ M.length = i)) := ⟨h3, h2, h4, h1⟩
      clear h1 h2 h3 h4 HM e1
      go_wp2_with fail
      go_ret
      exact ⟨_, _, rfl, M, HF.out.1, HF.out.2, HB.out⟩
end Go.Proofs.YtfbhdkkmcfnghaaGreatDoor
end

section
namespace Go.Proofs.YtfbhdkkmcfnghaaGreatDoor
open Go.RowKit
set_option linter.unusedVariables false
set_option linter.unusedSimpArgs false

theorem rtb_results (W : World) (g : Nat) (a b c d : Value) (tmps : Array Value) (hH : Held W g [a, b, c]) (h2 : tmps[6]?.getD undef = .pointer (some ⟨g, 0, none⟩)) (h3 : tmps[7]?.getD undef = d) :
    (results Tryz.f55 tmps).run Tryz.prog W = .ok (.tuple #[.agg #[a, b, c], d]) W := by
  have c0 := hH.cell (i := 0) rfl
  have c1 := hH.cell (i := 1) rfl
  have c2 := hH.cell (i := 2) rfl
  simp [results, Tryz.results55, go_sem, h2, h3, c0, c1, c2]
set_option maxHeartbeats 4000000 in
set_option maxRecDepth 100000 in
theorem refCompile_ok (N : List (List UInt8)) (NA : Option Addr) (nc : Nat) (c : Cf) (A : Option Addr) (cap : Nat) (R : List Rm) (n : Int) (w : World) (hN : SlR w 1 (.slice NA N.length nc) (strs N)) (h : RsR w A cap R) (hc : c.rs = R.map Rm.r) (hk : Ct.check N c = 0) (hn : 1 ≤ n ∧ n ≤ 1099511627776) :
    Calls Tryz.prog 55 #[.agg #[.slice A R.length cap, .string (bs c.f)], .int .i64 n, .slice NA N.length nc] w fun e w' => ∃ A' cap', ∃ M : List Rm, e = .returned (.tuple #[.agg #[.int .i64 n, .slice A' R.length cap', .string (bs c.f)], .int .i64 0]) ∧ M.map Rm.r = Ct.order (R.map Rm.r) ∧ RsR w' A' cap' M ∧ Below w.heap.size w w' := by
  obtain ⟨hs1, hs2, hs3⟩ := Ct.check_small hk
  have hRl : R.length ≤ 16 := by rw [hc, List.length_map] at hs1; exact hs1
  have hba := Below.alloc' (Below.self w) (.cells #[.slice A R.length cap, .string (bs c.f)] 54)
  have hb := Below.call hba (Below.alloc' (Below.self (w.alloc (.cells #[.slice A R.length cap, .string (bs c.f)] 54))) (.cells #[.int .i64 0, .slice none 0 0, .string ⟨#[]⟩] 46))
  have hp := (Held.made w [.slice A R.length cap, .string (bs c.f)] 54).kept (Below.alloc' (Below.self (w.alloc (.cells #[.slice A R.length cap, .string (bs c.f)] 54))) (.cells #[.int .i64 0, .slice none 0 0, .string ⟨#[]⟩] 46))
  have hq := Held.made (w.alloc (.cells #[.slice A R.length cap, .string (bs c.f)] 54)) [.int .i64 0, .slice none 0 0, .string ⟨#[]⟩] 46
  obtain ⟨W, hW⟩ : ∃ W, (w.alloc (.cells #[.slice A R.length cap, .string (bs c.f)] 54)).alloc (.cells #[.int .i64 0, .slice none 0 0, .string ⟨#[]⟩] 46) = W := ⟨_, rfl⟩
  rw [show (w.alloc (.cells #[.slice A R.length cap, .string (bs c.f)] 54)).alloc (.cells [.int .i64 0, .slice none 0 0, .string ⟨#[]⟩].toArray 46) = W from hW] at hq
  rw [hW] at hp hb
  have hq : Held W (w.heap.size + 1) [.int .i64 0, .slice none 0 0, .string ⟨#[]⟩] := by simpa using hq
  have hsz : W.heap.size = w.heap.size + 1 + 1 := by rw [← hW]; simp
  have HP := Stow.mk hp
  have HQ := Stow.mk hq
  have HB := Stow.mk hb
  have HW := Stow.mk hW
  have HCK := Stow.mk (refTbCheck_any N NA nc c A cap R W (hN.keep hb) (h.keep hb) hc (by omega))
  rw [hk] at HCK
  have HR := Stow.mk h
  have HR0 := Stow.mk h
  have HSZ := Stow.mk hsz
  have HO := Stow.mk (fun V hv => refOrder_any A cap R V hv (by omega))
  have p0 := HP.out.cell (i := 0) rfl
  have p1 := HP.out.cell (i := 1) rfl
  have d1 : decide (n < 1) = false := by simp; omega
  have d2 : decide (1099511627776 < n) = false := by simp; omega
  clear hba hb hp hq hsz hW hN h hc hk hs1 hs2 hs3 hRl hn
  go_enter Tryz.func55, Tryz.ntmps55
  go_upto_region 1 with fail
  rw [HW.out]
  go_wp2_with fail
  refine HCK.out.mono ?_
  rintro e w1 ⟨rfl, hb1⟩
  have HP := Stow.mk (HP.out.kept hb1)
  have HQ := Stow.mk (HQ.out.kept hb1)
  have HSZ1 : Stow (w.heap.size + 1 + 1 ≤ w1.heap.size) := ⟨by rw [← HSZ.out]; exact hb1.size⟩
  have HB := Stow.mk (HB.out.trans (hb1.mono HB.out.size))
  have HR := Stow.mk (HR.out.keep HB.out)
  clear p0 p1 hb1 HCK HW HSZ d1 d2
  have p0 := HP.out.cell (i := 0) rfl
  have p1 := HP.out.cell (i := 1) rfl
  go_upto_region 5 with fail
  have hk1 := p0
  have hk2 := p1
  go_region_held3 (fun w' => w'.cell? ⟨w.heap.size, 0, none⟩ = some (.slice A R.length cap) ∧ w'.cell? ⟨w.heap.size, 1, none⟩ = some (.string (bs c.f))) (first | go_keep | exact ⟨hk1, hk2⟩)
    (first | (go_at_call 106; refine (HO.out _ (HR.out.keep (Below.drew (Below.self w1)))).mono ?_; rintro e w2 ⟨A2, c2, R2, rfl, he2, ⟨hO2, hM2, hL2⟩, hb2⟩; have hB2 : Below w1.heap.size w1 w2 := Below.call (Below.drew (Below.self w1)) hb2; have hH2 := HP.out.kept hB2; have hk1 := hH2.cell (i := 0) rfl; have hk2 := hH2.cell (i := 1) rfl; have hQ2 := HQ.out.kept hB2; have r0 := hQ2.cell (i := 0) rfl; have r1 := hQ2.cell (i := 1) rfl; have r2 := hQ2.cell (i := 2) rfl; have s0 := hQ2.free 0; have s1 := hQ2.free 1; have s2 := hQ2.free 2))
  have HN := Stow.mk (((hQ2.set 0 (.int .i64 n)).set 1 (.slice A2 R.length c2)).set 2 (.string (bs c.f)))
  have ho : Only (w.heap.size + 1) w2 (((w2.setCell ⟨w.heap.size + 1, 0, none⟩ (.int .i64 n)).setCell ⟨w.heap.size + 1, 1, none⟩ (.slice A2 R.length c2)).setCell ⟨w.heap.size + 1, 2, none⟩ (.string (bs c.f))) := ((Only.set _ _ 0 _).trans (Only.set _ _ 1 _)).trans (Only.set _ _ 2 _)
  have HB3 := Stow.mk ((HB.out.trans (hB2.mono HB.out.size)).trans (ho.below (Nat.le_succ _) (HB.out.trans (hB2.mono HB.out.size)).size))
  have HO3 : Stow (RsR (((w2.setCell ⟨w.heap.size + 1, 0, none⟩ (.int .i64 n)).setCell ⟨w.heap.size + 1, 1, none⟩ (.slice A2 R.length c2)).setCell ⟨w.heap.size + 1, 2, none⟩ (.string (bs c.f))) A2 c2 R2) := ⟨by
    have h1 : w.heap.size + 1 < w1.drew.heap.size := by have := HSZ1.out; show w.heap.size + 1 < w1.heap.size; omega
    have h2 := own_undr hO2 ho h1
    refine ⟨?_, fun m hm => (HR0.out.each m (hM2 m hm)).keep HB3.out⟩
    rw [hL2]
    exact own_of_cells (fun _ => rfl) h2 hL2.symm⟩
  have HE2 := Stow.mk he2
  clear hk1 hk2 hH2 hQ2 r0 r1 r2 s0 s1 s2 ho hO2 hM2 hL2 hb2 he2 p0 p1
  go_wp2_with fail
  refine bodyPost_ret (rtb_results _ (w.heap.size + 1) (.int .i64 n) (.slice A2 R.length c2) (.string (bs c.f)) (.int .i64 0) _ HN.out rfl rfl) rfl ?_
  exact ⟨A2, c2, R2, rfl, HE2.out, HO3.out, HB3.out⟩
set_option maxHeartbeats 2000000 in
set_option maxRecDepth 100000 in
theorem refTbSame_any (n : Int) (m : Nat) (R1 R2 : List Rm) (A1 A2 : Option Addr) (c1 c2 : Nat) (f : List UInt8) (w : World) (hm : R1.length = m) (h1 : RsR w A1 c1 R1) (h2 : RsR w A2 c2 R2) (he : R1.map Rm.r = R2.map Rm.r) :
    Calls Tryz.prog 22 #[.agg #[.int .i64 n, .slice A1 m c1, .string (bs f)], .agg #[.int .i64 n, .slice A2 m c2, .string (bs f)]] w fun e w' => e = .returned (.bool true) ∧ Below w.heap.size w w' := by
  have b1 := Below.alloc' (Below.self w) (.cells #[.int .i64 n, .slice A1 m c1, .string (bs f)] 46)
  have hb := Below.call b1 (Below.alloc' (Below.self (w.alloc (.cells #[.int .i64 n, .slice A1 m c1, .string (bs f)] 46))) (.cells #[.int .i64 n, .slice A2 m c2, .string (bs f)] 46))
  have HB := Stow.mk hb
  have HS := Stow.mk (rsSame_any m R1 R2 A1 A2 c1 c2 _ hm (h1.keep hb) (h2.keep hb) he)
  clear b1 hb hm h1 h2 he
  go_enter Tryz.func22, Tryz.ntmps22
  go_wp2_with fail
  refine HS.out.mono ?_
  rintro e w1 ⟨rfl, hb1⟩
  have HB1 := Stow.mk (HB.out.trans (hb1.mono HB.out.size))
  clear hb1
  go_wp2_with fail
  go_ret
  exact ⟨rfl, HB1.out⟩
set_option maxHeartbeats 2000000 in
set_option maxRecDepth 100000 in
theorem refWhole_yes (N : List (List UInt8)) (NA : Option Addr) (nc : Nat) (t : Tm) (w : World) (hN : SlR w 1 (.slice NA N.length nc) (strs N)) (h : RsR w t.A t.cap t.R) (hk : Ct.check N t.c = 0) (hf : Ct.Falls t.c.rs) (hn : 1 ≤ t.n ∧ t.n ≤ 1000) :
    Calls Tryz.prog 21 #[.agg t.cells.toArray, .slice NA N.length nc] w fun e w' => e = .returned (.bool true) ∧ Below w.heap.size w w' := by
  obtain ⟨n, A, cap, R, f⟩ := t
  have hb := Below.alloc' (Below.self w) (.cells #[.int .i64 (n : Int), .slice A R.length cap, .string (bs f)] 46)
  have hX := Held.made w [.int .i64 (n : Int), .slice A R.length cap, .string (bs f)] 46
  obtain ⟨W, hW⟩ : ∃ W, w.alloc (.cells #[.int .i64 (n : Int), .slice A R.length cap, .string (bs f)] 46) = W := ⟨_, rfl⟩
  rw [show w.alloc (.cells [.int .i64 (n : Int), .slice A R.length cap, .string (bs f)].toArray 46) = W from hW] at hX
  rw [hW] at hb
  simp only at hn h
  have HX := Stow.mk hX
  have HB := Stow.mk hb
  have HW := Stow.mk hW
  have HR := Stow.mk (h.keep hb)
  have HC := Stow.mk (refCompile_ok N NA nc ⟨R.map Rm.r, f⟩ A cap R (n : Int) W (hN.keep hb) (h.keep hb) rfl hk ⟨by omega, by omega⟩)
  have HF : Stow (Ct.order (R.map Rm.r) = R.map Rm.r) := ⟨Ct.order_same hf⟩
  simp only at HC
  rw [HF.out] at HC
  have x0 := HX.out.cell (i := 0) rfl
  have x1 := HX.out.cell (i := 1) rfl
  have x2 := HX.out.cell (i := 2) rfl
  unfold Tm.cells
  simp only
  clear hX hb hW hN h hk hf hn
  go_enter Tryz.func21, Tryz.ntmps21
  go_upto_region 1 with fail
  rw [HW.out]
  go_wp2_with fail
  refine HC.out.mono ?_
  rintro e w1 ⟨A1, c1, M, rfl, hM, hRM, hb1⟩
  have hbx := Below.alloc' (Below.self w1) (.cells #[.int .i64 (n : Int), .slice A1 R.length c1, .string (bs f)] 46)
  have hX1 := Held.made w1 [.int .i64 (n : Int), .slice A1 R.length c1, .string (bs f)] 46
  obtain ⟨W1, hW1⟩ : ∃ W, w1.alloc (.cells #[.int .i64 (n : Int), .slice A1 R.length c1, .string (bs f)] 46) = W := ⟨_, rfl⟩
  rw [show w1.alloc (.cells [.int .i64 (n : Int), .slice A1 R.length c1, .string (bs f)].toArray 46) = W1 from hW1] at hX1
  rw [hW1] at hbx
  have HX := Stow.mk ((HX.out.kept hb1).kept hbx)
  have HX1 := Stow.mk hX1
  have HS := Stow.mk (refTbSame_any (n : Int) R.length R M A A1 cap c1 f W1 rfl ((HR.out.keep hb1).keep hbx) (hRM.keep hbx) hM.symm)
  have HB := Stow.mk (HB.out.trans ((hb1.trans (hbx.mono hb1.size)).mono HB.out.size))
  have HW1 := Stow.mk hW1
  clear x0 x1 x2 hX1 hbx hW1 hb1 hRM hM HC
  have x0 := HX.out.cell (i := 0) rfl
  have x1 := HX.out.cell (i := 1) rfl
  have x2 := HX.out.cell (i := 2) rfl
  have y0 := HX1.out.cell (i := 0) rfl
  have y1 := HX1.out.cell (i := 1) rfl
  have y2 := HX1.out.cell (i := 2) rfl
  go_upto_region 2 with fail
  rw [HW1.out]
  go_wp2_with fail
  refine HS.out.mono ?_
  rintro e w2 ⟨rfl, hb2⟩
  have HB2 := Stow.mk (HB.out.trans (hb2.mono HB.out.size))
  clear hb2 x0 x1 x2 y0 y1 y2
  go_wp2_with fail
  go_ret
  exact ⟨rfl, HB2.out⟩
end Go.Proofs.YtfbhdkkmcfnghaaGreatDoor
end

section
namespace Go.Proofs.YtfbhdkkmcfnghaaGreatDoor
open Go.RowKit
set_option linter.unusedVariables false
set_option linter.unusedSimpArgs false

namespace Ct
def k1 : List UInt8 := [114, 117, 108, 101, 32, 49, 10, 116, 111, 32, 97, 10, 101, 110, 100, 10]
def k2 : List UInt8 := [114, 117, 108, 101, 32, 49, 10, 116, 111, 32, 98, 10, 101, 110, 100, 10]
def kp : Pl := ⟨[[97]], [], 0⟩
theorem k_why1 : why kp k1 = 0 := by decide +kernel
theorem k_why2 : why (publish kp k1) k2 = 7 := by decide +kernel
theorem k_why3 : why (publish (publish kp k1) k2) [120] = 3 := by decide +kernel
theorem k_bad : (publish (publish (publish kp k1) k2) [120]).bad = 2 := by decide +kernel
theorem k_len : (publish (publish (publish kp k1) k2) [120]).T.length = 1 := by decide +kernel
theorem k_rs : (publish (publish (publish kp k1) k2) [120]).T.map (fun t => t.rs.length) = [1] := by decide +kernel
end Ct
/-- A control plane whose blocks are none below B. -/
def PlB (B : Nat) (w : World) (g : Nat) (p : Ct.Pl) : Prop := ∃ P, PlM w P g p ∧ B ≤ g ∧ ∀ k, P k → B ≤ k
theorem PlB.keep {B : Nat} {w w' : World} {g : Nat} {p : Ct.Pl} (h : PlB B w g p) (hb : Below w.heap.size w w') : PlB B w' g p := let ⟨P, h1, h2⟩ := h; ⟨P, h1.keep hb, h2⟩
theorem ctNewB (B : Nat) (N : List (List UInt8)) (NA : Option Addr) (nc : Nat) (w : World) (hN : SlR w 1 (.slice NA N.length nc) (strs N)) (hl : N.length ≤ 1000) (hB : B ≤ w.heap.size) :
    Calls Tryz.prog 18 #[.slice NA N.length nc] w fun e w' => ∃ g, e = .returned (.pointer (some ⟨g, 0, none⟩)) ∧ PlB B w' g ⟨N, [], 0⟩ ∧ Below w.heap.size w w' := by
  refine (ctNew_any N NA nc w hN hl).mono ?_
  rintro e w' ⟨g, rfl, hg, hp, hb⟩
  exact ⟨g, rfl, ⟨_, hp, by omega, fun k hk => by have := hk.1; omega⟩, hb⟩
theorem ctPubB {B : Nat} {w : World} {g : Nat} {p : Ct.Pl} (h : PlB B w g p) (hB : B ≤ w.heap.size) (hok : p.Ok) (hbad : p.bad ≤ 1000000) (t : List UInt8) (ht : t.length ≤ 140737488355328) (hm : MaxIs w) (y n : Nat) (hy : Ct.why p t = y) (hn : (if y = 0 then p.T.length + 1 else 0) = n) :
    Calls Tryz.prog 19 #[.pointer (some ⟨g, 0, none⟩), .string (bs t)] w fun e w' => e = .returned (.tuple #[.int .i64 (n : Nat), .int .i64 (y : Nat)]) ∧ PlB B w' g (Ct.publish p t) ∧ Below B w w' := by
  subst hy hn
  obtain ⟨P, h1, h2, h3⟩ := h
  refine (ctPub_any h1 hok hbad t ht hm).mono ?_
  rintro e w' ⟨rfl, hp, ht⟩
  refine ⟨rfl, ⟨_, hp, h2, fun k hk => ?_⟩, ht.below (fun k hk => ?_) hB⟩
  · rcases hk with hk | hk
    · exact h3 k hk
    · omega
  · rcases hk with rfl | hk
    · exact h2
    · exact h3 k hk
set_option maxHeartbeats 4000000 in
set_option maxRecDepth 100000 in
theorem nothing18_any (w : World) : Calls Tryz.prog 48 #[] w fun e w' => e = .returned (.bool true) ∧ Below w.heap.size w w' := by
  have HP := Stow.mk (ctPub_nil [101, 110, 100, 10] w)
  have HA := Stow.mk (ctAt_nil 1 w)
  go_enter Tryz.func48, Tryz.ntmps48
  go_wp2_with fail
  refine HP.out.mono ?_
  rintro e w1 ⟨rfl, rfl⟩
  go_wp2_with fail
  refine HA.out.mono ?_
  rintro e w2 ⟨rfl, hb2⟩
  unfold Tm.cells tmZ
  have hbx := Below.alloc' (Below.self w2) (.cells #[.int .i64 0, .slice none 0 0, .string (bs [])] 46)
  have hX := Held.made w2 [.int .i64 0, .slice none 0 0, .string (bs [])] 46
  obtain ⟨W2, hW2⟩ : ∃ W, w2.alloc (.cells #[.int .i64 0, .slice none 0 0, .string (bs [])] 46) = W := ⟨_, rfl⟩
  rw [show w2.alloc (.cells [.int .i64 0, .slice none 0 0, .string (bs [])].toArray 46) = W2 from hW2] at hX
  rw [hW2] at hbx
  have HX := Stow.mk hX
  have HB := Stow.mk (hb2.trans (hbx.mono hb2.size))
  have HW := Stow.mk hW2
  have HS := Stow.mk (refTbSame_any 0 0 [] [] none none 0 0 [] W2 rfl (RsR.none _) (RsR.none _) rfl)
  have x0 := HX.out.cell (i := 0) rfl
  have x1 := HX.out.cell (i := 1) rfl
  have x2 := HX.out.cell (i := 2) rfl
  clear hX hbx hW2 hb2 HP HA
  go_upto_region 4 with fail
  rw [show w2.alloc _ = W2 from HW.out]
  go_wp2_with fail
  refine HS.out.mono ?_
  rintro e w3 ⟨rfl, hb3⟩
  have HB3 := Stow.mk (HB.out.trans (hb3.mono HB.out.size))
  clear hb3 x0 x1 x2
  go_wp2_with fail
  refine (ctVersions_nil _).mono ?_
  rintro e w4 ⟨rfl, rfl⟩
  go_wp2_with fail
  refine (ctRefused_nil _).mono ?_
  rintro e w4 ⟨rfl, rfl⟩
  go_wp2_with fail
  go_ret
  exact ⟨rfl, HB3.out⟩
set_option maxHeartbeats 4000000 in
set_option maxRecDepth 100000 in
theorem known18_any (w : World) (hm : MaxIs w) : Calls Tryz.prog 17 #[] w fun e w' => e = .returned (.bool true) ∧ Below w.heap.size w w' := by
  have hb0 := Below.alloc' (Below.self w) (.cells #[.string ⟨#[97]⟩] 9)
  have hH0 := Held.made w [.string ⟨#[97]⟩] 9
  obtain ⟨W0, hW0⟩ : ∃ W, w.alloc (.cells #[.string ⟨#[97]⟩] 9) = W := ⟨_, rfl⟩
  rw [show w.alloc (.cells [.string ⟨#[97]⟩].toArray 9) = W0 from hW0] at hH0
  rw [hW0] at hb0
  have hS0 : SlR W0 1 (.slice (some ⟨w.heap.size, 0, none⟩) 1 1) (strs [[97]]) := by
    refine ⟨_, _, rfl, Nat.le_refl _, by unfold maxLen; omega, fun _ => ⟨w.heap.size, 0, rfl, hH0.lt, fun i x hx j u hu => ?_⟩⟩
    rcases i with _ | i
    · simp only [strs, List.map_cons, List.map_nil, List.getElem?_cons_zero, Option.some.injEq] at hx
      subst hx
      rcases j with _ | j
      · simp only [List.getElem?_cons_zero, Option.some.injEq] at hu
        subst hu
        exact hH0.cell (i := 0) rfl
      · simp at hu
    · simp [strs] at hx
  have HN := Stow.mk (ctNewB w.heap.size [[97]] (some ⟨w.heap.size, 0, none⟩) 1 W0 hS0 (by simp) hb0.size)
  have HB := Stow.mk hb0
  have HM := Stow.mk (fun W (hb : Below w.heap.size w W) => hm.keep hb)
  have HW0 := Stow.mk hW0
  clear hb0 hH0 hW0 hS0 hm
  have ok0 := Ct.Pl.Ok.start [[97]]
  have HOK1 := Stow.mk (ok0.publish Ct.k1)
  have HOK2 := Stow.mk ((ok0.publish Ct.k1).publish Ct.k2)
  have HOK3 := Stow.mk (((ok0.publish Ct.k1).publish Ct.k2).publish [120])
  clear ok0
  go_enter Tryz.func17, Tryz.ntmps17
  go_upto_region 1 with fail
  go_wp2_with fail
  rw [HW0.out]
  refine HN.out.mono ?_
  rintro e w1 ⟨g, rfl, hP1, hb1⟩
  have hb1' := HB.out.trans (hb1.mono HB.out.size)
  have HB := Stow.mk hb1'
  have HC := Stow.mk (ctPubB hP1 HB.out.size (Ct.Pl.Ok.start _) (by simp) Ct.k1 (by decide) (HM.out _ HB.out) 0 1 Ct.k_why1 rfl)
  clear hP1 hb1 hb1' HN
  unfold Ct.k1 at HC
  go_wp2_with fail
  refine HC.out.mono ?_
  rintro e w2 ⟨rfl, hP2, hb2⟩
  have hb2' := HB.out.trans hb2
  have HB := Stow.mk hb2'
  have HC := Stow.mk (ctPubB hP2 HB.out.size HOK1.out (by decide +kernel) Ct.k2 (by decide) (HM.out _ HB.out) 7 0 Ct.k_why2 rfl)
  clear hP2 hb2 hb2'
  unfold Ct.k2 at HC
  go_wp2_with fail
  refine HC.out.mono ?_
  rintro e w3 ⟨rfl, hP3, hb3⟩
  have hb3' := HB.out.trans hb3
  have HB := Stow.mk hb3'
  have HC := Stow.mk (ctPubB hP3 HB.out.size HOK2.out (by decide +kernel) [120] (by decide) (HM.out _ HB.out) 3 0 Ct.k_why3 rfl)
  clear hP3 hb3 hb3'
  go_wp2_with fail
  refine HC.out.mono ?_
  rintro e w4 ⟨rfl, hP4, hb4⟩
  have hb4' := HB.out.trans hb4
  have HB := Stow.mk hb4'
  obtain ⟨q, hq⟩ : ∃ q, Ct.publish (Ct.publish (Ct.publish ⟨[[97]], [], 0⟩ Ct.k1) Ct.k2) [120] = q := ⟨_, rfl⟩
  have hq1 : q.T.length = 1 := by rw [← hq]; exact Ct.k_len
  have hq2 : q.bad = 2 := by rw [← hq]; exact Ct.k_bad
  have hq3 : q.T.map (fun t => t.rs.length) = [1] := by rw [← hq]; exact Ct.k_rs
  have HOK3 : Stow q.Ok := ⟨by rw [← hq]; exact HOK3.out⟩
  have hP4 : PlB w.heap.size w4 g q := by rw [← hq]; exact hP4
  have HP := Stow.mk hP4
  obtain ⟨P, hPM, _, _⟩ := hP4
  have hk0 : 0 < q.T.length := by omega
  have HC := Stow.mk (ctAt_yes hPM HOK3.out 0 hk0)
  have HQ := Stow.mk (And.intro hq1 (And.intro hq2 hq3))
  clear hb4 hb4' hq hq1 hq2 hq3 hPM HOK1 HOK2
  go_wp2_with fail
  refine HC.out.mono ?_
  rintro e w5 ⟨t, rfl, hn, hc, hN⟩
  have hrl : t.R.length = 1 := by
    have h1 := HQ.out.2.2
    have h2 := congrArg (fun c : Cf => c.rs.length) hc
    simp only [Tm.c, List.length_map] at h2
    rw [h2]
    have h3 : (q.T.map fun t => t.rs.length)[0]? = some 1 := by rw [h1]; rfl
    rw [List.getElem?_map, List.getElem?_eq_getElem hk0] at h3
    simpa using h3
  obtain ⟨tn, tA, tc, tR, tf⟩ := t
  simp only at hn hrl
  subst hn
  have hb5 := HB.out.trans (hN.below.mono HB.out.size)
  have hP5 := HP.out.keep hN.below
  unfold Tm.cells
  simp only [hrl]
  have hbx := Below.alloc' (Below.self w5) (.cells #[.int .i64 1, .slice tA 1 tc, .string (bs tf)] 46)
  have hX := Held.made w5 [.int .i64 1, .slice tA 1 tc, .string (bs tf)] 46
  obtain ⟨W5, hW5⟩ : ∃ W, w5.alloc (.cells #[.int .i64 1, .slice tA 1 tc, .string (bs tf)] 46) = W := ⟨_, rfl⟩
  rw [show w5.alloc (.cells [.int .i64 1, .slice tA 1 tc, .string (bs tf)].toArray 46) = W5 from hW5] at hX
  rw [hW5] at hbx
  have HX := Stow.mk hX
  have HP := Stow.mk (hP5.keep hbx)
  have HB := Stow.mk (hb5.trans (hbx.mono hb5.size))
  have HW5 := Stow.mk hW5
  obtain ⟨P', hPM, _, _⟩ := HP.out
  have HC := Stow.mk (ctAt_no hPM 2 (.inr (by rw [HQ.out.1]; decide)))
  clear hc hN hrl hb5 hP5 hbx hX hW5 hPM
  go_upto_region 8 with fail
  rw [show w5.alloc _ = W5 from HW5.out]
  go_wp2_with fail
  refine HC.out.mono ?_
  rintro e w6 ⟨rfl, hb6⟩
  unfold Tm.cells tmZ
  have HP := Stow.mk (HP.out.keep hb6)
  have HX := Stow.mk (HX.out.kept hb6)
  have hb6' := HB.out.trans (hb6.mono HB.out.size)
  have hby := Below.alloc' (Below.self w6) (.cells #[.int .i64 0, .slice none 0 0, .string (bs [])] 46)
  have HP := Stow.mk (HP.out.keep hby)
  have HX := Stow.mk (HX.out.kept hby)
  have HB := Stow.mk (hb6'.trans (hby.mono hb6'.size))
  clear hb6 hb6' hby HC HW5
  obtain ⟨P'', hPM, _, _⟩ := HP.out
  have HV := Stow.mk (ctVersions_any hPM)
  have HF := Stow.mk (ctRefused_any hPM)
  rw [HQ.out.1] at HV
  rw [HQ.out.2.1] at HF
  clear hPM
  go_upto_region 9 with fail
  generalize World.alloc w6 _ = W7 at HV HF HX HB ⊢
  have x0 := HX.out.cell (i := 0) rfl
  have x1 := HX.out.cell (i := 1) rfl
  go_wp2_with fail
  refine HV.out.mono ?_
  rintro e w8 ⟨rfl, rfl⟩
  go_wp2_with fail
  refine HF.out.mono ?_
  rintro e w8 ⟨rfl, rfl⟩
  go_wp2_with fail
  refine (nothing18_any _).mono ?_
  rintro e w9 ⟨rfl, hb9⟩
  have HB9 := Stow.mk (HB.out.trans (hb9.mono HB.out.size))
  clear hb9 x0 x1
  go_wp2_with fail
  go_ret
  exact ⟨rfl, HB9.out⟩
end Go.Proofs.YtfbhdkkmcfnghaaGreatDoor
end
