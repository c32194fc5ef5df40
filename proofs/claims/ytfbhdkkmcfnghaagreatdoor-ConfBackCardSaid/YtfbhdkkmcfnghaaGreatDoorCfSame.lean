/- Walks of the reference's Same on predicates, rules, configs, at alike ones, and of its Few. Conditions: slices' own. -/
import Derived.Test.YtfbhdkkmcfnghaaGreatDoorCfMem
namespace Go.Proofs.YtfbhdkkmcfnghaaGreatDoor
open Go.RowKit
set_option linter.unusedVariables false
set_option linter.unusedSimpArgs false

theorem eq_pd (d : Nat) (k : Int) (a b : ByteArray) (w : World) : (Op.equalIn (d + 2) 98 (.agg #[.int .i64 k, .string a, .string b]) (.agg #[.int .i64 k, .string a, .string b])).run Tryz.prog w = .ok true w := by
  have hu := Tryz.underlying98
  have hi := Tryz.underlying3
  have ht := Tryz.underlying9
  have hs : (Tryz.prog.info? 3).map (·.size) = some 1 := by kernel_rfl
  have hs2 : (Tryz.prog.info? 9).map (·.size) = some 1 := by kernel_rfl
  rw [show d + 2 = (d + 1) + 1 from rfl, Op.equalIn]
  simp [go_sem, run_underlying hu]
set_option maxHeartbeats 1000000 in
set_option maxRecDepth 100000 in
theorem pdsSame_any (L : List Pd) (A A' : Option Addr) (cap cap' : Nat) (w : World) (hS : SlR w 3 (.slice A L.length cap) (L.map Pd.cells)) (hS' : SlR w 3 (.slice A' L.length cap') (L.map Pd.cells)) :
    Calls Tryz.prog 146 #[.slice A L.length cap, .slice A' L.length cap'] w fun e w' => e = .returned (.bool true) ∧ Below w.heap.size w w' := by
  have HS := Stow.mk hS
  have HS' := Stow.mk hS'
  have hlen := hS.len
  simp only [List.length_map] at hlen
  clear hS hS'
  go_enter Tryz.func146, Tryz.ntmps146
  go_wp2_with fail
  go_loopw [5] (fun v wr => ∃ j : Nat, v = .int .i64 j ∧ j ≤ L.length ∧ Below w.heap.size w wr) (fun v _ => L.length - (intOf v).toNat)
  case atStart => exact ⟨0, rfl, by omega, Below.self _⟩
  case round =>
    obtain ⟨j, rfl, hj, hbr⟩ := hrel
    by_cases hlt : j < L.length
    · obtain ⟨b, off, rfl, hblt, _⟩ := HS.out.open (by simp; omega)
      obtain ⟨b', off', rfl, hblt', _⟩ := HS'.out.open (by simp; omega)
      obtain ⟨q0, q1, q2⟩ := pd_at (HS.out.keep hbr) hlt
      obtain ⟨p0, p1, p2⟩ := pd_at (HS'.out.keep hbr) hlt
      obtain ⟨s, hs⟩ : ∃ s, L[j] = s := ⟨_, rfl⟩
      rw [hs] at q0 q1 q2 p0 p1 p2
      clear hs
      obtain ⟨k, x, y⟩ := s
      simp only at q0 q1 q2 p0 p1 p2
      have hji : (j : Int) < L.length := by omega
      have heq : ∀ w', (Op.equalIn 10000 98 (.agg #[.int .i64 k, .string (bs x), .string (bs y)]) (.agg #[.int .i64 k, .string (bs x), .string (bs y)])).run Tryz.prog w' = .ok true w' := fun w' => eq_pd 9998 k _ _ w'
      go_wp2_with fail
      go_quiet (fail)
      go_wp2_with fail
      exact ⟨⟨j + 1, rfl, by omega, Below.drewN' hbr _⟩, by simp [intOf]; omega⟩
    · obtain rfl : j = L.length := by omega
      go_wp2_with fail
      go_ret
      exact ⟨rfl, hbr⟩
set_option maxHeartbeats 2000000 in
set_option maxRecDepth 100000 in
theorem ruSame_any (r : Ru) (A1 A2 : Option Addr) (c1 c2 : Nat) (w : World) (h1 : RmR w ⟨r, A1, c1⟩) (h2 : RmR w ⟨r, A2, c2⟩) :
    Calls Tryz.prog 107 #[.agg (Rm.cells ⟨r, A1, c1⟩).toArray, .agg (Rm.cells ⟨r, A2, c2⟩).toArray] w fun e w' => e = .returned (.bool true) ∧ Below w.heap.size w w' := by
  have hs1 := h1.row
  have hs2 := h2.row
  obtain ⟨rank, ps, tg, ap, st, dp, dt, mp, mi, sm⟩ := r
  unfold Rm.cells
  simp only at hs1 hs2 ⊢
  have hb1 := Below.alloc' (Below.self w) (.cells #[.int .i64 rank, .slice A1 ps.length c1, .string (bs tg), .int .i64 ap, .int .i64 st, .int .i64 dp, .int .i64 dt, .int .i64 mp, .string (bs mi), .int .i64 sm] 95)
  have hb2 := Below.alloc' (Below.self (w.alloc (.cells #[.int .i64 rank, .slice A1 ps.length c1, .string (bs tg), .int .i64 ap, .int .i64 st, .int .i64 dp, .int .i64 dt, .int .i64 mp, .string (bs mi), .int .i64 sm] 95))) (.cells #[.int .i64 rank, .slice A2 ps.length c2, .string (bs tg), .int .i64 ap, .int .i64 st, .int .i64 dp, .int .i64 dt, .int .i64 mp, .string (bs mi), .int .i64 sm] 95)
  have HB := Stow.mk (Below.call hb1 hb2)
  have HC := Stow.mk (pdsSame_any ps A1 A2 c1 c2 ((w.alloc (.cells #[.int .i64 rank, .slice A1 ps.length c1, .string (bs tg), .int .i64 ap, .int .i64 st, .int .i64 dp, .int .i64 dt, .int .i64 mp, .string (bs mi), .int .i64 sm] 95)).alloc (.cells #[.int .i64 rank, .slice A2 ps.length c2, .string (bs tg), .int .i64 ap, .int .i64 st, .int .i64 dp, .int .i64 dt, .int .i64 mp, .string (bs mi), .int .i64 sm] 95)) ((hs1.keep hb1).keep hb2) ((hs2.keep hb1).keep hb2))
  clear h1 h2 hs1 hs2 hb1 hb2
  go_enter Tryz.func107, Tryz.ntmps107
  go_wp2_with fail
  refine HC.out.mono ?_
  rintro e w3 ⟨rfl, hb3⟩
  have HB3 := Stow.mk (Below.call HB.out hb3)
  have hq := ((Held.made w [.int .i64 rank, .slice A1 ps.length c1, .string (bs tg), .int .i64 ap, .int .i64 st, .int .i64 dp, .int .i64 dt, .int .i64 mp, .string (bs mi), .int .i64 sm] 95).kept (Below.alloc' (Below.self _) (.cells #[.int .i64 rank, .slice A2 ps.length c2, .string (bs tg), .int .i64 ap, .int .i64 st, .int .i64 dp, .int .i64 dt, .int .i64 mp, .string (bs mi), .int .i64 sm] 95))).kept hb3
  have hp := (Held.made (w.alloc (.cells #[.int .i64 rank, .slice A1 ps.length c1, .string (bs tg), .int .i64 ap, .int .i64 st, .int .i64 dp, .int .i64 dt, .int .i64 mp, .string (bs mi), .int .i64 sm] 95)) [.int .i64 rank, .slice A2 ps.length c2, .string (bs tg), .int .i64 ap, .int .i64 st, .int .i64 dp, .int .i64 dt, .int .i64 mp, .string (bs mi), .int .i64 sm] 95).kept hb3
  have hp2 : Held w3 (w.heap.size + 1) [.int .i64 rank, .slice A2 ps.length c2, .string (bs tg), .int .i64 ap, .int .i64 st, .int .i64 dp, .int .i64 dt, .int .i64 mp, .string (bs mi), .int .i64 sm] := by simpa using hp
  have a0 := hq.cell (i := 0) rfl
  have b0 := hp2.cell (i := 0) rfl
  have a1 := hq.cell (i := 1) rfl
  have b1 := hp2.cell (i := 1) rfl
  have a2 := hq.cell (i := 2) rfl
  have b2 := hp2.cell (i := 2) rfl
  have a3 := hq.cell (i := 3) rfl
  have b3 := hp2.cell (i := 3) rfl
  have a4 := hq.cell (i := 4) rfl
  have b4 := hp2.cell (i := 4) rfl
  have a5 := hq.cell (i := 5) rfl
  have b5 := hp2.cell (i := 5) rfl
  have a6 := hq.cell (i := 6) rfl
  have b6 := hp2.cell (i := 6) rfl
  have a7 := hq.cell (i := 7) rfl
  have b7 := hp2.cell (i := 7) rfl
  have a8 := hq.cell (i := 8) rfl
  have b8 := hp2.cell (i := 8) rfl
  have a9 := hq.cell (i := 9) rfl
  have b9 := hp2.cell (i := 9) rfl
  clear hb3 hq hp hp2 HC HB
  go_wp2_with fail
  go_ret
  exact ⟨rfl, HB3.out⟩
set_option maxHeartbeats 2000000 in
set_option maxRecDepth 100000 in
theorem rsSame_any (n : Nat) (R1 R2 : List Rm) (A1 A2 : Option Addr) (c1 c2 : Nat) (w : World) (hn : R1.length = n) (h1 : RsR w A1 c1 R1) (h2 : RsR w A2 c2 R2) (he : R1.map Rm.r = R2.map Rm.r) :
    Calls Tryz.prog 56 #[.slice A1 n c1, .slice A2 n c2] w fun e w' => e = .returned (.bool true) ∧ Below w.heap.size w w' := by
  have hn2 : R2.length = n := by have := congrArg List.length he; simpa [hn] using this.symm
  have HS := Stow.mk h1
  have HS' := Stow.mk h2
  have hlen := h1.row.len
  simp only [List.length_map] at hlen
  have HE := Stow.mk he
  have HN := Stow.mk hn
  have HN2 := Stow.mk hn2
  have hln : n ≤ 9223372036854775807 := by omega
  clear h1 h2 he hn hn2 hlen
  go_enter Tryz.func56, Tryz.ntmps56
  go_wp2_with fail
  go_loopw [5] (fun v wr => ∃ j : Nat, v = .int .i64 j ∧ j ≤ n ∧ Stow (Below w.heap.size w wr)) (fun v _ => n - (intOf v).toNat)
  case atStart => exact ⟨0, rfl, by omega, ⟨Below.self _⟩⟩
  case round =>
    obtain ⟨j, rfl, hj, hbr⟩ := hrel
    by_cases hlt : j < n
    · have hl1 : j < R1.length := by rw [HN.out]; exact hlt
      have hl2 : j < R2.length := by rw [HN2.out]; exact hlt
      obtain ⟨b, off, rfl, hblt, _⟩ := SlR.open HS.out.row (by simp; omega)
      obtain ⟨b', off', rfl, hblt', _⟩ := SlR.open HS'.out.row (by simp; omega)
      have hra := (rm_at (SlR.keep HS.out.row hbr.out) hl1).2
      have hrb := (rm_at (SlR.keep HS'.out.row hbr.out) hl2).2
      have hm1 := (HS.out.each _ (List.getElem_mem hl1)).keep hbr.out
      have hm2 := (HS'.out.each _ (List.getElem_mem hl2)).keep hbr.out
      have hrr : R1[j].r = R2[j].r := by
        have h := HE.out
        have h1 : (R1.map Rm.r)[j]? = some R1[j].r := by rw [List.getElem?_map, List.getElem?_eq_getElem hl1]; rfl
        have h2 : (R2.map Rm.r)[j]? = some R2[j].r := by rw [List.getElem?_map, List.getElem?_eq_getElem hl2]; rfl
        rw [h, h2] at h1
        exact (Option.some.inj h1).symm
      obtain ⟨m1, he1⟩ : ∃ m, R1[j] = m := ⟨_, rfl⟩
      obtain ⟨m2, he2⟩ : ∃ m, R2[j] = m := ⟨_, rfl⟩
      rw [he1] at hra hm1 hrr
      rw [he2] at hrb hm2 hrr
      clear he1 he2
      obtain ⟨r1, B1, k1⟩ := m1
      obtain ⟨r2, B2, k2⟩ := m2
      simp only at hrr
      subst hrr
      have hc := ruSame_any r1 B1 B2 k1 k2 wr.drew (hm1.keep (Below.drew (Below.self wr))) (hm2.keep (Below.drew (Below.self wr)))
      obtain ⟨rank, ps, tg, ap, st, dp, dt, mp, mi, sm⟩ := r1
      have q0 : wr.cell? ⟨b, off + j * 10, none⟩ = some (.int .i64 rank) := hra 0 _ rfl
      have p0 : wr.cell? ⟨b', off' + j * 10, none⟩ = some (.int .i64 rank) := hrb 0 _ rfl
      have q1 : wr.cell? ⟨b, off + j * 10 + 1, none⟩ = some (.slice B1 ps.length k1) := hra 1 _ rfl
      have p1 : wr.cell? ⟨b', off' + j * 10 + 1, none⟩ = some (.slice B2 ps.length k2) := hrb 1 _ rfl
      have q2 : wr.cell? ⟨b, off + j * 10 + 2, none⟩ = some (.string (bs tg)) := hra 2 _ rfl
      have p2 : wr.cell? ⟨b', off' + j * 10 + 2, none⟩ = some (.string (bs tg)) := hrb 2 _ rfl
      have q3 : wr.cell? ⟨b, off + j * 10 + 3, none⟩ = some (.int .i64 ap) := hra 3 _ rfl
      have p3 : wr.cell? ⟨b', off' + j * 10 + 3, none⟩ = some (.int .i64 ap) := hrb 3 _ rfl
      have q4 : wr.cell? ⟨b, off + j * 10 + 4, none⟩ = some (.int .i64 st) := hra 4 _ rfl
      have p4 : wr.cell? ⟨b', off' + j * 10 + 4, none⟩ = some (.int .i64 st) := hrb 4 _ rfl
      have q5 : wr.cell? ⟨b, off + j * 10 + 5, none⟩ = some (.int .i64 dp) := hra 5 _ rfl
      have p5 : wr.cell? ⟨b', off' + j * 10 + 5, none⟩ = some (.int .i64 dp) := hrb 5 _ rfl
      have q6 : wr.cell? ⟨b, off + j * 10 + 6, none⟩ = some (.int .i64 dt) := hra 6 _ rfl
      have p6 : wr.cell? ⟨b', off' + j * 10 + 6, none⟩ = some (.int .i64 dt) := hrb 6 _ rfl
      have q7 : wr.cell? ⟨b, off + j * 10 + 7, none⟩ = some (.int .i64 mp) := hra 7 _ rfl
      have p7 : wr.cell? ⟨b', off' + j * 10 + 7, none⟩ = some (.int .i64 mp) := hrb 7 _ rfl
      have q8 : wr.cell? ⟨b, off + j * 10 + 8, none⟩ = some (.string (bs mi)) := hra 8 _ rfl
      have p8 : wr.cell? ⟨b', off' + j * 10 + 8, none⟩ = some (.string (bs mi)) := hrb 8 _ rfl
      have q9 : wr.cell? ⟨b, off + j * 10 + 9, none⟩ = some (.int .i64 sm) := hra 9 _ rfl
      have p9 : wr.cell? ⟨b', off' + j * 10 + 9, none⟩ = some (.int .i64 sm) := hrb 9 _ rfl
      unfold Rm.cells at hc
      simp only at hc
      have HC := Stow.mk hc
      have hji : (j : Int) < n := by omega
      have hj0 : (0 : Int) ≤ j := by omega
      clear hra hrb hm1 hm2 hc
      go_upto_region 6 with fail
      go_region_with (go_at_call 107; refine HC.out.mono ?_; rintro e w3 ⟨rfl, hb3⟩; have HB3 := Stow.mk (hbr.out.trans (((Below.drew (Below.self wr)).trans hb3).mono hbr.out.size)); clear hb3)
      all_goals
        go_wp2_with fail
        exact ⟨⟨j + 1, rfl, by omega, HB3⟩, by simp [intOf]; omega⟩
    · obtain rfl : j = n := by omega
      go_wp2_with fail
      go_ret
      exact ⟨rfl, hbr.out⟩
set_option maxHeartbeats 2000000 in
set_option maxRecDepth 100000 in
theorem cfSame_any (n : Nat) (R1 R2 : List Rm) (A1 A2 : Option Addr) (c1 c2 : Nat) (f : List UInt8) (w : World) (hn : R1.length = n) (h1 : RsR w A1 c1 R1) (h2 : RsR w A2 c2 R2) (he : R1.map Rm.r = R2.map Rm.r) :
    Calls Tryz.prog 32 #[.agg #[.slice A1 n c1, .string (bs f)], .agg #[.slice A2 n c2, .string (bs f)]] w fun e w' => e = .returned (.bool true) ∧ Below w.heap.size w w' := by
  have hb1 := Below.alloc' (Below.self w) (.cells #[.slice A1 n c1, .string (bs f)] 54)
  have hb2 := Below.alloc' (Below.self (w.alloc (.cells #[.slice A1 n c1, .string (bs f)] 54))) (.cells #[.slice A2 n c2, .string (bs f)] 54)
  have HB := Stow.mk (Below.call hb1 hb2)
  have HC := Stow.mk (rsSame_any n R1 R2 A1 A2 c1 c2 ((w.alloc (.cells #[.slice A1 n c1, .string (bs f)] 54)).alloc (.cells #[.slice A2 n c2, .string (bs f)] 54)) hn ((h1.keep hb1).keep hb2) ((h2.keep hb1).keep hb2) he)
  clear h1 h2 hb1 hb2 he hn
  go_enter Tryz.func32, Tryz.ntmps32
  go_wp2_with fail
  refine HC.out.mono ?_
  rintro e w3 ⟨rfl, hb3⟩
  have HB3 := Stow.mk (Below.call HB.out hb3)
  clear hb3 HC HB
  go_wp2_with fail
  go_ret
  exact ⟨rfl, HB3.out⟩
end Go.Proofs.YtfbhdkkmcfnghaaGreatDoor
