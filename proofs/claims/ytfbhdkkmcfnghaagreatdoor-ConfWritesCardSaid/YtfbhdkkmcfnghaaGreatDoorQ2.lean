/- Walks of the reference's Same on predicates, rules, configs, at alike ones, and of its Few. Conditions: slices' own.; Walks of what the laws ask of configs: Few. Conditions: slices' own; texts no longer than an address space.; Walk of the statements' known: fixed calls of a config's functions. Conditions: what the library's variables hold.; Walk of the statement: configs as texts, as the document says. Conditions: the config's memory; what the library's variables hold. -/
import Derived.Test.YtfbhdkkmcfnghaaGreatDoorCfMem
import Derived.Test.YtfbhdkkmcfnghaaGreatDoorCfRead
import Derived.Test.YtfbhdkkmcfnghaaGreatDoorCfWrite
import Derived.Test.YtfbhdkkmcfnghaaGreatDoorQ1

section
namespace Go.Proofs.YtfbhdkkmcfnghaaGreatDoor
open Go.RowKit
set_option linter.unusedVariables false
set_option linter.unusedSimpArgs false

theorem eq_pd (d : Nat) (k : Int) (a b : ByteArray) (w : World) : (Op.equalIn (d + 2) 98 (.agg #[.int .i64 k, .string a, .string b]) (.agg #[.int .i64 k, .string a, .string b])).run Tryz.prog w = .ok true w := by
  have hu := Tryz.underlying98
  have hi := Tryz.underlying3
  have ht := Tryz.underlying9
  have hs : (Tryz.prog.info? 3).map (·.size) = some 1 := by kernel_rfl
  have hs2 : (Tryz.prog.info? 9).map (·.size) = some 1 := by kernel_rfl
  rw [show d + 2 = (d + 1) + 1 from rfl, Op.equalIn]
  simp [go_sem, run_underlying hu]
set_option maxHeartbeats 1000000 in
set_option maxRecDepth 100000 in
theorem pdsSame_any (L : List Pd) (A A' : Option Addr) (cap cap' : Nat) (w : World) (hS : SlR w 3 (.slice A L.length cap) (L.map Pd.cells)) (hS' : SlR w 3 (.slice A' L.length cap') (L.map Pd.cells)) :
    Calls Tryz.prog 146 #[.slice A L.length cap, .slice A' L.length cap'] w fun e w' => e = .returned (.bool true) ∧ Below w.heap.size w w' := by
  have HS := Stow.mk hS
  have HS' := Stow.mk hS'
  have hlen := hS.len
  simp only [List.length_map] at hlen
  clear hS hS'
  go_enter Tryz.func146, Tryz.ntmps146
  go_wp2_with fail
  go_loopw [5] (fun v wr => ∃ j : Nat, v = .int .i64 j ∧ j ≤ L.length ∧ Below w.heap.size w wr) (fun v _ => L.length - (intOf v).toNat)
  case atStart => exact ⟨0, rfl, by omega, Below.self _⟩
  case round =>
    obtain ⟨j, rfl, hj, hbr⟩ := hrel
    by_cases hlt : j < L.length
    · obtain ⟨b, off, rfl, hblt, _⟩ := HS.out.open (by simp; omega)
      obtain ⟨b', off', rfl, hblt', _⟩ := HS'.out.open (by simp; omega)
      obtain ⟨q0, q1, q2⟩ := pd_at (HS.out.keep hbr) hlt
      obtain ⟨p0, p1, p2⟩ := pd_at (HS'.out.keep hbr) hlt
      obtain ⟨s, hs⟩ : ∃ s, L[j] = s := ⟨_, rfl⟩
      rw [hs] at q0 q1 q2 p0 p1 p2
      clear hs
      obtain ⟨k, x, y⟩ := s
      simp only at q0 q1 q2 p0 p1 p2
      have hji : (j : Int) < L.length := by omega
      have heq : ∀ w', (Op.equalIn 10000 98 (.agg #[.int .i64 k, .string (bs x), .string (bs y)]) (.agg #[.int .i64 k, .string (bs x), .string (bs y)])).run Tryz.prog w' = .ok true w' := fun w' => eq_pd 9998 k _ _ w'
      go_wp2_with fail
      go_quiet (fail)
      go_wp2_with fail
      exact ⟨⟨j + 1, rfl, by omega, Below.drewN' hbr _⟩, by simp [intOf]; omega⟩
    · obtain rfl : j = L.length := by omega
      go_wp2_with fail
      go_ret
      exact ⟨rfl, hbr⟩
set_option maxHeartbeats 2000000 in
set_option maxRecDepth 100000 in
theorem ruSame_any (r : Ru) (A1 A2 : Option Addr) (c1 c2 : Nat) (w : World) (h1 : RmR w ⟨r, A1, c1⟩) (h2 : RmR w ⟨r, A2, c2⟩) :
    Calls Tryz.prog 107 #[.agg (Rm.cells ⟨r, A1, c1⟩).toArray, .agg (Rm.cells ⟨r, A2, c2⟩).toArray] w fun e w' => e = .returned (.bool true) ∧ Below w.heap.size w w' := by
  have hs1 := h1.row
  have hs2 := h2.row
  obtain ⟨rank, ps, tg, ap, st, dp, dt, mp, mi, sm⟩ := r
  unfold Rm.cells
  simp only at hs1 hs2 ⊢
  have hb1 := Below.alloc' (Below.self w) (.cells #[.int .i64 rank, .slice A1 ps.length c1, .string (bs tg), .int .i64 ap, .int .i64 st, .int .i64 dp, .int .i64 dt, .int .i64 mp, .string (bs mi), .int .i64 sm] 95)
  have hb2 := Below.alloc' (Below.self (w.alloc (.cells #[.int .i64 rank, .slice A1 ps.length c1, .string (bs tg), .int .i64 ap, .int .i64 st, .int .i64 dp, .int .i64 dt, .int .i64 mp, .string (bs mi), .int .i64 sm] 95))) (.cells #[.int .i64 rank, .slice A2 ps.length c2, .string (bs tg), .int .i64 ap, .int .i64 st, .int .i64 dp, .int .i64 dt, .int .i64 mp, .string (bs mi), .int .i64 sm] 95)
  have HB := Stow.mk (Below.call hb1 hb2)
  have HC := Stow.mk (pdsSame_any ps A1 A2 c1 c2 ((w.alloc (.cells #[.int .i64 rank, .slice A1 ps.length c1, .string (bs tg), .int .i64 ap, .int .i64 st, .int .i64 dp, .int .i64 dt, .int .i64 mp, .string (bs mi), .int .i64 sm] 95)).alloc (.cells #[.int .i64 rank, .slice A2 ps.length c2, .string (bs tg), .int .i64 ap, .int .i64 st, .int .i64 dp, .int .i64 dt, .int .i64 mp, .string (bs mi), .int .i64 sm] 95)) ((hs1.keep hb1).keep hb2) ((hs2.keep hb1).keep hb2))
  clear h1 h2 hs1 hs2 hb1 hb2
  go_enter Tryz.func107, Tryz.ntmps107
  go_wp2_with fail
  refine HC.out.mono ?_
  rintro e w3 ⟨rfl, hb3⟩
  have HB3 := Stow.mk (Below.call HB.out hb3)
  have hq := ((Held.made w [.int .i64 rank, .slice A1 ps.length c1, .string (bs tg), .int .i64 ap, .int .i64 st, .int .i64 dp, .int .i64 dt, .int .i64 mp, .string (bs mi), .int .i64 sm] 95).kept (Below.alloc' (Below.self _) (.cells #[.int .i64 rank, .slice A2 ps.length c2, .string (bs tg), .int .i64 ap, .int .i64 st, .int .i64 dp, .int .i64 dt, .int .i64 mp, .string (bs mi), .int .i64 sm] 95))).kept hb3
  have hp := (Held.made (w.alloc (.cells #[.int .i64 rank, .slice A1 ps.length c1, .string (bs tg), .int .i64 ap, .int .i64 st, .int .i64 dp, .int .i64 dt, .int .i64 mp, .string (bs mi), .int .i64 sm] 95)) [.int .i64 rank, .slice A2 ps.length c2, .string (bs tg), .int .i64 ap, .int .i64 st, .int .i64 dp, .int .i64 dt, .int .i64 mp, .string (bs mi), .int .i64 sm] 95).kept hb3
  have hp2 : Held w3 (w.heap.size + 1) [.int .i64 rank, .slice A2 ps.length c2, .string (bs tg), .int .i64 ap, .int .i64 st, .int .i64 dp, .int .i64 dt, .int .i64 mp, .string (bs mi), .int .i64 sm] := by simpa using hp
  have a0 := hq.cell (i := 0) rfl
  have b0 := hp2.cell (i := 0) rfl
  have a1 := hq.cell (i := 1) rfl
  have b1 := hp2.cell (i := 1) rfl
  have a2 := hq.cell (i := 2) rfl
  have b2 := hp2.cell (i := 2) rfl
  have a3 := hq.cell (i := 3) rfl
  have b3 := hp2.cell (i := 3) rfl
  have a4 := hq.cell (i := 4) rfl
  have b4 := hp2.cell (i := 4) rfl
  have a5 := hq.cell (i := 5) rfl
  have b5 := hp2.cell (i := 5) rfl
  have a6 := hq.cell (i := 6) rfl
  have b6 := hp2.cell (i := 6) rfl
  have a7 := hq.cell (i := 7) rfl
  have b7 := hp2.cell (i := 7) rfl
  have a8 := hq.cell (i := 8) rfl
  have b8 := hp2.cell (i := 8) rfl
  have a9 := hq.cell (i := 9) rfl
  have b9 := hp2.cell (i := 9) rfl
  clear hb3 hq hp hp2 HC HB
  go_wp2_with fail
  go_ret
  exact ⟨rfl, HB3.out⟩
set_option maxHeartbeats 2000000 in
set_option maxRecDepth 100000 in
theorem rsSame_any (n : Nat) (R1 R2 : List Rm) (A1 A2 : Option Addr) (c1 c2 : Nat) (w : World) (hn : R1.length = n) (h1 : RsR w A1 c1 R1) (h2 : RsR w A2 c2 R2) (he : R1.map Rm.r = R2.map Rm.r) :
    Calls Tryz.prog 56 #[.slice A1 n c1, .slice A2 n c2] w fun e w' => e = .returned (.bool true) ∧ Below w.heap.size w w' := by
  have hn2 : R2.length = n := by have := congrArg List.length he; simpa [hn] using this.symm
  have HS := Stow.mk h1
  have HS' := Stow.mk h2
  have hlen := h1.row.len
  simp only [List.length_map] at hlen
  have HE := Stow.mk he
  have HN := Stow.mk hn
  have HN2 := Stow.mk hn2
  have hln : n ≤ 9223372036854775807 := by omega
  clear h1 h2 he hn hn2 hlen
  go_enter Tryz.func56, Tryz.ntmps56
  go_wp2_with fail
  go_loopw [5] (fun v wr => ∃ j : Nat, v = .int .i64 j ∧ j ≤ n ∧ Stow (Below w.heap.size w wr)) (fun v _ => n - (intOf v).toNat)
  case atStart => exact ⟨0, rfl, by omega, ⟨Below.self _⟩⟩
  case round =>
    obtain ⟨j, rfl, hj, hbr⟩ := hrel
    by_cases hlt : j < n
    · have hl1 : j < R1.length := by rw [HN.out]; exact hlt
      have hl2 : j < R2.length := by rw [HN2.out]; exact hlt
      obtain ⟨b, off, rfl, hblt, _⟩ := SlR.open HS.out.row (by simp; omega)
      obtain ⟨b', off', rfl, hblt', _⟩ := SlR.open HS'.out.row (by simp; omega)
      have hra := (rm_at (SlR.keep HS.out.row hbr.out) hl1).2
      have hrb := (rm_at (SlR.keep HS'.out.row hbr.out) hl2).2
      have hm1 := (HS.out.each _ (List.getElem_mem hl1)).keep hbr.out
      have hm2 := (HS'.out.each _ (List.getElem_mem hl2)).keep hbr.out
      have hrr : R1[j].r = R2[j].r := by
        have h := HE.out
        have h1 : (R1.map Rm.r)[j]? = some R1[j].r := by rw [List.getElem?_map, List.getElem?_eq_getElem hl1]; rfl
        have h2 : (R2.map Rm.r)[j]? = some R2[j].r := by rw [List.getElem?_map, List.getElem?_eq_getElem hl2]; rfl
        rw [h, h2] at h1
        exact (Option.some.inj h1).symm
      obtain ⟨m1, he1⟩ : ∃ m, R1[j] = m := ⟨_, rfl⟩
      obtain ⟨m2, he2⟩ : ∃ m, R2[j] = m := ⟨_, rfl⟩
      rw [he1] at hra hm1 hrr
      rw [he2] at hrb hm2 hrr
      clear he1 he2
      obtain ⟨r1, B1, k1⟩ := m1
      obtain ⟨r2, B2, k2⟩ := m2
      simp only at hrr
      subst hrr
      have hc := ruSame_any r1 B1 B2 k1 k2 wr.drew (hm1.keep (Below.drew (Below.self wr))) (hm2.keep (Below.drew (Below.self wr)))
      obtain ⟨rank, ps, tg, ap, st, dp, dt, mp, mi, sm⟩ := r1
      have q0 : wr.cell? ⟨b, off + j * 10, none⟩ = some (.int .i64 rank) := hra 0 _ rfl
      have p0 : wr.cell? ⟨b', off' + j * 10, none⟩ = some (.int .i64 rank) := hrb 0 _ rfl
      have q1 : wr.cell? ⟨b, off + j * 10 + 1, none⟩ = some (.slice B1 ps.length k1) := hra 1 _ rfl
      have p1 : wr.cell? ⟨b', off' + j * 10 + 1, none⟩ = some (.slice B2 ps.length k2) := hrb 1 _ rfl
      have q2 : wr.cell? ⟨b, off + j * 10 + 2, none⟩ = some (.string (bs tg)) := hra 2 _ rfl
      have p2 : wr.cell? ⟨b', off' + j * 10 + 2, none⟩ = some (.string (bs tg)) := hrb 2 _ rfl
      have q3 : wr.cell? ⟨b, off + j * 10 + 3, none⟩ = some (.int .i64 ap) := hra 3 _ rfl
      have p3 : wr.cell? ⟨b', off' + j * 10 + 3, none⟩ = some (.int .i64 ap) := hrb 3 _ rfl
      have q4 : wr.cell? ⟨b, off + j * 10 + 4, none⟩ = some (.int .i64 st) := hra 4 _ rfl
      have p4 : wr.cell? ⟨b', off' + j * 10 + 4, none⟩ = some (.int .i64 st) := hrb 4 _ rfl
      have q5 : wr.cell? ⟨b, off + j * 10 + 5, none⟩ = some (.int .i64 dp) := hra 5 _ rfl
      have p5 : wr.cell? ⟨b', off' + j * 10 + 5, none⟩ = some (.int .i64 dp) := hrb 5 _ rfl
      have q6 : wr.cell? ⟨b, off + j * 10 + 6, none⟩ = some (.int .i64 dt) := hra 6 _ rfl
      have p6 : wr.cell? ⟨b', off' + j * 10 + 6, none⟩ = some (.int .i64 dt) := hrb 6 _ rfl
      have q7 : wr.cell? ⟨b, off + j * 10 + 7, none⟩ = some (.int .i64 mp) := hra 7 _ rfl
      have p7 : wr.cell? ⟨b', off' + j * 10 + 7, none⟩ = some (.int .i64 mp) := hrb 7 _ rfl
      have q8 : wr.cell? ⟨b, off + j * 10 + 8, none⟩ = some (.string (bs mi)) := hra 8 _ rfl
      have p8 : wr.cell? ⟨b', off' + j * 10 + 8, none⟩ = some (.string (bs mi)) := hrb 8 _ rfl
      have q9 : wr.cell? ⟨b, off + j * 10 + 9, none⟩ = some (.int .i64 sm) := hra 9 _ rfl
      have p9 : wr.cell? ⟨b', off' + j * 10 + 9, none⟩ = some (.int .i64 sm) := hrb 9 _ rfl
      unfold Rm.cells at hc
      simp only at hc
      have HC := Stow.mk hc
      have hji : (j : Int) < n := by omega
      have hj0 : (0 : Int) ≤ j := by omega
      clear hra hrb hm1 hm2 hc
      go_upto_region 6 with fail
      go_region_with (go_at_call 107; refine HC.out.mono ?_; rintro e w3 ⟨rfl, hb3⟩; have HB3 := Stow.mk (hbr.out.trans (((Below.drew (Below.self wr)).trans hb3).mono hbr.out.size)); clear hb3)
      all_goals
        go_wp2_with fail
        exact ⟨⟨j + 1, rfl, by omega, HB3⟩, by simp [intOf]; omega⟩
    · obtain rfl : j = n := by omega
      go_wp2_with fail
      go_ret
      exact ⟨rfl, hbr.out⟩
set_option maxHeartbeats 2000000 in
set_option maxRecDepth 100000 in
theorem cfSame_any (n : Nat) (R1 R2 : List Rm) (A1 A2 : Option Addr) (c1 c2 : Nat) (f : List UInt8) (w : World) (hn : R1.length = n) (h1 : RsR w A1 c1 R1) (h2 : RsR w A2 c2 R2) (he : R1.map Rm.r = R2.map Rm.r) :
    Calls Tryz.prog 32 #[.agg #[.slice A1 n c1, .string (bs f)], .agg #[.slice A2 n c2, .string (bs f)]] w fun e w' => e = .returned (.bool true) ∧ Below w.heap.size w w' := by
  have hb1 := Below.alloc' (Below.self w) (.cells #[.slice A1 n c1, .string (bs f)] 54)
  have hb2 := Below.alloc' (Below.self (w.alloc (.cells #[.slice A1 n c1, .string (bs f)] 54))) (.cells #[.slice A2 n c2, .string (bs f)] 54)
  have HB := Stow.mk (Below.call hb1 hb2)
  have HC := Stow.mk (rsSame_any n R1 R2 A1 A2 c1 c2 ((w.alloc (.cells #[.slice A1 n c1, .string (bs f)] 54)).alloc (.cells #[.slice A2 n c2, .string (bs f)] 54)) hn ((h1.keep hb1).keep hb2) ((h2.keep hb1).keep hb2) he)
  clear h1 h2 hb1 hb2 he hn
  go_enter Tryz.func32, Tryz.ntmps32
  go_wp2_with fail
  refine HC.out.mono ?_
  rintro e w3 ⟨rfl, hb3⟩
  have HB3 := Stow.mk (Below.call HB.out hb3)
  clear hb3 HC HB
  go_wp2_with fail
  go_ret
  exact ⟨rfl, HB3.out⟩
end Go.Proofs.YtfbhdkkmcfnghaaGreatDoor
end

section
namespace Go.Proofs.YtfbhdkkmcfnghaaGreatDoor
open Go.RowKit
set_option linter.unusedVariables false
set_option linter.unusedSimpArgs false

theorem all_next {α : Type} {p : α → Bool} {l : List α} {i : Nat} (h : i < l.length) (ha : (l.take i).all p = true) (hb : p l[i] = true) : (l.take (i + 1)).all p = true := by
  rw [List.take_succ_eq_append_getElem h, List.all_append, ha]; simp [hb]
theorem all_not {α : Type} {p : α → Bool} {l : List α} {i : Nat} (h : i < l.length) (hb : p l[i] = false) : l.all p = false := by
  cases hh : l.all p with
  | false => rfl
  | true =>
    have := List.all_eq_true.1 hh _ (List.getElem_mem h)
    rw [hb] at this
    cases this
def Cf.few1 (p : Pd) : Bool := decide (p.n.length + p.v.length ≤ 400)
def Cf.fewP (L : List Pd) : Bool := decide (L.length ≤ 20) && L.all Cf.few1
def Cf.few2 (r : Ru) : Bool := Cf.fewP r.ps && decide (r.tg.length + r.mi.length ≤ 400)
def Cf.fewR (L : List Ru) : Bool := decide (L.length ≤ 40) && L.all Cf.few2
def Cf.few (c : Cf) : Bool := decide (c.f.length ≤ 400) && Cf.fewR c.rs
set_option maxHeartbeats 1000000 in
set_option maxRecDepth 100000 in
theorem pdsFew_any (L : List Pd) (A : Option Addr) (cap : Nat) (w : World) (hS : SlR w 3 (.slice A L.length cap) (L.map Pd.cells)) (hf : ∀ p ∈ L, p.fits) :
    Calls Tryz.prog 109 #[.slice A L.length cap] w fun e w' => e = .returned (.bool (Cf.fewP L)) ∧ Below w.heap.size w w' := by
  have HS := Stow.mk hS
  have HF := Stow.mk hf
  have hlen := hS.len
  simp only [List.length_map] at hlen
  obtain ⟨n, hn⟩ : ∃ n, L.length = n := ⟨_, rfl⟩
  have HNL := Stow.mk hn
  obtain ⟨q, hq⟩ : ∃ q, Cf.fewP L = q := ⟨_, rfl⟩
  have HQ := Stow.mk hq
  rw [hq]
  rw [hn] at hlen ⊢
  clear hS hf hn hq
  by_cases h1 : 20 < n
  · have h1i : (20 : Int) < n := by omega
    go_enter Tryz.func109, Tryz.ntmps109
    go_wp2_with fail
    go_ret
    have : q = false := by rw [← HQ.out, Cf.fewP, HNL.out]; simp; omega
    exact ⟨by rw [this]; rfl, Below.self _⟩
  have h1i : (n : Int) ≤ 20 := by omega
  have HQA : Stow (q = L.all Cf.few1) := ⟨by rw [← HQ.out, Cf.fewP, HNL.out]; simp; omega⟩
  go_enter Tryz.func109, Tryz.ntmps109
  go_wp2_with fail
  go_loopw [3] (fun v wr => ∃ j : Nat, v = .int .i64 (j : Int) ∧ j ≤ n ∧ Stow ((L.take j).all Cf.few1 = true) ∧ Stow (Below w.heap.size w wr)) (fun v _ => n - (intOf v).toNat)
  case atStart => exact ⟨0, rfl, by omega, ⟨rfl⟩, ⟨Below.self _⟩⟩
  case round =>
    obtain ⟨j, rfl, hj, HA, hbr⟩ := hrel
    by_cases hlt : j < n
    · have hl1 : j < L.length := by rw [HNL.out]; exact hlt
      obtain ⟨b, off, rfl, hblt, _⟩ := HS.out.open (by simp; omega)
      obtain ⟨q0, q1, q2⟩ := pd_at (HS.out.keep hbr.out) hl1
      have hfm := HF.out _ (List.getElem_mem hl1)
      have hnx := all_next (p := Cf.few1) hl1 HA.out
      have hnt := all_not (p := Cf.few1) hl1
      obtain ⟨s, hs⟩ : ∃ s, L[j] = s := ⟨_, rfl⟩
      rw [hs] at q0 q1 q2 hfm hnx hnt
      clear hs
      obtain ⟨k, x, y⟩ := s
      simp only at q0 q1 q2
      have hx : x.length ≤ 140737488355328 := hfm.1
      have hy : y.length ≤ 140737488355328 := hfm.2
      have hji : (j : Int) < n := by omega
      have hj0 : (0 : Int) ≤ j := by omega
      unfold Cf.few1 at hnt
      have HNX := Stow.mk hnx
      have HNT := Stow.mk hnt
      clear hfm hnx hnt
      by_cases h400 : 400 < x.length + y.length
      · have d2 : decide ((400 : Int) < (x.length : Int) + y.length) = true := by simp; omega
        go_wp2_with fail
        go_quiet (fail)
        go_wp2_with fail
        go_ret
        have : q = false := by rw [HQA.out]; exact HNT.out (by simp; omega)
        exact ⟨by rw [this]; rfl, Below.drewN' hbr.out _⟩
      · have d2 : decide ((400 : Int) < (x.length : Int) + y.length) = false := by simp; omega
        go_wp2_with fail
        go_quiet (fail)
        go_wp2_with fail
        exact ⟨⟨j + 1, rfl, by omega, ⟨HNX.out (by simp [Cf.few1]; omega)⟩, ⟨Below.drewN' hbr.out _⟩⟩, by simp [intOf]; omega⟩
    · obtain rfl : j = n := by omega
      go_wp2_with fail
      go_ret
      have h := HA.out
      rw [← HNL.out, List.take_length] at h
      exact ⟨by rw [HQA.out, h]; rfl, hbr.out⟩
set_option maxHeartbeats 1000000 in
set_option maxRecDepth 100000 in
theorem rsFew_any (R : List Rm) (n : Nat) (A : Option Addr) (cap : Nat) (w : World) (hn : R.length = n) (hS : RsR w A cap R) :
    Calls Tryz.prog 58 #[.slice A n cap] w fun e w' => e = .returned (.bool (Cf.fewR (R.map Rm.r))) ∧ Below w.heap.size w w' := by
  have HS := Stow.mk hS
  have hlen := hS.row.len
  simp only [List.length_map] at hlen
  have HNL := Stow.mk hn
  obtain ⟨q, hq⟩ : ∃ q, Cf.fewR (R.map Rm.r) = q := ⟨_, rfl⟩
  have HQ := Stow.mk hq
  rw [hq]
  rw [hn] at hlen
  clear hS hn hq
  by_cases h1 : 40 < n
  · have h1i : (40 : Int) < n := by omega
    go_enter Tryz.func58, Tryz.ntmps58
    go_wp2_with fail
    go_ret
    have : q = false := by rw [← HQ.out, Cf.fewR, List.length_map, HNL.out]; simp; omega
    exact ⟨by rw [this]; rfl, Below.self _⟩
  have h1i : (n : Int) ≤ 40 := by omega
  have HQA : Stow (q = (R.map Rm.r).all Cf.few2) := ⟨by rw [← HQ.out, Cf.fewR, List.length_map, HNL.out]; simp; omega⟩
  go_enter Tryz.func58, Tryz.ntmps58
  go_wp2_with fail
  go_loopw [3] (fun v wr => ∃ j : Nat, v = .int .i64 (j : Int) ∧ j ≤ n ∧ Stow (((R.map Rm.r).take j).all Cf.few2 = true) ∧ Stow (Below w.heap.size w wr)) (fun v _ => n - (intOf v).toNat)
  case atStart => exact ⟨0, rfl, by omega, ⟨rfl⟩, ⟨Below.self _⟩⟩
  case round =>
    obtain ⟨j, rfl, hj, HA, hbr⟩ := hrel
    by_cases hlt : j < n
    · have hl1 : j < R.length := by rw [HNL.out]; exact hlt
      obtain ⟨b, off, rfl, hblt, _⟩ := SlR.open HS.out.row (by simp; omega)
      have hra := (rm_at (SlR.keep HS.out.row hbr.out) hl1)
      have hm1 := (HS.out.each _ (List.getElem_mem hl1)).keep hbr.out
      have hlm : j < (R.map Rm.r).length := by rw [List.length_map]; exact hl1
      have hnx := all_next (p := Cf.few2) hlm HA.out
      have hnt := all_not (p := Cf.few2) hlm
      rw [List.getElem_map] at hnx hnt
      obtain ⟨s, hs⟩ : ∃ s, R[j] = s := ⟨_, rfl⟩
      rw [hs] at hra hm1 hnx hnt
      clear hs
      obtain ⟨⟨rank, ps, tg, ap, st, dp, dt, mp, mi, sm⟩, B, kc⟩ := s
      have hltb := hra.1
      have q1 : wr.cell? ⟨b, off + j * 10 + 1, none⟩ = some (.slice B ps.length kc) := hra.2 1 _ rfl
      have q2 : wr.cell? ⟨b, off + j * 10 + 2, none⟩ = some (.string (bs tg)) := hra.2 2 _ rfl
      have q8 : wr.cell? ⟨b, off + j * 10 + 8, none⟩ = some (.string (bs mi)) := hra.2 8 _ rfl
      have g1 : ∀ x : Later wr.heap.size wr, x.1.cell? ⟨b, off + j * 10 + 1, none⟩ = some (.slice B ps.length kc) := fun x => x.cell q1 hltb
      have g2 : ∀ x : Later wr.heap.size wr, x.1.cell? ⟨b, off + j * 10 + 2, none⟩ = some (.string (bs tg)) := fun x => x.cell q2 hltb
      have g8 : ∀ x : Later wr.heap.size wr, x.1.cell? ⟨b, off + j * 10 + 8, none⟩ = some (.string (bs mi)) := fun x => x.cell q8 hltb
      have hx : tg.length ≤ 140737488355328 := hm1.tg
      have hy : mi.length ≤ 140737488355328 := hm1.mi
      have hji : (j : Int) < n := by omega
      have hj0 : (0 : Int) ≤ j := by omega
      have HC : Stow (∀ x : Later wr.heap.size wr, Calls Tryz.prog 109 #[.slice B ps.length kc] x.1 fun e w' => e = .returned (.bool (Cf.fewP ps)) ∧ Below x.1.heap.size x.1 w') := ⟨fun x => pdsFew_any ps B kc x.1 (hm1.row.keep x.2) hm1.fits⟩
      unfold Cf.few2 at hnt hnx
      simp only at hnt hnx
      obtain ⟨fp, hfp⟩ : ∃ b, Cf.fewP ps = b := ⟨_, rfl⟩
      rw [hfp] at HC hnt hnx
      have HNX := Stow.mk hnx
      have HNT := Stow.mk hnt
      clear hm1 q1 q2 q8 hra hnx hnt hfp hlm
      cases fp with
      | false =>
        have hq0 : q = false := by rw [HQA.out]; exact HNT.out rfl
        go_upto_region 6 with fail
        refine wp_region_later wr.heap.size (by kernel_rfl) (by kernel_rfl) ?_
        repeat (go_big_quiet_step ((go_at_call 109; exact Calls.later (Nat.le_refl _) (HC.out _))))
        refine wpQuiet_nil ?_
        rintro ⟨wx, hbx⟩
        clear g1 g2 g8
        go_wp2_with fail
        go_ret
        exact ⟨by rw [hq0]; rfl, hbr.out.trans (hbx.mono hbr.out.size)⟩
      | true =>
        by_cases h400 : 400 < tg.length + mi.length
        · have d2 : decide ((400 : Int) < (tg.length : Int) + mi.length) = true := by simp; omega
          have hq0 : q = false := by rw [HQA.out]; exact HNT.out (by simp; omega)
          go_upto_region 6 with fail
          refine wp_region_later wr.heap.size (by kernel_rfl) (by kernel_rfl) ?_
          repeat (go_big_quiet_step ((go_at_call 109; exact Calls.later (Nat.le_refl _) (HC.out _))))
          refine wpQuiet_nil ?_
          rintro ⟨wx, hbx⟩
          clear g1 g2 g8
          go_wp2_with fail
          go_ret
          exact ⟨by rw [hq0]; rfl, hbr.out.trans (hbx.mono hbr.out.size)⟩
        · have d2 : decide ((400 : Int) < (tg.length : Int) + mi.length) = false := by simp; omega
          have HJ2 : Stow (((R.map Rm.r).take (j + 1)).all Cf.few2 = true) := ⟨HNX.out (by simp; omega)⟩
          go_upto_region 6 with fail
          refine wp_region_later wr.heap.size (by kernel_rfl) (by kernel_rfl) ?_
          repeat (go_big_quiet_step ((go_at_call 109; exact Calls.later (Nat.le_refl _) (HC.out _))))
          refine wpQuiet_nil ?_
          rintro ⟨wx, hbx⟩
          clear g1 g2 g8
          go_wp2_with fail
          exact ⟨⟨j + 1, rfl, by omega, HJ2, ⟨hbr.out.trans (hbx.mono hbr.out.size)⟩⟩, by simp [intOf]; omega⟩
    · obtain rfl : j = n := by omega
      go_wp2_with fail
      go_ret
      have h := HA.out
      rw [List.take_of_length_le (by rw [List.length_map, HNL.out]; exact Nat.le_refl _)] at h
      exact ⟨by rw [HQA.out, h]; rfl, hbr.out⟩
set_option maxHeartbeats 1000000 in
set_option maxRecDepth 100000 in
theorem cfFew_any (c : Cf) (A : Option Addr) (cap : Nat) (R : List Rm) (w : World) (h : RsR w A cap R) (hc : c.rs = R.map Rm.r) (hf : c.f.length ≤ 140737488355328) :
    Calls Tryz.prog 25 #[.agg #[.slice A R.length cap, .string (bs c.f)]] w fun e w' => e = .returned (.bool (Cf.few c)) ∧ Below w.heap.size w w' := by
  obtain ⟨n, hn⟩ : ∃ n, R.length = n := ⟨_, rfl⟩
  have hb1 := Below.alloc' (Below.self w) (.cells #[.slice A n cap, .string (bs c.f)] 54)
  have HB := Stow.mk hb1
  have HC := Stow.mk (rsFew_any R n A cap (w.alloc (.cells #[.slice A n cap, .string (bs c.f)] 54)) hn (h.keep hb1))
  have HE : Stow (Cf.few c = (decide (c.f.length ≤ 400) && Cf.fewR (R.map Rm.r))) := ⟨by unfold Cf.few; rw [hc]⟩
  rw [HE.out, hn]
  obtain ⟨fr, hfr⟩ : ∃ b, Cf.fewR (R.map Rm.r) = b := ⟨_, rfl⟩
  rw [hfr] at HC ⊢
  clear h hc hb1 hn hfr HE
  obtain ⟨crs, cf⟩ := c
  simp only at hf HC HB ⊢
  by_cases h4 : cf.length ≤ 400
  · have h4i : (cf.length : Int) ≤ 400 := by omega
    rw [decide_eq_true h4]
    go_enter Tryz.func25, Tryz.ntmps25
    go_wp2_with fail
    refine HC.out.mono ?_
    rintro e w3 ⟨rfl, hb3⟩
    have HB3 := Stow.mk (Below.call HB.out hb3)
    clear hb3 HC HB
    go_wp2_with fail
    go_ret
    exact ⟨by cases fr <;> rfl, HB3.out⟩
  · have h4i : decide ((cf.length : Int) ≤ 400) = false := by simp; omega
    rw [decide_eq_false h4]
    go_enter Tryz.func25, Tryz.ntmps25
    go_wp2_with fail
    go_ret
    exact ⟨rfl, HB.out⟩
end Go.Proofs.YtfbhdkkmcfnghaaGreatDoor
end

section
namespace Go.Proofs.YtfbhdkkmcfnghaaGreatDoor
open Go.RowKit
set_option linter.unusedVariables false
set_option linter.unusedSimpArgs false

namespace Cf
def kr : Ru := ⟨5, [⟨4, [], [47, 97]⟩, ⟨5, [107], [118, 32, 119]⟩], [98], 0, 0, 10, 3, 0, [], 100⟩
def kc : Cf := ⟨[kr], [37, 80, 65, 84, 72, 37, 32, 120]⟩
def kt : List UInt8 := [102, 111, 114, 109, 97, 116, 32, 37, 80, 65, 84, 72, 37, 32, 120, 10, 114, 117, 108, 101, 32, 53, 10, 112, 114, 101, 102, 105, 120, 32, 47, 97, 10, 104, 101, 97, 100, 32, 107, 32, 118, 32, 119, 10, 116, 111, 32, 98, 10, 100, 101, 108, 97, 121, 32, 49, 48, 32, 51, 10, 115, 97, 109, 112, 108, 101, 32, 49, 48, 48, 10, 101, 110, 100, 10]
def kt2 : List UInt8 := [114, 117, 108, 101, 32, 53, 10, 116, 111, 32, 98, 10, 114, 117, 108, 101, 10]
theorem kc_check : check kc = 0 := by rfl
theorem i5 : Lib.itoa 5 = [53] := itoa_pos1 (n := 5) (by omega)
theorem i3 : Lib.itoa 3 = [51] := itoa_pos1 (n := 3) (by omega)
theorem i1 : Lib.itoa 1 = [49] := itoa_pos1 (n := 1) (by omega)
theorem i10 : Lib.itoa 10 = [49, 48] := by
  rw [itoa_more (x := 10) (by decide), show (10 : Int).tdiv 10 = 1 from rfl, i1]; rfl
theorem i100 : Lib.itoa 100 = [49, 48, 48] := by
  rw [itoa_more (x := 100) (by decide), show (100 : Int).tdiv 10 = 10 from rfl, i10]; rfl
theorem kc_text : text kc = kt := by
  unfold text kc kr
  simp only [List.flatMap_cons, List.flatMap_nil]
  unfold ruleText lnRank lnPs lnTo lnAb lnDe lnMi lnSa
  simp only [List.map_cons, List.map_nil, i5, i10, i3, i100]
  rfl
theorem kc_write : write kc = (kt, 0) := by unfold write; rw [if_neg (by rw [kc_check]; simp), kc_text]
theorem kc_read : read kt = (kc, 0, 0) := by rw [← kc_text]; exact read_text kc_check (by rw [kc_text]; decide)
theorem kt2_read : read kt2 = (⟨[], []⟩, 3, 3) := by rfl
end Cf
set_option maxHeartbeats 4000000 in
set_option maxRecDepth 100000 in
theorem known13_any (w : World) (hm : MaxIs w) (hP : Pow10 w) : Calls Tryz.prog 26 #[] w fun e w' => e = .returned (.bool true) ∧ Below w.heap.size w w' := by
  have h1 := World.ownsRow_lit (base := w.heap.size) (e := 98) (size := 3) w #[.int .i64 4, .string ⟨#[]⟩, .string ⟨#[47, 97]⟩, .int .i64 5, .string ⟨#[107]⟩, .string ⟨#[118, 32, 119]⟩] 2 (Nat.le_refl _) (by unfold maxLen; omega) rfl
  have e1 : (w.alloc (.cells #[.int .i64 4, .string ⟨#[]⟩, .string ⟨#[47, 97]⟩, .int .i64 5, .string ⟨#[107]⟩, .string ⟨#[118, 32, 119]⟩] 98)).heap.size = w.heap.size + 1 := by simp
  have b1 := Below.alloc' (Below.self w) (.cells #[.int .i64 4, .string ⟨#[]⟩, .string ⟨#[47, 97]⟩, .int .i64 5, .string ⟨#[107]⟩, .string ⟨#[118, 32, 119]⟩] 98)
  obtain ⟨W1, hW1⟩ : ∃ W, w.alloc (.cells #[.int .i64 4, .string ⟨#[]⟩, .string ⟨#[47, 97]⟩, .int .i64 5, .string ⟨#[107]⟩, .string ⟨#[118, 32, 119]⟩] 98) = W := ⟨_, rfl⟩
  rw [hW1] at h1 e1 b1
  have h2 := World.ownsRow_lit (base := W1.heap.size) (e := 95) (size := 10) W1 #[.int .i64 5, .slice (some ⟨w.heap.size, 0, none⟩) 2 2, .string ⟨#[98]⟩, .int .i64 0, .int .i64 0, .int .i64 10, .int .i64 3, .int .i64 0, .string ⟨#[]⟩, .int .i64 100] 1 (Nat.le_refl _) (by unfold maxLen; omega) rfl
  have e2 : (W1.alloc (.cells #[.int .i64 5, .slice (some ⟨w.heap.size, 0, none⟩) 2 2, .string ⟨#[98]⟩, .int .i64 0, .int .i64 0, .int .i64 10, .int .i64 3, .int .i64 0, .string ⟨#[]⟩, .int .i64 100] 95)).heap.size = w.heap.size + 2 := by simp [e1]
  have b2 := Below.alloc' (Below.self W1) (.cells #[.int .i64 5, .slice (some ⟨w.heap.size, 0, none⟩) 2 2, .string ⟨#[98]⟩, .int .i64 0, .int .i64 0, .int .i64 10, .int .i64 3, .int .i64 0, .string ⟨#[]⟩, .int .i64 100] 95)
  obtain ⟨W2, hW2⟩ : ∃ W, W1.alloc (.cells #[.int .i64 5, .slice (some ⟨w.heap.size, 0, none⟩) 2 2, .string ⟨#[98]⟩, .int .i64 0, .int .i64 0, .int .i64 10, .int .i64 3, .int .i64 0, .string ⟨#[]⟩, .int .i64 100] 95) = W := ⟨_, rfl⟩
  rw [hW2] at h2 e2 b2
  have h3 := Held.made W2 [.slice (some ⟨w.heap.size + 1, 0, none⟩) 1 1, .string ⟨#[37, 80, 65, 84, 72, 37, 32, 120]⟩] 54
  have b3 := Below.alloc' (Below.self W2) (.cells #[.slice (some ⟨w.heap.size + 1, 0, none⟩) 1 1, .string ⟨#[37, 80, 65, 84, 72, 37, 32, 120]⟩] 54)
  obtain ⟨W3, hW3⟩ : ∃ W, W2.alloc (.cells #[.slice (some ⟨w.heap.size + 1, 0, none⟩) 1 1, .string ⟨#[37, 80, 65, 84, 72, 37, 32, 120]⟩] 54) = W := ⟨_, rfl⟩
  rw [show W2.alloc (.cells [.slice (some ⟨w.heap.size + 1, 0, none⟩) 1 1, .string ⟨#[37, 80, 65, 84, 72, 37, 32, 120]⟩].toArray 54) = W3 from hW3] at h3
  rw [hW3] at b3
  rw [e1] at h2
  rw [e2] at h3
  have hB3 := Below.call (Below.call b1 b2) b3
  have s1 : SlR W3 3 (.slice (some ⟨w.heap.size, 0, none⟩) 2 2) (Cf.kr.ps.map Pd.cells) := ((own_of_cells (enc := Pd.cells) (L := Cf.kr.ps) (fun _ => rfl) h1 rfl).keep b2).keep b3
  have hrs : RsR W3 (some ⟨w.heap.size + 1, 0, none⟩) 1 [⟨Cf.kr, some ⟨w.heap.size, 0, none⟩, 2⟩] := ⟨(own_of_cells (enc := Rm.cells) (L := [⟨Cf.kr, some ⟨w.heap.size, 0, none⟩, 2⟩]) (fun _ => rfl) h2 rfl).keep b3, fun m hm => by
    rw [List.mem_singleton.1 hm]
    refine ⟨s1, ?_, by simp [Cf.kr], by simp [Cf.kr]⟩
    intro p hp
    simp only [Cf.kr, List.mem_cons, List.not_mem_nil, or_false] at hp
    rcases hp with rfl | rfl <;> exact ⟨by decide, by decide⟩⟩
  have HX : Stow (((w.alloc (.cells #[.int .i64 4, .string ⟨#[]⟩, .string ⟨#[47, 97]⟩, .int .i64 5, .string ⟨#[107]⟩, .string ⟨#[118, 32, 119]⟩] 98)).alloc (.cells #[.int .i64 5, .slice (some ⟨w.heap.size, 0, none⟩) 2 2, .string ⟨#[98]⟩, .int .i64 0, .int .i64 0, .int .i64 10, .int .i64 3, .int .i64 0, .string ⟨#[]⟩, .int .i64 100] 95)).alloc (.cells #[.slice (some ⟨w.heap.size + 1, 0, none⟩) 1 1, .string ⟨#[37, 80, 65, 84, 72, 37, 32, 120]⟩] 54) = W3) := ⟨by rw [hW1, hW2, hW3]⟩
  have HWR := Stow.mk (cfWrite_any Cf.kc (some ⟨w.heap.size + 1, 0, none⟩) 1 [⟨Cf.kr, some ⟨w.heap.size, 0, none⟩, 2⟩] W3 hrs rfl (by decide) (hP.keep hB3))
  rw [Cf.kc_write] at HWR
  have HRS := Stow.mk hrs
  have HC3 : Stow (Held W3 (w.heap.size + 1 + 1) [.slice (some ⟨w.heap.size + 1, 0, none⟩) 1 1, .string ⟨#[37, 80, 65, 84, 72, 37, 32, 120]⟩]) := ⟨h3⟩
  have HM3 := Stow.mk (hm.keep hB3)
  have HB3 := Stow.mk hB3
  clear h1 h2 h3 e1 e2 b1 b2 b3 hW1 hW2 hW3 hB3 s1 hrs hm hP
  go_enter Tryz.func26, Tryz.ntmps26
  go_upto_region 3 with fail
  rw [HX.out, show (⟨(List.append [102, 111, 114, 109, 97, 116, 32, 37, 80, 65, 84, 72, 37, 32, 120, 10, 114, 117, 108, 101, 32, 53, 10, 112, 114, 101, 102, 105, 120, 32, 47, 97, 10, 104, 101, 97, 100] [32, 107, 32, 118, 32, 119, 10, 116, 111, 32, 98, 10, 100, 101, 108, 97, 121, 32, 49, 48, 32, 51, 10, 115, 97, 109, 112, 108, 101, 32, 49, 48, 48, 10, 101, 110, 100, 10]).toArray⟩ : ByteArray) = bs Cf.kt from rfl]
  have c0 := HC3.out.cell (i := 0) rfl
  have c1 := HC3.out.cell (i := 1) rfl
  go_wp2_with fail
  refine HWR.out.mono ?_
  rintro e w4 ⟨rfl, hb4⟩
  have HC4 := Stow.mk (HC3.out.kept hb4)
  have HB4 := Stow.mk (Below.call HB3.out hb4)
  have HR4 := Stow.mk (HRS.out.keep hb4)
  have HRD := Stow.mk (cfRead_any Cf.kt w4 (by decide) (HM3.out.keep hb4))
  have HM4 := Stow.mk (HM3.out.keep hb4)
  unfold ReadOut at HRD
  rw [Cf.kc_read] at HRD
  clear hb4 c0 c1 HWR HC3 HRS HB3
  go_wp2_with fail
  refine HRD.out.mono ?_
  rintro e w5 ⟨A5, k5, R5, rfl, hb5, hr5, hm5⟩
  have hl5 : R5.length = 1 := by
    have := congrArg List.length hm5
    simpa [Cf.kc] using this.symm
  rw [hl5]
  have HC5 := Stow.mk (HC4.out.kept hb5)
  have HB5 := Stow.mk (Below.call HB4.out hb5)
  have HR5 := Stow.mk (HR4.out.keep hb5)
  have HQ5 := Stow.mk hr5
  have HM5 := Stow.mk (HM4.out.keep hb5)
  have HE5 := Stow.mk hm5
  have HL5 := Stow.mk hl5
  have hd := Held.made w5 [.slice A5 1 k5, .string (bs [37, 80, 65, 84, 72, 37, 32, 120])] 54
  have hb6 := Below.alloc' (Below.self w5) (.cells #[.slice A5 1 k5, .string (bs [37, 80, 65, 84, 72, 37, 32, 120])] 54)
  obtain ⟨W6, hW6⟩ : ∃ W, w5.alloc (.cells #[.slice A5 1 k5, .string (bs [37, 80, 65, 84, 72, 37, 32, 120])] 54) = W := ⟨_, rfl⟩
  rw [show w5.alloc (.cells [.slice A5 1 k5, .string (bs [37, 80, 65, 84, 72, 37, 32, 120])].toArray 54) = W6 from hW6] at hd
  rw [hW6] at hb6
  have HX6 : Stow (w5.alloc (.cells #[.slice A5 1 k5, .string (bs Cf.kc.f)] 54) = W6) := ⟨hW6⟩
  have HD6 := Stow.mk hd
  have HB6 := Stow.mk hb6
  have HRD2 := Stow.mk (cfRead_any Cf.kt2 W6 (by decide) (HM5.out.keep hb6))
  unfold ReadOut at HRD2
  rw [Cf.kt2_read] at HRD2
  clear hb5 hr5 hm5 hl5 hd hb6 hW6 HRD HC4 HB4 HR4 HM4
  go_upto_region 5 with fail
  rw [HX6.out]
  go_wp2_with fail
  refine HRD2.out.mono ?_
  rintro e w7 ⟨A7, k7, R7, rfl, hb7, hr7, hm7⟩
  obtain rfl : R7 = [] := by
    have := congrArg List.length hm7
    simpa using this.symm
  have hb8 := Below.alloc' (Below.self w7) (.cells #[.slice A7 0 k7, .string ⟨#[]⟩] 54)
  have HB8 := Stow.mk (Below.call HB6.out (Below.call hb7 hb8))
  obtain ⟨W8, hW8⟩ : ∃ W, w7.alloc (.cells #[.slice A7 0 k7, .string ⟨#[]⟩] 54) = W := ⟨_, rfl⟩
  rw [hW8] at HB8 hb8
  have HX8 : Stow (w7.alloc (.cells #[.slice A7 0 k7, .string (bs [])] 54) = W8) := ⟨hW8⟩
  have h78 := Below.call hb7 hb8
  have HC8 := Stow.mk ((HC5.out.kept HB6.out).kept h78)
  have HD8 := Stow.mk (HD6.out.kept h78)
  have HRA := Stow.mk ((HQ5.out.keep HB6.out).keep h78)
  have HRB := Stow.mk ((HR5.out.keep HB6.out).keep h78)
  clear hb7 hr7 hm7 hb8 hW8 h78 HRD2
  go_upto_region 6 with fail
  rw [HX8.out]
  have c0 := HC8.out.cell (i := 0) rfl
  have c1 := HC8.out.cell (i := 1) rfl
  have d0 := HD8.out.cell (i := 0) rfl
  have d1 := HD8.out.cell (i := 1) rfl
  have HSM := Stow.mk (cfSame_any 1 R5 [⟨Cf.kr, some ⟨w.heap.size, 0, none⟩, 2⟩] A5 (some ⟨w.heap.size + 1, 0, none⟩) k5 1 [37, 80, 65, 84, 72, 37, 32, 120] W8 HL5.out HRA.out HRB.out HE5.out.symm)
  go_wp2_with fail
  refine HSM.out.mono ?_
  rintro e w9 ⟨rfl, hb9⟩
  have HC9 := Stow.mk (HC8.out.kept hb9)
  have HB9 := Stow.mk (Below.call HB5.out (Below.call HB8.out hb9))
  have HCK := Stow.mk (cfCheck_any Cf.kc (some ⟨w.heap.size + 1, 0, none⟩) 1 [⟨Cf.kr, some ⟨w.heap.size, 0, none⟩, 2⟩] w9 (HRB.out.keep hb9) rfl (by decide))
  rw [Cf.kc_check] at HCK
  clear hb9 c0 c1 d0 d1
  have c0 := HC9.out.cell (i := 0) rfl
  have c1 := HC9.out.cell (i := 1) rfl
  go_wp2_with fail
  refine HCK.out.mono ?_
  rintro e w10 ⟨rfl, hb10⟩
  have HB10 := Stow.mk (Below.call HB9.out hb10)
  clear hb10
  go_wp2_with fail
  go_ret
  exact ⟨rfl, HB10.out⟩
end Go.Proofs.YtfbhdkkmcfnghaaGreatDoor
end

section
namespace Go.Proofs.YtfbhdkkmcfnghaaGreatDoor
open Go.RowKit
set_option linter.unusedVariables false
set_option linter.unusedSimpArgs false

set_option maxHeartbeats 4000000 in
set_option maxRecDepth 100000 in
theorem writes13 (c : Cf) (A : Option Addr) (cap : Nat) (R : List Rm) (w : World) (h : RsR w A cap R) (hc : c.rs = R.map Rm.r) (hf : c.f.length ≤ 140737488355328) (hm : MaxIs w) (hP : Pow10 w) :
    Calls Tryz.prog 6 #[.agg #[.slice A R.length cap, .string (bs c.f)]] w fun e w' => e = .returned (.bool true) ∧ Below w.heap.size w w' := by
  have HM := Stow.mk hm
  have HPW := Stow.mk hP
  have hp0 := Held.made w [.slice A R.length cap, .string (bs c.f)] 54
  have hb0 := Below.alloc' (Below.self w) (.cells #[.slice A R.length cap, .string (bs c.f)] 54)
  obtain ⟨W, hW⟩ : ∃ W, w.alloc (.cells #[.slice A R.length cap, .string (bs c.f)] 54) = W := ⟨_, rfl⟩
  rw [show w.alloc (.cells [.slice A R.length cap, .string (bs c.f)].toArray 54) = W from hW] at hp0
  rw [hW] at hb0
  have HX := Stow.mk hW
  have HP := Stow.mk hp0
  have HB := Stow.mk hb0
  have HFW := Stow.mk (cfFew_any c A cap R W (h.keep hb0) hc hf)
  have HRS := Stow.mk (h.keep hb0)
  have HC := Stow.mk hc
  have p0 := hp0.cell (i := 0) rfl
  have p1 := hp0.cell (i := 1) rfl
  obtain ⟨q, hq⟩ : ∃ q, Cf.few c = q := ⟨_, rfl⟩
  rw [hq] at HFW
  clear h hW hp0 hb0 hc hq hm hP
  cases q with
  | false =>
    go_enter Tryz.func6, Tryz.ntmps6
    go_upto_region 1 with fail
    rw [HX.out]
    go_wp2_with fail
    refine HFW.out.mono ?_
    rintro e w1 ⟨rfl, hb1⟩
    have HB1 := Stow.mk (Below.call HB.out hb1)
    clear hb1 p0 p1
    go_wp2_with fail
    refine (known13_any _ (HM.out.keep HB1.out) (HPW.out.keep HB1.out)).mono ?_
    rintro e wk ⟨rfl, hbk⟩
    have HBK := Stow.mk (Below.call HB1.out hbk)
    clear hbk
    go_wp2_with fail
    go_ret
    exact ⟨rfl, HBK.out⟩
  | true =>
    go_enter Tryz.func6, Tryz.ntmps6
    go_upto_region 1 with fail
    rw [HX.out]
    go_wp2_with fail
    refine HFW.out.mono ?_
    rintro e w1 ⟨rfl, hb1⟩
    have HP1 := Stow.mk (HP.out.kept hb1)
    have HB1 := Stow.mk (Below.call HB.out hb1)
    have HR1 := Stow.mk (HRS.out.keep hb1)
    clear hb1 p0 p1 HFW HRS HP HX HB
    have p0 := HP1.out.cell (i := 0) rfl
    have p1 := HP1.out.cell (i := 1) rfl
    have HWR := Stow.mk (cfWrite_any c A cap R w1 HR1.out HC.out hf (HPW.out.keep HB1.out))
    have HRW := Stow.mk (fun W' (hb : Below w1.heap.size w1 W') => refWrite13_any c A cap R W' (HR1.out.keep hb) HC.out hf)
    obtain ⟨s, es, hws⟩ : ∃ s e, Cf.write c = (s, e) := ⟨_, _, rfl⟩
    rw [hws] at HWR HRW
    simp only at HWR HRW
    clear hws
    go_wp2_with fail
    refine HWR.out.mono ?_
    rintro e w2 ⟨rfl, hb2⟩
    have HB2 := Stow.mk hb2
    have HRW2 := Stow.mk (HRW.out w2 hb2)
    clear hb2 p0 p1 HWR HRW
    have p0 := (HP1.out.kept HB2.out).cell (i := 0) rfl
    have p1 := (HP1.out.kept HB2.out).cell (i := 1) rfl
    go_wp2_with fail
    refine HRW2.out.mono ?_
    rintro e w3 ⟨rfl, hb3⟩
    have HB3 := Stow.mk (Below.call HB2.out hb3)
    clear hb3 p0 p1 HRW2 HB2
    have hp3 := HP1.out.kept HB3.out
    have hlt := hp3.lt
    have g0 : ∀ x : Later w3.heap.size w3, x.1.cell? ⟨w.heap.size, 0, none⟩ = _ := fun x => x.cell (hp3.cell (i := 0) rfl) hlt
    have g1 : ∀ x : Later w3.heap.size w3, x.1.cell? ⟨w.heap.size, 1, none⟩ = _ := fun x => x.cell (hp3.cell (i := 1) rfl) hlt
    obtain ⟨er, her⟩ : ∃ e, Cf.check c = e := ⟨_, rfl⟩
    have K1 : Stow (∀ x : Later w3.heap.size w3, Calls Tryz.prog 29 #[.agg #[.slice A R.length cap, .string (bs c.f)]] x.1 fun e w' => e = .returned (.int .i64 (er : Nat)) ∧ Below x.1.heap.size x.1 w') := ⟨fun x => by rw [← her]; exact cfCheck_any c A cap R x.1 ((HR1.out.keep HB3.out).keep x.2) HC.out hf⟩
    have K2 : Stow (∀ x : Later w3.heap.size w3, Calls Tryz.prog 30 #[.agg #[.slice A R.length cap, .string (bs c.f)]] x.1 fun e w' => e = .returned (.int .i64 (er : Nat)) ∧ Below x.1.heap.size x.1 w') := ⟨fun x => by rw [← her]; exact refCheck13_any c A cap R x.1 ((HR1.out.keep HB3.out).keep x.2) HC.out hf⟩
    have K3 : Stow (∀ x : Later w3.heap.size w3, Calls Tryz.prog 26 #[] x.1 fun e w' => e = .returned (.bool true) ∧ Below x.1.heap.size x.1 w') := ⟨fun x => known13_any x.1 (HM.out.keep (Below.trans (Below.call HB1.out HB3.out) (x.2.mono (Below.call HB1.out HB3.out).size))) (HPW.out.keep (Below.trans (Below.call HB1.out HB3.out) (x.2.mono (Below.call HB1.out HB3.out).size)))⟩
    have z1 : ((er : Int) == (er : Int)) = true := by simp
    have z2 : ((es : Int) == (es : Int)) = true := by simp
    have z3 : (s == s) = true := by simp
    clear hp3 her
    go_upto_region 5 with fail
    refine wp_region_later w3.heap.size (by kernel_rfl) (by kernel_rfl) ?_
    repeat (go_big_quiet_step (first
      | (go_at_call 29; exact Calls.later (Nat.le_refl _) (K1.out _))
      | (go_at_call 30; exact Calls.later (Nat.le_refl _) (K2.out _))
      | (go_at_call 26; exact Calls.later (Nat.le_refl _) (K3.out _))))
    refine wpQuiet_nil ?_
    rintro ⟨wx, hbx⟩
    clear g0 g1
    go_wp2_with fail
    go_ret
    exact ⟨by first | rfl | simp, Below.trans (Below.call HB1.out HB3.out) (hbx.mono (Below.call HB1.out HB3.out).size)⟩
end Go.Proofs.YtfbhdkkmcfnghaaGreatDoor
end
