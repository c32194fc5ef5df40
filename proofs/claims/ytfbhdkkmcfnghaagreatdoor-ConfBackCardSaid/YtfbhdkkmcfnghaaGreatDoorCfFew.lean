/- Walks of what the laws ask of configs: Few. Conditions: slices' own; texts no longer than an address space. -/
import Derived.Test.YtfbhdkkmcfnghaaGreatDoorCfMem
namespace Go.Proofs.YtfbhdkkmcfnghaaGreatDoor
open Go.RowKit
set_option linter.unusedVariables false
set_option linter.unusedSimpArgs false

theorem all_next {α : Type} {p : α → Bool} {l : List α} {i : Nat} (h : i < l.length) (ha : (l.take i).all p = true) (hb : p l[i] = true) : (l.take (i + 1)).all p = true := by
  rw [List.take_succ_eq_append_getElem h, List.all_append, ha]; simp [hb]
theorem all_not {α : Type} {p : α → Bool} {l : List α} {i : Nat} (h : i < l.length) (hb : p l[i] = false) : l.all p = false := by
  cases hh : l.all p with
  | false => rfl
  | true =>
    have := List.all_eq_true.1 hh _ (List.getElem_mem h)
    rw [hb] at this
    cases this
def Cf.few1 (p : Pd) : Bool := decide (p.n.length + p.v.length ≤ 400)
def Cf.fewP (L : List Pd) : Bool := decide (L.length ≤ 20) && L.all Cf.few1
def Cf.few2 (r : Ru) : Bool := Cf.fewP r.ps && decide (r.tg.length + r.mi.length ≤ 400)
def Cf.fewR (L : List Ru) : Bool := decide (L.length ≤ 40) && L.all Cf.few2
def Cf.few (c : Cf) : Bool := decide (c.f.length ≤ 400) && Cf.fewR c.rs
set_option maxHeartbeats 1000000 in
set_option maxRecDepth 100000 in
theorem pdsFew_any (L : List Pd) (A : Option Addr) (cap : Nat) (w : World) (hS : SlR w 3 (.slice A L.length cap) (L.map Pd.cells)) (hf : ∀ p ∈ L, p.fits) :
    Calls Tryz.prog 109 #[.slice A L.length cap] w fun e w' => e = .returned (.bool (Cf.fewP L)) ∧ Below w.heap.size w w' := by
  have HS := Stow.mk hS
  have HF := Stow.mk hf
  have hlen := hS.len
  simp only [List.length_map] at hlen
  obtain ⟨n, hn⟩ : ∃ n, L.length = n := ⟨_, rfl⟩
  have HNL := Stow.mk hn
  obtain ⟨q, hq⟩ : ∃ q, Cf.fewP L = q := ⟨_, rfl⟩
  have HQ := Stow.mk hq
  rw [hq]
  rw [hn] at hlen ⊢
  clear hS hf hn hq
  by_cases h1 : 20 < n
  · have h1i : (20 : Int) < n := by omega
    go_enter Tryz.func109, Tryz.ntmps109
    go_wp2_with fail
    go_ret
    have : q = false := by rw [← HQ.out, Cf.fewP, HNL.out]; simp; omega
    exact ⟨by rw [this]; rfl, Below.self _⟩
  have h1i : (n : Int) ≤ 20 := by omega
  have HQA : Stow (q = L.all Cf.few1) := ⟨by rw [← HQ.out, Cf.fewP, HNL.out]; simp; omega⟩
  go_enter Tryz.func109, Tryz.ntmps109
  go_wp2_with fail
  go_loopw [3] (fun v wr => ∃ j : Nat, v = .int .i64 (j : Int) ∧ j ≤ n ∧ Stow ((L.take j).all Cf.few1 = true) ∧ Stow (Below w.heap.size w wr)) (fun v _ => n - (intOf v).toNat)
  case atStart => exact ⟨0, rfl, by omega, ⟨rfl⟩, ⟨Below.self _⟩⟩
  case round =>
    obtain ⟨j, rfl, hj, HA, hbr⟩ := hrel
    by_cases hlt : j < n
    · have hl1 : j < L.length := by rw [HNL.out]; exact hlt
      obtain ⟨b, off, rfl, hblt, _⟩ := HS.out.open (by simp; omega)
      obtain ⟨q0, q1, q2⟩ := pd_at (HS.out.keep hbr.out) hl1
      have hfm := HF.out _ (List.getElem_mem hl1)
      have hnx := all_next (p := Cf.few1) hl1 HA.out
      have hnt := all_not (p := Cf.few1) hl1
      obtain ⟨s, hs⟩ : ∃ s, L[j] = s := ⟨_, rfl⟩
      rw [hs] at q0 q1 q2 hfm hnx hnt
      clear hs
      obtain ⟨k, x, y⟩ := s
      simp only at q0 q1 q2
      have hx : x.length ≤ 140737488355328 := hfm.1
      have hy : y.length ≤ 140737488355328 := hfm.2
      have hji : (j : Int) < n := by omega
      have hj0 : (0 : Int) ≤ j := by omega
      unfold Cf.few1 at hnt
      have HNX := Stow.mk hnx
      have HNT := Stow.mk hnt
      clear hfm hnx hnt
      by_cases h400 : 400 < x.length + y.length
      · have d2 : decide ((400 : Int) < (x.length : Int) + y.length) = true := by simp; omega
        go_wp2_with fail
        go_quiet (fail)
        go_wp2_with fail
        go_ret
        have : q = false := by rw [HQA.out]; exact HNT.out (by simp; omega)
        exact ⟨by rw [this]; rfl, Below.drewN' hbr.out _⟩
      · have d2 : decide ((400 : Int) < (x.length : Int) + y.length) = false := by simp; omega
        go_wp2_with fail
        go_quiet (fail)
        go_wp2_with fail
        exact ⟨⟨j + 1, rfl, by omega, ⟨HNX.out (by simp [Cf.few1]; omega)⟩, ⟨Below.drewN' hbr.out _⟩⟩, by simp [intOf]; omega⟩
    · obtain rfl : j = n := by omega
      go_wp2_with fail
      go_ret
      have h := HA.out
      rw [← HNL.out, List.take_length] at h
      exact ⟨by rw [HQA.out, h]; rfl, hbr.out⟩
set_option maxHeartbeats 1000000 in
set_option maxRecDepth 100000 in
theorem rsFew_any (R : List Rm) (n : Nat) (A : Option Addr) (cap : Nat) (w : World) (hn : R.length = n) (hS : RsR w A cap R) :
    Calls Tryz.prog 58 #[.slice A n cap] w fun e w' => e = .returned (.bool (Cf.fewR (R.map Rm.r))) ∧ Below w.heap.size w w' := by
  have HS := Stow.mk hS
  have hlen := hS.row.len
  simp only [List.length_map] at hlen
  have HNL := Stow.mk hn
  obtain ⟨q, hq⟩ : ∃ q, Cf.fewR (R.map Rm.r) = q := ⟨_, rfl⟩
  have HQ := Stow.mk hq
  rw [hq]
  rw [hn] at hlen
  clear hS hn hq
  by_cases h1 : 40 < n
  · have h1i : (40 : Int) < n := by omega
    go_enter Tryz.func58, Tryz.ntmps58
    go_wp2_with fail
    go_ret
    have : q = false := by rw [← HQ.out, Cf.fewR, List.length_map, HNL.out]; simp; omega
    exact ⟨by rw [this]; rfl, Below.self _⟩
  have h1i : (n : Int) ≤ 40 := by omega
  have HQA : Stow (q = (R.map Rm.r).all Cf.few2) := ⟨by rw [← HQ.out, Cf.fewR, List.length_map, HNL.out]; simp; omega⟩
  go_enter Tryz.func58, Tryz.ntmps58
  go_wp2_with fail
  go_loopw [3] (fun v wr => ∃ j : Nat, v = .int .i64 (j : Int) ∧ j ≤ n ∧ Stow (((R.map Rm.r).take j).all Cf.few2 = true) ∧ Stow (Below w.heap.size w wr)) (fun v _ => n - (intOf v).toNat)
  case atStart => exact ⟨0, rfl, by omega, ⟨rfl⟩, ⟨Below.self _⟩⟩
  case round =>
    obtain ⟨j, rfl, hj, HA, hbr⟩ := hrel
    by_cases hlt : j < n
    · have hl1 : j < R.length := by rw [HNL.out]; exact hlt
      obtain ⟨b, off, rfl, hblt, _⟩ := SlR.open HS.out.row (by simp; omega)
      have hra := (rm_at (SlR.keep HS.out.row hbr.out) hl1)
      have hm1 := (HS.out.each _ (List.getElem_mem hl1)).keep hbr.out
      have hlm : j < (R.map Rm.r).length := by rw [List.length_map]; exact hl1
      have hnx := all_next (p := Cf.few2) hlm HA.out
      have hnt := all_not (p := Cf.few2) hlm
      rw [List.getElem_map] at hnx hnt
      obtain ⟨s, hs⟩ : ∃ s, R[j] = s := ⟨_, rfl⟩
      rw [hs] at hra hm1 hnx hnt
      clear hs
      obtain ⟨⟨rank, ps, tg, ap, st, dp, dt, mp, mi, sm⟩, B, kc⟩ := s
      have hltb := hra.1
      have q1 : wr.cell? ⟨b, off + j * 10 + 1, none⟩ = some (.slice B ps.length kc) := hra.2 1 _ rfl
      have q2 : wr.cell? ⟨b, off + j * 10 + 2, none⟩ = some (.string (bs tg)) := hra.2 2 _ rfl
      have q8 : wr.cell? ⟨b, off + j * 10 + 8, none⟩ = some (.string (bs mi)) := hra.2 8 _ rfl
      have g1 : ∀ x : Later wr.heap.size wr, x.1.cell? ⟨b, off + j * 10 + 1, none⟩ = some (.slice B ps.length kc) := fun x => x.cell q1 hltb
      have g2 : ∀ x : Later wr.heap.size wr, x.1.cell? ⟨b, off + j * 10 + 2, none⟩ = some (.string (bs tg)) := fun x => x.cell q2 hltb
      have g8 : ∀ x : Later wr.heap.size wr, x.1.cell? ⟨b, off + j * 10 + 8, none⟩ = some (.string (bs mi)) := fun x => x.cell q8 hltb
      have hx : tg.length ≤ 140737488355328 := hm1.tg
      have hy : mi.length ≤ 140737488355328 := hm1.mi
      have hji : (j : Int) < n := by omega
      have hj0 : (0 : Int) ≤ j := by omega
      have HC : Stow (∀ x : Later wr.heap.size wr, Calls Tryz.prog 109 #[.slice B ps.length kc] x.1 fun e w' => e = .returned (.bool (Cf.fewP ps)) ∧ Below x.1.heap.size x.1 w') := ⟨fun x => pdsFew_any ps B kc x.1 (hm1.row.keep x.2) hm1.fits⟩
      unfold Cf.few2 at hnt hnx
      simp only at hnt hnx
      obtain ⟨fp, hfp⟩ : ∃ b, Cf.fewP ps = b := ⟨_, rfl⟩
      rw [hfp] at HC hnt hnx
      have HNX := Stow.mk hnx
      have HNT := Stow.mk hnt
      clear hm1 q1 q2 q8 hra hnx hnt hfp hlm
      cases fp with
      | false =>
        have hq0 : q = false := by rw [HQA.out]; exact HNT.out rfl
        go_upto_region 6 with fail
        refine wp_region_later wr.heap.size (by kernel_rfl) (by kernel_rfl) ?_
        repeat (go_big_quiet_step ((go_at_call 109; exact Calls.later (Nat.le_refl _) (HC.out _))))
        refine wpQuiet_nil ?_
        rintro ⟨wx, hbx⟩
        clear g1 g2 g8
        go_wp2_with fail
        go_ret
        exact ⟨by rw [hq0]; rfl, hbr.out.trans (hbx.mono hbr.out.size)⟩
      | true =>
        by_cases h400 : 400 < tg.length + mi.length
        · have d2 : decide ((400 : Int) < (tg.length : Int) + mi.length) = true := by simp; omega
          have hq0 : q = false := by rw [HQA.out]; exact HNT.out (by simp; omega)
          go_upto_region 6 with fail
          refine wp_region_later wr.heap.size (by kernel_rfl) (by kernel_rfl) ?_
          repeat (go_big_quiet_step ((go_at_call 109; exact Calls.later (Nat.le_refl _) (HC.out _))))
          refine wpQuiet_nil ?_
          rintro ⟨wx, hbx⟩
          clear g1 g2 g8
          go_wp2_with fail
          go_ret
          exact ⟨by rw [hq0]; rfl, hbr.out.trans (hbx.mono hbr.out.size)⟩
        · have d2 : decide ((400 : Int) < (tg.length : Int) + mi.length) = false := by simp; omega
          have HJ2 : Stow (((R.map Rm.r).take (j + 1)).all Cf.few2 = true) := ⟨HNX.out (by simp; omega)⟩
          go_upto_region 6 with fail
          refine wp_region_later wr.heap.size (by kernel_rfl) (by kernel_rfl) ?_
          repeat (go_big_quiet_step ((go_at_call 109; exact Calls.later (Nat.le_refl _) (HC.out _))))
          refine wpQuiet_nil ?_
          rintro ⟨wx, hbx⟩
          clear g1 g2 g8
          go_wp2_with fail
          exact ⟨⟨j + 1, rfl, by omega, HJ2, ⟨hbr.out.trans (hbx.mono hbr.out.size)⟩⟩, by simp [intOf]; omega⟩
    · obtain rfl : j = n := by omega
      go_wp2_with fail
      go_ret
      have h := HA.out
      rw [List.take_of_length_le (by rw [List.length_map, HNL.out]; exact Nat.le_refl _)] at h
      exact ⟨by rw [HQA.out, h]; rfl, hbr.out⟩
set_option maxHeartbeats 1000000 in
set_option maxRecDepth 100000 in
theorem cfFew_any (c : Cf) (A : Option Addr) (cap : Nat) (R : List Rm) (w : World) (h : RsR w A cap R) (hc : c.rs = R.map Rm.r) (hf : c.f.length ≤ 140737488355328) :
    Calls Tryz.prog 25 #[.agg #[.slice A R.length cap, .string (bs c.f)]] w fun e w' => e = .returned (.bool (Cf.few c)) ∧ Below w.heap.size w w' := by
  obtain ⟨n, hn⟩ : ∃ n, R.length = n := ⟨_, rfl⟩
  have hb1 := Below.alloc' (Below.self w) (.cells #[.slice A n cap, .string (bs c.f)] 54)
  have HB := Stow.mk hb1
  have HC := Stow.mk (rsFew_any R n A cap (w.alloc (.cells #[.slice A n cap, .string (bs c.f)] 54)) hn (h.keep hb1))
  have HE : Stow (Cf.few c = (decide (c.f.length ≤ 400) && Cf.fewR (R.map Rm.r))) := ⟨by unfold Cf.few; rw [hc]⟩
  rw [HE.out, hn]
  obtain ⟨fr, hfr⟩ : ∃ b, Cf.fewR (R.map Rm.r) = b := ⟨_, rfl⟩
  rw [hfr] at HC ⊢
  clear h hc hb1 hn hfr HE
  obtain ⟨crs, cf⟩ := c
  simp only at hf HC HB ⊢
  by_cases h4 : cf.length ≤ 400
  · have h4i : (cf.length : Int) ≤ 400 := by omega
    rw [decide_eq_true h4]
    go_enter Tryz.func25, Tryz.ntmps25
    go_wp2_with fail
    refine HC.out.mono ?_
    rintro e w3 ⟨rfl, hb3⟩
    have HB3 := Stow.mk (Below.call HB.out hb3)
    clear hb3 HC HB
    go_wp2_with fail
    go_ret
    exact ⟨by cases fr <;> rfl, HB3.out⟩
  · have h4i : decide ((cf.length : Int) ≤ 400) = false := by simp; omega
    rw [decide_eq_false h4]
    go_enter Tryz.func25, Tryz.ntmps25
    go_wp2_with fail
    go_ret
    exact ⟨rfl, HB.out⟩
end Go.Proofs.YtfbhdkkmcfnghaaGreatDoor
