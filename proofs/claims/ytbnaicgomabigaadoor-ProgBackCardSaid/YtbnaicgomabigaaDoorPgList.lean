/- Walks of CheckAll of both and of the reference's Few, on operations. Conditions: a slice's own; texts no longer than an address space. -/
import Derived.Test.YtbnaicgomabigaaDoorPgCheck
import Derived.Test.YtbnaicgomabigaaDoorFewQ
namespace Go.Proofs.YtbnaicgomabigaaDoor
open Go.RowKit
set_option linter.unusedVariables false

/-- An operation in a slice: its four cells. -/
structure OpAt (w : World) (b o : Nat) (m : Ob) : Prop where
  lt : b < w.heap.size
  c0 : w.cell? ⟨b, o, none⟩ = some (.int .i64 m.k)
  c1 : w.cell? ⟨b, o + 1, none⟩ = some (.string (bs m.a))
  c2 : w.cell? ⟨b, o + 2, none⟩ = some (.string (bs m.b))
  c3 : w.cell? ⟨b, o + 3, none⟩ = some (.int .i64 m.n)
theorem op_at {w : World} {b off n cap k : Nat} {L : List Ob} (h : SlR w 4 (.slice (some ⟨b, off, none⟩) n cap) (L.map Ob.cells)) (hk : k < L.length) : OpAt w b (off + k * 4) L[k] := by
  have hi : (L.map Ob.cells)[k]? = some (L[k].cells) := by rw [List.getElem?_map, List.getElem?_eq_getElem hk]; rfl
  obtain ⟨hb, hc⟩ := h.cells hi
  exact ⟨hb, hc 0 _ rfl, hc 1 _ rfl, hc 2 _ rfl, hc 3 _ rfl⟩

theorem Pg.all_bad {L : List Ob} {j n : Nat} {m : Ob} (h : j < L.length) (hj : L[j] = m) (h0 : Pg.allErr (L.take j) = 0) (hn : Pg.check m = n) (hne : n ≠ 0) (hl : L.length ≤ 12) : Pg.checkAll L = n := by
  have h1 := Pg.allErr_take h h0
  rw [hj, hn] at h1
  unfold Pg.checkAll
  rw [if_neg (by omega), Pg.allErr_stop (j := j + 1) (by rw [h1]; exact hne), h1]
theorem Pg.all_good {L : List Ob} {j : Nat} {m : Ob} (h : j < L.length) (hj : L[j] = m) (h0 : Pg.allErr (L.take j) = 0) (hn : Pg.check m = 0) : Pg.allErr (L.take (j + 1)) = 0 := by
  rw [Pg.allErr_take h h0, hj, hn]

set_option maxHeartbeats 1000000 in
set_option maxRecDepth 100000 in
theorem pgCheckAll_any (A : Option Addr) (cap : Nat) (L : List Ob) (w : World) (hS : SlR w 4 (.slice A L.length cap) (L.map Ob.cells)) (hf : ∀ m ∈ L, m.a.length ≤ 140737488355328 ∧ m.b.length ≤ 140737488355328) :
    Calls Tryd.prog 20 #[.slice A L.length cap] w fun e w' => e = .returned (.int .i64 (Pg.checkAll L : Nat)) ∧ Below w.heap.size w w' := by
  have HS := Stow.mk hS
  have HF := Stow.mk hf
  have hlen := hS.len
  simp only [List.length_map] at hlen
  clear hS hf
  by_cases h1 : 12 < L.length
  · have HN : Stow (Pg.checkAll L = 8) := ⟨by unfold Pg.checkAll; rw [if_pos h1]⟩
    have h1i : (12 : Int) < L.length := by omega
    go_enter Tryd.func20, Tryd.ntmps20
    go_wp2_with fail
    go_ret
    exact ⟨by rw [HN.out]; rfl, Below.self _⟩
  have h1i : (L.length : Int) ≤ 12 := by omega
  have HL : Stow (L.length ≤ 12) := ⟨by omega⟩
  go_enter Tryd.func20, Tryd.ntmps20
  go_wp2_with fail
  go_loopw [11] (fun v wr => ∃ j : Nat, v = .int .i64 (j : Int) ∧ j ≤ L.length ∧ Stow (Pg.allErr (L.take j) = 0) ∧ Below w.heap.size w wr) (fun v _ => L.length - (intOf v).toNat)
  case atStart => exact ⟨0, rfl, by omega, ⟨rfl⟩, Below.self _⟩
  case round =>
    obtain ⟨j, rfl, hj, HJ, hbr⟩ := hrel
    by_cases hlt : j < L.length
    · obtain ⟨b, off, rfl, hblt, _⟩ := HS.out.open (by simp; omega)
      have hsp := op_at (HS.out.keep hbr) hlt
      have hfm := HF.out _ (List.getElem_mem hlt)
      obtain ⟨s, hs⟩ : ∃ s, L[j] = s := ⟨_, rfl⟩
      have HSJ := Stow.mk hs
      rw [hs] at hsp hfm
      clear hs
      obtain ⟨hltb, q0, q1, q2, q3⟩ := hsp
      have HFM := Stow.mk hfm
      clear hfm
      have hji : (j : Int) < L.length := by omega
      have HBR := Stow.mk hbr
      obtain ⟨c, hc⟩ : ∃ c, Pg.check s = c := ⟨_, rfl⟩
      have HCN := Stow.mk hc
      clear hc
      go_wp2_with fail
      refine (pgCheck_any s _ HFM.out.1 HFM.out.2).mono ?_
      rw [HCN.out]
      rintro e w1 ⟨rfl, hb1⟩
      have HB1 : Stow (Below w.heap.size w w1) := ⟨Below.trans (Below.alloc HBR.out HBR.out.size _) (hb1.mono (by have := HBR.out.size; simp; omega))⟩
      clear hb1 q0 q1 q2 q3
      by_cases hc0 : c = 0
      · subst hc0
        go_wp2_with fail
        exact ⟨⟨j + 1, rfl, by omega, ⟨Pg.all_good hlt HSJ.out HJ.out HCN.out⟩, HB1.out⟩, by simp [intOf]; omega⟩
      · have h0i : ((c : Int) != 0) = true := by rw [bne_iff_ne]; omega
        go_wp2_with fail
        go_ret
        exact ⟨by rw [Pg.all_bad hlt HSJ.out HJ.out HCN.out hc0 HL.out]; rfl, HB1.out⟩
    · obtain rfl : j = L.length := by omega
      have HN : Stow (Pg.checkAll L = 0) := ⟨by
        have := HJ.out
        rw [List.take_length] at this
        unfold Pg.checkAll
        rw [if_neg (by omega)]
        exact this⟩
      go_wp2_with fail
      go_ret
      exact ⟨by rw [HN.out]; rfl, hbr⟩

set_option maxHeartbeats 1000000 in
set_option maxRecDepth 100000 in
theorem pgRefCheckAll_any (A : Option Addr) (cap : Nat) (L : List Ob) (w : World) (hS : SlR w 4 (.slice A L.length cap) (L.map Ob.cells)) (hf : ∀ m ∈ L, m.a.length ≤ 140737488355328 ∧ m.b.length ≤ 140737488355328) :
    Calls Tryd.prog 21 #[.slice A L.length cap] w fun e w' => e = .returned (.int .i64 (Pg.checkAll L : Nat)) ∧ Below w.heap.size w w' := by
  have HS := Stow.mk hS
  have HF := Stow.mk hf
  have hlen := hS.len
  simp only [List.length_map] at hlen
  clear hS hf
  by_cases h1 : 12 < L.length
  · have HN : Stow (Pg.checkAll L = 8) := ⟨by unfold Pg.checkAll; rw [if_pos h1]⟩
    have h1i : (12 : Int) < L.length := by omega
    go_enter Tryd.func21, Tryd.ntmps21
    go_wp2_with fail
    go_ret
    exact ⟨by rw [HN.out]; rfl, Below.self _⟩
  have h1i : (L.length : Int) ≤ 12 := by omega
  have HL : Stow (L.length ≤ 12) := ⟨by omega⟩
  go_enter Tryd.func21, Tryd.ntmps21
  go_wp2_with fail
  go_loopw [3] (fun v wr => ∃ j : Nat, v = .int .i64 (j : Int) ∧ j ≤ L.length ∧ Stow (Pg.allErr (L.take j) = 0) ∧ Below w.heap.size w wr) (fun v _ => L.length - (intOf v).toNat)
  case atStart => exact ⟨0, rfl, by omega, ⟨rfl⟩, Below.self _⟩
  case round =>
    obtain ⟨j, rfl, hj, HJ, hbr⟩ := hrel
    by_cases hlt : j < L.length
    · obtain ⟨b, off, rfl, hblt, _⟩ := HS.out.open (by simp; omega)
      have hsp := op_at (HS.out.keep hbr) hlt
      have hfm := HF.out _ (List.getElem_mem hlt)
      obtain ⟨s, hs⟩ : ∃ s, L[j] = s := ⟨_, rfl⟩
      have HSJ := Stow.mk hs
      rw [hs] at hsp hfm
      clear hs
      obtain ⟨hltb, q0, q1, q2, q3⟩ := hsp
      have HFM := Stow.mk hfm
      clear hfm
      have hji : (j : Int) < L.length := by omega
      have HBR := Stow.mk hbr
      obtain ⟨c, hc⟩ : ∃ c, Pg.check s = c := ⟨_, rfl⟩
      have HCN := Stow.mk hc
      clear hc
      go_wp2_with fail
      refine (pgRefCheck_any s _ HFM.out.1 HFM.out.2).mono ?_
      rw [HCN.out]
      rintro e w1 ⟨rfl, hb1⟩
      have HB1 : Stow (Below w.heap.size w w1) := ⟨HBR.out.trans (hb1.mono HBR.out.size)⟩
      clear hb1 q0 q1 q2 q3
      by_cases hc0 : c = 0
      · subst hc0
        go_wp2_with fail
        exact ⟨⟨j + 1, rfl, by omega, ⟨Pg.all_good hlt HSJ.out HJ.out HCN.out⟩, HB1.out⟩, by simp [intOf]; omega⟩
      · have h0i : ((c : Int) != 0) = true := by rw [bne_iff_ne]; omega
        go_wp2_with fail
        go_ret
        exact ⟨by rw [Pg.all_bad hlt HSJ.out HJ.out HCN.out hc0 HL.out]; rfl, HB1.out⟩
    · obtain rfl : j = L.length := by omega
      have HN : Stow (Pg.checkAll L = 0) := ⟨by
        have := HJ.out
        rw [List.take_length] at this
        unfold Pg.checkAll
        rw [if_neg (by omega)]
        exact this⟩
      go_wp2_with fail
      go_ret
      exact ⟨by rw [HN.out]; rfl, hbr⟩

def Pg.few (L : List Ob) : Bool := decide (L.length ≤ 40) && L.all fun o => decide (o.a.length + o.b.length ≤ 400)
theorem Pg.few_few {L : List Ob} (h : Pg.few L = true) : L.length ≤ 40 ∧ ∀ m ∈ L, m.a.length + m.b.length ≤ 400 := by
  simpa [Pg.few, List.all_eq_true] using h

set_option maxHeartbeats 1000000 in
set_option maxRecDepth 100000 in
theorem pgFew_any (A : Option Addr) (cap : Nat) (L : List Ob) (w : World) (hS : SlR w 4 (.slice A L.length cap) (L.map Ob.cells)) (hf : ∀ m ∈ L, m.a.length ≤ 140737488355328 ∧ m.b.length ≤ 140737488355328) :
    Calls Tryd.prog 12 #[.slice A L.length cap] w fun e w' => e = .returned (.bool (Pg.few L)) ∧ Below w.heap.size w w' := by
  have HS := Stow.mk hS
  have HF := Stow.mk hf
  have hlen := hS.len
  simp only [List.length_map] at hlen
  clear hS hf
  by_cases h1 : 40 < L.length
  · have HN : Stow (Pg.few L = false) := ⟨by unfold Pg.few; simp; omega⟩
    have h1i : (40 : Int) < L.length := by omega
    go_enter Tryd.func12, Tryd.ntmps12
    go_wp2_with fail
    go_ret
    exact ⟨by rw [HN.out]; rfl, Below.self _⟩
  have h1i : (L.length : Int) ≤ 40 := by omega
  have HN : Stow (Pg.few L = L.all fun o => decide (o.a.length + o.b.length ≤ 400)) := ⟨by unfold Pg.few; simp; omega⟩
  go_enter Tryd.func12, Tryd.ntmps12
  go_wp2_with fail
  go_loopw [3] (fun v wr => ∃ j : Nat, v = .int .i64 (j : Int) ∧ j ≤ L.length ∧ Stow ((L.take j).all (fun o => decide (o.a.length + o.b.length ≤ 400)) = true) ∧ Below w.heap.size w wr) (fun v _ => L.length - (intOf v).toNat)
  case atStart => exact ⟨0, rfl, by omega, ⟨rfl⟩, Below.self _⟩
  case round =>
    obtain ⟨j, rfl, hj, HJ, hbr⟩ := hrel
    by_cases hlt : j < L.length
    · obtain ⟨b, off, rfl, hblt, _⟩ := HS.out.open (by simp; omega)
      have hsp := op_at (HS.out.keep hbr) hlt
      have hfm := HF.out _ (List.getElem_mem hlt)
      obtain ⟨s, hs⟩ : ∃ s, L[j] = s := ⟨_, rfl⟩
      have HSJ := Stow.mk hs
      rw [hs] at hsp hfm
      clear hs
      obtain ⟨hltb, q0, q1, q2, q3⟩ := hsp
      obtain ⟨k, x, y, n⟩ := s
      simp only at q0 q1 q2 q3 hfm
      obtain ⟨hx, hy⟩ := hfm
      have hji : (j : Int) < L.length := by omega
      have HBR := Stow.mk hbr
      by_cases h400 : 400 < x.length + y.length
      · have HB : Stow (L.all (fun o => decide (o.a.length + o.b.length ≤ 400)) = false) := ⟨allp_false_of hlt (by rw [HSJ.out]; simp; omega)⟩
        have d2 : (400 : Int) < (x.length : Int) + y.length := by omega
        clear hbr
        go_wp2_with fail
        go_quiet (fail)
        go_wp2_with fail
        go_ret
        exact ⟨by rw [HN.out, HB.out]; rfl, by first | exact HBR.out | exact Below.drewN' HBR.out _⟩
      · have HB : Stow ((L.take (j + 1)).all (fun o => decide (o.a.length + o.b.length ≤ 400)) = true) := ⟨allp_take_succ hlt HJ.out (by rw [HSJ.out]; simp; omega)⟩
        have d2 : ¬ (400 : Int) < (x.length : Int) + y.length := by omega
        clear hbr
        go_wp2_with fail
        go_quiet (fail)
        go_wp2_with fail
        exact ⟨⟨j + 1, rfl, by omega, HB, by first | exact HBR.out | exact Below.drewN' HBR.out _⟩, by simp [intOf]; omega⟩
    · obtain rfl : j = L.length := by omega
      go_wp2_with fail
      go_ret
      refine ⟨?_, hbr⟩
      have h := HJ.out
      rw [List.take_length] at h
      rw [HN.out, h]; rfl
end Go.Proofs.YtbnaicgomabigaaDoor
