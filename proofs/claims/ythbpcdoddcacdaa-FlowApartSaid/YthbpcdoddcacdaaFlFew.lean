/- Walks of what the laws ask of flows: few, Few. Conditions: slices' own; texts no longer than a length may be. -/
import Derived.Test.YthbpcdoddcacdaaFlSame
namespace Go.Proofs.Ythbpcdoddcacdaa
open Go.RowKit
set_option linter.unusedVariables false

set_option maxHeartbeats 1000000 in
set_option maxRecDepth 100000 in
theorem oxFew_any (L : List Ox) (A : Option Addr) (cap : Nat) (w : World) (hS : SlR w 4 (.slice A L.length cap) (L.map Ox.cells)) (hf : ∀ m ∈ L, m.a.length ≤ maxLen ∧ m.b.length ≤ maxLen) :
    Calls Try.prog 60 #[.slice A L.length cap] w fun e w' => ∃ r, e = .returned (.bool r) ∧ (r = true → L.length ≤ 40) ∧ Below w.heap.size w w' := by
  have HS := Stow.mk hS
  have HF := Stow.mk hf
  have hlen := hS.len
  simp only [List.length_map] at hlen
  clear hS hf
  by_cases h1 : 40 < L.length
  · have h1i : (40 : Int) < L.length := by omega
    go_enter Try.func60, Try.ntmps60
    go_wp2_with fail
    go_ret
    exact ⟨false, rfl, by simp, Below.self _⟩
  have h1i : (L.length : Int) ≤ 40 := by omega
  have HN : Stow (L.length ≤ 40) := ⟨by omega⟩
  go_enter Try.func60, Try.ntmps60
  go_wp2_with fail
  go_loopw [3] (fun v wr => ∃ j : Nat, v = .int .i64 (j : Int) ∧ j ≤ L.length ∧ Below w.heap.size w wr) (fun v _ => L.length - (intOf v).toNat)
  case atStart => exact ⟨0, rfl, by omega, Below.self _⟩
  case round =>
    obtain ⟨j, rfl, hj, hbr⟩ := hrel
    by_cases hlt : j < L.length
    · obtain ⟨b, off, rfl, hblt, _⟩ := HS.out.open (by simp; omega)
      have hsp := ox_at (HS.out.keep hbr) hlt
      have hfm := HF.out _ (List.getElem_mem hlt)
      obtain ⟨s, hs⟩ : ∃ s, L[j] = s := ⟨_, rfl⟩
      rw [hs] at hsp hfm
      clear hs
      obtain ⟨hltb, q0, q1, q2, q3⟩ := hsp
      obtain ⟨k, x, y, n⟩ := s
      simp only at q0 q1 q2 q3 hfm
      obtain ⟨hx, hy⟩ := hfm
      unfold maxLen at hx hy
      have hji : (j : Int) < L.length := by omega
      have HBR := Stow.mk hbr
      obtain ⟨t, ht⟩ : ∃ t, IntKind.i64.wrap ((x.length : Int) + y.length) = t := ⟨_, rfl⟩
      clear hbr
      by_cases h400 : 400 < t
      · have d2 : decide ((400 : Int) < t) = true := by simpa using h400
        go_wp2_with fail
        go_quiet (fail)
        go_wp2_with fail
        go_ret
        exact ⟨false, rfl, by simp, by first | exact HBR.out | exact Below.drewN' HBR.out _⟩
      · have d2 : decide ((400 : Int) < t) = false := by simpa using h400
        go_wp2_with fail
        go_quiet (fail)
        go_wp2_with fail
        exact ⟨⟨j + 1, rfl, by omega, by first | exact HBR.out | exact Below.drewN' HBR.out _⟩, by simp [intOf]; omega⟩
    · obtain rfl : j = L.length := by omega
      go_wp2_with fail
      go_ret
      exact ⟨true, rfl, fun _ => HN.out, hbr⟩
set_option maxHeartbeats 1000000 in
set_option maxRecDepth 100000 in
theorem rqFew_any (m h p b : Txt) (hs : List Hd) (A : Option Addr) (cap : Nat) (w : World) (hS : SlR w 2 (.slice A hs.length cap) (hs.map Hd.cells)) (hf : ∀ m ∈ hs, m.1.length ≤ maxLen ∧ m.2.length ≤ maxLen)
    (hm : m.length ≤ maxLen) (hh : h.length ≤ maxLen) (hp : p.length ≤ maxLen) (hb : b.length ≤ maxLen) :
    Calls Try.prog 61 #[.agg #[.string (bs m), .string (bs h), .string (bs p), .slice A hs.length cap, .string (bs b)]] w fun e w' => ∃ r, e = .returned (.bool r) ∧ (r = true → hs.length ≤ 40) ∧ Below w.heap.size w w' := by
  have HH := Stow.mk (Held.made w [.string (bs m), .string (bs h), .string (bs p), .slice A hs.length cap, .string (bs b)] 28)
  have HB := Stow.mk (Below.alloc' (Below.self w) (.cells #[.string (bs m), .string (bs h), .string (bs p), .slice A hs.length cap, .string (bs b)] 28))
  obtain ⟨W0, hW0⟩ : ∃ W, w.alloc (.cells #[.string (bs m), .string (bs h), .string (bs p), .slice A hs.length cap, .string (bs b)] 28) = W := ⟨_, rfl⟩
  rw [hW0] at HB
  rw [show w.alloc (.cells [.string (bs m), .string (bs h), .string (bs p), .slice A hs.length cap, .string (bs b)].toArray 28) = W0 from hW0] at HH
  have HS := Stow.mk (hS.keep HB.out)
  have HF := Stow.mk hf
  have hlen := hS.len
  simp only [List.length_map] at hlen
  unfold maxLen at hm hh hp hb
  have q0 := HH.out.cell (i := 0) rfl
  have q1 := HH.out.cell (i := 1) rfl
  have q2 := HH.out.cell (i := 2) rfl
  have q3 := HH.out.cell (i := 3) rfl
  have q4 := HH.out.cell (i := 4) rfl
  clear hS hf
  obtain ⟨t1, ht1⟩ : ∃ t, IntKind.i64.wrap ((m.length : Int) + h.length) = t := ⟨_, rfl⟩
  obtain ⟨t2, ht2⟩ : ∃ t, IntKind.i64.wrap (t1 + (p.length : Int)) = t := ⟨_, rfl⟩
  obtain ⟨t3, ht3⟩ : ∃ t, IntKind.i64.wrap (t2 + (b.length : Int)) = t := ⟨_, rfl⟩
  by_cases h2000 : 2000 < t3
  · have d2 : decide ((2000 : Int) < t3) = true := by simpa using h2000
    go_enter Try.func61, Try.ntmps61
    go_wp2_with fail
    go_ret
    first | exact ⟨false, rfl, by simp, HB.out⟩ | exact .inl ⟨rfl, HB.out⟩
  have d2 : decide ((2000 : Int) < t3) = false := by simpa using h2000
  by_cases h1 : 40 < hs.length
  · have h1i : (40 : Int) < hs.length := by omega
    go_enter Try.func61, Try.ntmps61
    go_wp2_with fail
    go_ret
    first | exact ⟨false, rfl, by simp, HB.out⟩ | exact .inl ⟨rfl, HB.out⟩
  have h1i : (hs.length : Int) ≤ 40 := by omega
  have HN : Stow (hs.length ≤ 40) := ⟨by omega⟩
  go_enter Try.func61, Try.ntmps61
  go_wp2_with fail
  clear hW0 q0 q1 q2 q3 q4
  go_loopw [3] (fun v wr => ∃ j : Nat, v = .int .i64 (j : Int) ∧ j ≤ hs.length ∧ Stow (Below W0.heap.size W0 wr)) (fun v _ => hs.length - (intOf v).toNat)
  case atStart => exact ⟨0, rfl, by omega, ⟨Below.self _⟩⟩
  case round =>
    obtain ⟨j, rfl, hj, HBR⟩ := hrel
    have q3 := (HH.out.kept HBR.out).cell (i := 3) rfl
    have HBW := Stow.mk (HB.out.trans (HBR.out.mono HB.out.size))
    by_cases hlt : j < hs.length
    · obtain ⟨bb, off, rfl, hblt, _⟩ := HS.out.open (by simp; omega)
      have hsp := head_at (HS.out.keep HBR.out) hlt
      have hfm := HF.out _ (List.getElem_mem hlt)
      obtain ⟨s, hs2⟩ : ∃ s, hs[j] = s := ⟨_, rfl⟩
      rw [hs2] at hsp hfm
      clear hs2
      obtain ⟨hltb, c0, c1⟩ := hsp
      obtain ⟨x, y⟩ := s
      simp only at c0 c1 hfm
      obtain ⟨hx, hy⟩ := hfm
      unfold maxLen at hx hy
      have hji : (j : Int) < hs.length := by omega
      obtain ⟨t, ht⟩ : ∃ t, IntKind.i64.wrap ((x.length : Int) + y.length) = t := ⟨_, rfl⟩
      by_cases h400 : 400 < t
      · have d2 : decide ((400 : Int) < t) = true := by simpa using h400
        go_wp2_with fail
        go_quiet (fail)
        go_wp2_with fail
        go_ret
        exact ⟨false, rfl, by simp, by first | exact HBW.out | exact Below.drewN' HBW.out _⟩
      · have d2 : decide ((400 : Int) < t) = false := by simpa using h400
        go_wp2_with fail
        go_quiet (fail)
        go_wp2_with fail
        exact ⟨⟨j + 1, rfl, by omega, by first | exact HBR | exact ⟨Below.drewN' HBR.out _⟩⟩, by simp [intOf]; omega⟩
    · obtain rfl : j = hs.length := by omega
      go_wp2_with fail
      go_ret
      exact ⟨true, rfl, fun _ => HN.out, HBW.out⟩
/-- Texts of a frame are no longer than a length may be. -/
structure Fr.fits (c : Fr) : Prop where
  ops : ∀ m ∈ c.ops, m.a.length ≤ maxLen ∧ m.b.length ≤ maxLen
  hs : ∀ m ∈ c.hs, m.1.length ≤ maxLen ∧ m.2.length ≤ maxLen
  body : c.body.length ≤ maxLen
  m : c.m.length ≤ maxLen
  h : c.h.length ≤ maxLen
  p : c.p.length ≤ maxLen
  b : c.b.length ≤ maxLen
/-- What few frames keep to. -/
def Fr.few (c : Fr) : Prop := c.ops.length ≤ 40 ∧ c.hs.length ≤ 40 ∧ c.body.length ≤ 1000
theorem Fr.few.small {c : Fr} (h : c.few) : c.small := ⟨by have := h.1; omega, by have := h.2.1; omega⟩
set_option maxHeartbeats 1000000 in
set_option maxRecDepth 100000 in
theorem frFew_any (x : Fm) (w : World) (h : FmR w x) (hf : x.c.fits) :
    Calls Try.prog 15 #[x.val] w fun e w' => ∃ r, e = .returned (.bool r) ∧ (r = true → x.c.few) ∧ Below w.heap.size w w' := by
  have HX := Stow.mk (Held.made w x.cells 30)
  have HB := Stow.mk (Below.alloc' (Below.self w) (.cells x.cells.toArray 30))
  obtain ⟨W0, hW0⟩ : ∃ W, w.alloc (.cells x.cells.toArray 30) = W := ⟨_, rfl⟩
  rw [hW0] at HB HX
  have HO := Stow.mk (oxFew_any x.c.ops x.oa x.oc W0 (h.ops.keep HB.out) hf.ops)
  have HQ := Stow.mk (fun W (hb : Below w.heap.size w W) => rqFew_any x.c.m x.c.h x.c.p x.c.b x.c.hs x.ha x.hc W (h.heads.keep hb) hf.hs hf.m hf.h hf.p hf.b)
  have hbl := hf.body
  unfold maxLen at hbl
  have HW0 := Stow.mk hW0
  unfold Fm.val
  unfold Fm.cells at HW0 ⊢
  clear hW0 h hf
  go_enter Try.func15, Try.ntmps15
  go_upto_region 1 with fail
  generalize hW : World.alloc w _ = W
  obtain rfl : W = W0 := hW.symm.trans HW0.out
  clear hW HW0
  have q1 := HX.out.cell (i := 1) rfl
  go_wp2_with fail
  refine HO.out.mono ?_
  rintro e w1 ⟨r, rfl, hr, hb1⟩
  have HX := Stow.mk (HX.out.kept hb1)
  have HB := Stow.mk (HB.out.trans (hb1.mono HB.out.size))
  have HR := Stow.mk hr
  clear q1 hb1 hr
  cases r
  · go_wp2_with fail
    go_ret
    first | exact ⟨false, rfl, by simp, HB.out⟩ | exact .inl ⟨rfl, HB.out⟩
  · have q4 := HX.out.cell (i := 4) rfl
    by_cases hb : x.c.body.length ≤ 1000
    · have d1 : decide ((x.c.body.length : Int) ≤ 1000) = true := by simp; omega
      have d1' : decide (x.c.body.length ≤ 1000) = true := by simpa using hb
      have q5 := HX.out.cell (i := 5) rfl
      have q6 := HX.out.cell (i := 6) rfl
      have q7 := HX.out.cell (i := 7) rfl
      have q8 := HX.out.cell (i := 8) rfl
      have q9 := HX.out.cell (i := 9) rfl
      have HBL := Stow.mk hb
      clear hb
      go_wp2_with fail
      refine (HQ.out _ HB.out).mono ?_
      rintro e w2 ⟨r, rfl, hr2, hb2⟩
      have HB := Stow.mk (HB.out.trans (hb2.mono HB.out.size))
      have HR2 := Stow.mk hr2
      clear hb2 hr2
      go_wp2_with fail
      go_ret
      exact ⟨r, by first | rfl | simp, fun e => ⟨HR.out (by simp), HR2.out e, HBL.out⟩, HB.out⟩
    · have d1 : decide ((x.c.body.length : Int) ≤ 1000) = false := by simp; omega
      have d1' : decide (x.c.body.length ≤ 1000) = false := by simp; omega
      go_wp2_with fail
      go_ret
      exact ⟨false, rfl, by simp, HB.out⟩
set_option maxHeartbeats 1000000 in
set_option maxRecDepth 100000 in
theorem flFew_any (A : Option Addr) (cap n : Nat) (L : List Fm) (hops : Int) (w : World) (h : FlR w A cap L) (hf : ∀ x ∈ L, x.c.fits) (hnL : L.length = n) :
    Calls Try.prog 14 #[flv A n cap hops] w fun e w' => ∃ r, e = .returned (.bool r) ∧ (r = true → n ≤ 12 ∧ ∀ x ∈ L, x.c.few) ∧ Below w.heap.size w w' := by
  have HX := Stow.mk (Held.made w [.slice A n cap, .int .i64 hops] 24)
  have HB := Stow.mk (Below.alloc' (Below.self w) (.cells #[.slice A n cap, .int .i64 hops] 24))
  obtain ⟨W0, hW0⟩ : ∃ W, w.alloc (.cells #[.slice A n cap, .int .i64 hops] 24) = W := ⟨_, rfl⟩
  rw [hW0] at HB
  rw [show w.alloc (.cells [.slice A n cap, .int .i64 hops].toArray 24) = W0 from hW0] at HX
  have HFL := Stow.mk (h.keep HB.out)
  have HFI := Stow.mk hf
  have HNL := Stow.mk hnL
  have hln := h.row.len
  simp only [List.length_map] at hln
  rw [hnL] at hln
  have HSV := Stow.mk (show SlR w 13 (.slice A n cap) (L.map Fm.cells) by rw [← hnL]; exact h.row)
  have q0 := HX.out.cell (i := 0) rfl
  clear h hf hnL
  go_enter Try.func14, Try.ntmps14
  go_wp2_with fail
  clear hW0
  go_loopw [3] (fun v wr => ∃ j : Nat, v = .int .i64 (j : Int) ∧ j ≤ n ∧ j ≤ 13 ∧ Stow (∀ x ∈ L.take j, x.c.few) ∧ Stow (Below W0.heap.size W0 wr)) (fun v _ => n - (intOf v).toNat)
  case atStart => exact ⟨0, rfl, by omega, by omega, ⟨by simp⟩, ⟨Below.self _⟩⟩
  case round =>
    obtain ⟨j, rfl, hj, hj13, HJ, HBR⟩ := hrel
    clear q0
    have q0 := (HX.out.kept HBR.out).cell (i := 0) rfl
    have HBW := Stow.mk (HB.out.trans (HBR.out.mono HB.out.size))
    by_cases hlt : j < n
    · by_cases hj12 : j ≤ 12
      · have d1 : decide ((j : Int) < n) = true := by simp; omega
        have d2 : decide ((j : Int) ≤ 12) = true := by simp; omega
        have hjL : j < L.length := by rw [HNL.out]; exact hlt
        have hF := HFL.out.keep HBR.out
        obtain ⟨b, off, rfl, hblt, _⟩ := HSV.out.open (by simp; omega)
        have hra := (fm_at hF.row hjL).2
        have HC := Stow.mk (frFew_any L[j] wr (hF.each _ (List.getElem_mem hjL)) (HFI.out _ (List.getElem_mem hjL)))
        have HTS := Stow.mk (fun (hx : L[j].c.few) => show ∀ x ∈ L.take (j + 1), x.c.few from fun x hx2 => by
          rw [List.take_succ_eq_append_getElem hjL] at hx2
          rcases List.mem_append.1 hx2 with h | h
          · exact HJ.out x h
          · obtain rfl : x = L[j] := by simpa using h
            exact hx)
        obtain ⟨x, hx⟩ : ∃ x, L[j] = x := ⟨_, rfl⟩
        rw [hx] at hra HC HTS
        have HRA := Stow.mk hra
        have hji : (j : Int) < n := by omega
        have hj0 : (0 : Int) ≤ j := by omega
        clear hx hra hF
        go_wp2_with (refine wpList_load_mid rfl 30 (.tmp 18) rfl b (off + j * 13) rfl x.cells _ HRA.out Try.underlying30 rfl (by rw [Fm.cells_len]; kernel_rfl) ?_)
        refine HC.out.mono ?_
        rintro e w2 ⟨r, rfl, hr, hb2⟩
        have HB2 := Stow.mk (HBR.out.trans (hb2.mono HBR.out.size))
        have HB3 := Stow.mk (HBW.out.trans (hb2.mono HBW.out.size))
        have HR := Stow.mk hr
        clear hr hb2
        cases r
        · go_wp2_with fail
          go_ret
          first | exact ⟨false, rfl, by simp, HB3.out⟩ | exact .inl ⟨rfl, HB3.out⟩
        · have HN := Stow.mk (HTS.out (HR.out rfl))
          go_wp2_with fail
          exact ⟨⟨j + 1, rfl, by omega, by omega, HN, HB2⟩, by simp [intOf]; omega⟩
      · have d1 : decide ((j : Int) < n) = true := by simp; omega
        have d2 : decide ((j : Int) ≤ 12) = false := by simp; omega
        have hn12 : ¬ (n : Int) ≤ 12 := by omega
        go_wp2_with fail
        go_ret
        first | exact ⟨false, by first | rfl | simp, by simp, HBW.out⟩ | exact .inl ⟨by first | rfl | simp, HBW.out⟩
    · obtain rfl : j = n := by omega
      have hni : decide ((j : Int) < j) = false := by simp
      have HALL := Stow.mk (show ∀ x ∈ L, x.c.few by have := HJ.out; rw [← HNL.out, List.take_length] at this; exact this)
      by_cases hn12 : j ≤ 12
      · have d2 : decide ((j : Int) ≤ 12) = true := by simp; omega
        have HN12 := Stow.mk hn12
        clear hn12 hj13
        go_wp2_with fail
        go_ret
        first | exact ⟨true, by first | rfl | simp, fun _ => ⟨HN12.out, HALL.out⟩, HBW.out⟩ | exact .inr ⟨by first | rfl | simp, ⟨HN12.out, HALL.out⟩, HBW.out⟩
      · have d2 : decide ((j : Int) ≤ 12) = false := by simp; omega
        go_wp2_with fail
        go_ret
        first | exact ⟨false, by first | rfl | simp, by simp, HBW.out⟩ | exact .inl ⟨by first | rfl | simp, HBW.out⟩
end Go.Proofs.Ythbpcdoddcacdaa
