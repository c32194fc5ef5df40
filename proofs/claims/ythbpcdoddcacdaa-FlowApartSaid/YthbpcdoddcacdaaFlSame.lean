/- Walks of the reference's Same on operations, headers, requests, frames, flows, at alike ones. Conditions: slices' own. -/
import Derived.Test.YthbpcdoddcacdaaFlCopy
import Derived.Test.YthbpcdoddcacdaaHead
namespace Go.Proofs.Ythbpcdoddcacdaa
open Go.RowKit
set_option linter.unusedVariables false

theorem eq_ox (d : Nat) (k n : Int) (a b : ByteArray) (w : World) : (Op.equalIn (d + 2) 106 (.agg #[.int .i64 k, .string a, .string b, .int .i64 n]) (.agg #[.int .i64 k, .string a, .string b, .int .i64 n])).run Try.prog w = .ok true w := by
  have hu := Try.underlying106
  have hi := Try.underlying3
  have ht := Try.underlying9
  have hs : (Try.prog.info? 3).map (·.size) = some 1 := by kernel_rfl
  have hs2 : (Try.prog.info? 9).map (·.size) = some 1 := by kernel_rfl
  rw [show d + 2 = (d + 1) + 1 from rfl, Op.equalIn]
  simp [go_sem, run_underlying hu]
structure OxAt (w : World) (b o : Nat) (m : Ox) : Prop where
  lt : b < w.heap.size
  c0 : w.cell? ⟨b, o, none⟩ = some (.int .i64 m.k)
  c1 : w.cell? ⟨b, o + 1, none⟩ = some (.string (bs m.a))
  c2 : w.cell? ⟨b, o + 2, none⟩ = some (.string (bs m.b))
  c3 : w.cell? ⟨b, o + 3, none⟩ = some (.int .i64 m.n)
theorem ox_at {w : World} {b off n cap k : Nat} {L : List Ox} (h : SlR w 4 (.slice (some ⟨b, off, none⟩) n cap) (L.map Ox.cells)) (hk : k < L.length) : OxAt w b (off + k * 4) L[k] := by
  have hi : (L.map Ox.cells)[k]? = some (L[k].cells) := by rw [List.getElem?_map, List.getElem?_eq_getElem hk]; rfl
  obtain ⟨hb, hc⟩ := h.cells hi
  exact ⟨hb, hc 0 _ rfl, hc 1 _ rfl, hc 2 _ rfl, hc 3 _ rfl⟩
set_option maxHeartbeats 1000000 in
set_option maxRecDepth 100000 in
theorem oxSame_any (L : List Ox) (A A' : Option Addr) (cap cap' : Nat) (w : World) (hS : SlR w 4 (.slice A L.length cap) (L.map Ox.cells)) (hS' : SlR w 4 (.slice A' L.length cap') (L.map Ox.cells)) :
    Calls Try.prog 99 #[.slice A L.length cap, .slice A' L.length cap'] w fun e w' => e = .returned (.bool true) ∧ Below w.heap.size w w' := by
  have HS := Stow.mk hS
  have HS' := Stow.mk hS'
  have hlen := hS.len
  simp only [List.length_map] at hlen
  clear hS hS'
  go_enter Try.func99, Try.ntmps99
  go_wp2_with fail
  go_loopw [5] (fun v wr => ∃ j : Nat, v = .int .i64 j ∧ j ≤ L.length ∧ Below w.heap.size w wr) (fun v _ => L.length - (intOf v).toNat)
  case atStart => exact ⟨0, rfl, by omega, Below.self _⟩
  case round =>
    obtain ⟨j, rfl, hj, hbr⟩ := hrel
    by_cases hlt : j < L.length
    · obtain ⟨b, off, rfl, hblt, _⟩ := HS.out.open (by simp; omega)
      obtain ⟨b', off', rfl, hblt', _⟩ := HS'.out.open (by simp; omega)
      have hsp := ox_at (HS.out.keep hbr) hlt
      have hsp' := ox_at (HS'.out.keep hbr) hlt
      obtain ⟨s, hs⟩ : ∃ s, L[j] = s := ⟨_, rfl⟩
      rw [hs] at hsp hsp'
      clear hs
      obtain ⟨k, x, y, n⟩ := s
      obtain ⟨hltb, q0, q1, q2, q3⟩ := hsp
      obtain ⟨hltb', p0, p1, p2, p3⟩ := hsp'
      simp only at q0 q1 q2 q3 p0 p1 p2 p3
      have hji : (j : Int) < L.length := by omega
      have heq : ∀ w', (Op.equalIn 10000 106 (.agg #[.int .i64 k, .string (bs x), .string (bs y), .int .i64 n]) (.agg #[.int .i64 k, .string (bs x), .string (bs y), .int .i64 n])).run Try.prog w' = .ok true w' := fun w' => eq_ox 9998 k n _ _ w'
      go_wp2_with fail
      go_quiet (fail)
      go_wp2_with fail
      exact ⟨⟨j + 1, rfl, by omega, Below.drewN' hbr _⟩, by simp [intOf]; omega⟩
    · obtain rfl : j = L.length := by omega
      go_wp2_with fail
      go_ret
      exact ⟨rfl, hbr⟩
set_option maxHeartbeats 1000000 in
set_option maxRecDepth 100000 in
theorem hdsSame_any (L : List Hd) (A A' : Option Addr) (cap cap' : Nat) (w : World) (hS : SlR w 2 (.slice A L.length cap) (L.map Hd.cells)) (hS' : SlR w 2 (.slice A' L.length cap') (L.map Hd.cells)) :
    Calls Try.prog 115 #[.slice A L.length cap, .slice A' L.length cap'] w fun e w' => e = .returned (.bool true) ∧ Below w.heap.size w w' := by
  have HS := Stow.mk hS
  have HS' := Stow.mk hS'
  have hlen := hS.len
  simp only [List.length_map] at hlen
  clear hS hS'
  go_enter Try.func115, Try.ntmps115
  go_wp2_with fail
  go_loopw [5] (fun v wr => ∃ j : Nat, v = .int .i64 j ∧ j ≤ L.length ∧ Below w.heap.size w wr) (fun v _ => L.length - (intOf v).toNat)
  case atStart => exact ⟨0, rfl, by omega, Below.self _⟩
  case round =>
    obtain ⟨j, rfl, hj, hbr⟩ := hrel
    by_cases hlt : j < L.length
    · obtain ⟨b, off, rfl, hblt, _⟩ := HS.out.open (by simp; omega)
      obtain ⟨b', off', rfl, hblt', _⟩ := HS'.out.open (by simp; omega)
      have hsp := head_at (HS.out.keep hbr) hlt
      have hsp' := head_at (HS'.out.keep hbr) hlt
      obtain ⟨s, hs⟩ : ∃ s, L[j] = s := ⟨_, rfl⟩
      rw [hs] at hsp hsp'
      clear hs
      obtain ⟨x, y⟩ := s
      obtain ⟨hltb, q0, q1⟩ := hsp
      obtain ⟨hltb', p0, p1⟩ := hsp'
      simp only at q0 q1 p0 p1
      have hji : (j : Int) < L.length := by omega
      go_wp2_with fail
      go_quiet (fail)
      go_wp2_with fail
      exact ⟨⟨j + 1, rfl, by omega, Below.drewN' hbr _⟩, by simp [intOf]; omega⟩
    · obtain rfl : j = L.length := by omega
      go_wp2_with fail
      go_ret
      exact ⟨rfl, hbr⟩
abbrev rqc (m h p : Txt) (A : Option Addr) (n cap : Nat) (b : Txt) : List Value := [.string (bs m), .string (bs h), .string (bs p), .slice A n cap, .string (bs b)]
set_option maxHeartbeats 1000000 in
set_option maxRecDepth 100000 in
theorem rqSame_any (m h p b : Txt) (hs : List Hd) (A A' : Option Addr) (cap cap' : Nat) (w : World) (hS : SlR w 2 (.slice A hs.length cap) (hs.map Hd.cells)) (hS' : SlR w 2 (.slice A' hs.length cap') (hs.map Hd.cells)) :
    Calls Try.prog 94 #[.agg #[.string (bs m), .string (bs h), .string (bs p), .slice A hs.length cap, .string (bs b)], .agg #[.string (bs m), .string (bs h), .string (bs p), .slice A' hs.length cap', .string (bs b)]] w fun e w' => e = .returned (.bool true) ∧ Below w.heap.size w w' := by
  have HS := Stow.mk hS
  have HS' := Stow.mk hS'
  clear hS hS'
  have HX : Stow (∀ W, Below ((w.alloc (.cells #[.string (bs m), .string (bs h), .string (bs p), .slice A hs.length cap, .string (bs b)] 28)).alloc (.cells #[.string (bs m), .string (bs h), .string (bs p), .slice A' hs.length cap', .string (bs b)] 28)).heap.size ((w.alloc (.cells #[.string (bs m), .string (bs h), .string (bs p), .slice A hs.length cap, .string (bs b)] 28)).alloc (.cells #[.string (bs m), .string (bs h), .string (bs p), .slice A' hs.length cap', .string (bs b)] 28)) W →
      Held W w.heap.size [.string (bs m), .string (bs h), .string (bs p), .slice A hs.length cap, .string (bs b)] ∧ Held W (w.heap.size + 1) [.string (bs m), .string (bs h), .string (bs p), .slice A' hs.length cap', .string (bs b)] ∧ Below w.heap.size w W) := ⟨fun W hb => by
    have e1 : (w.alloc (.cells #[.string (bs m), .string (bs h), .string (bs p), .slice A hs.length cap, .string (bs b)] 28)).heap.size = w.heap.size + 1 := by simp
    have h1 := ((Held.made w [.string (bs m), .string (bs h), .string (bs p), .slice A hs.length cap, .string (bs b)] 28).kept (Below.alloc' (Below.self _) (.cells #[.string (bs m), .string (bs h), .string (bs p), .slice A' hs.length cap', .string (bs b)] 28))).kept hb
    have h2 := (Held.made (w.alloc (.cells #[.string (bs m), .string (bs h), .string (bs p), .slice A hs.length cap, .string (bs b)] 28)) [.string (bs m), .string (bs h), .string (bs p), .slice A' hs.length cap', .string (bs b)] 28).kept hb
    rw [e1] at h2
    exact ⟨h1, h2, Below.call (Below.alloc' (Below.alloc' (Below.self _) _) _) hb⟩⟩
  have z1 : (m == m) = true := by simp
  have z2 : (h == h) = true := by simp
  have z3 : (p == p) = true := by simp
  have z4 : (b == b) = true := by simp
  go_enter Try.func94, Try.ntmps94
  go_wp2_with fail
  refine (hdsSame_any hs _ _ _ _ _ ((HS.out.alloc _).alloc _) ((HS'.out.alloc _).alloc _)).mono ?_
  rintro e w1 ⟨rfl, hb1⟩
  obtain ⟨h1, h2, hB⟩ := HX.out w1 hb1
  have HB := Stow.mk hB
  have a4 := h1.cell (i := 4) rfl
  have b4 := h2.cell (i := 4) rfl
  clear h1 h2 hB hb1
  go_wp2_with fail
  go_ret
  exact ⟨by first | rfl | simp, HB.out⟩
set_option maxHeartbeats 2000000 in
set_option maxRecDepth 100000 in
theorem frSame_any (x y : Fm) (w : World) (hc : x.c = y.c) (hx : FmR w x) (hy : FmR w y) :
    Calls Try.prog 64 #[x.val, y.val] w fun e w' => e = .returned (.bool true) ∧ Below w.heap.size w w' := by
  have HX := Stow.mk ((Held.made w x.cells 30).kept (Below.alloc' (Below.self _) (.cells y.cells.toArray 30)))
  have HY := Stow.mk (Held.made (w.alloc (.cells x.cells.toArray 30)) y.cells 30)
  have HB := Stow.mk (Below.alloc' (Below.alloc' (Below.self w) (.cells x.cells.toArray 30)) (.cells y.cells.toArray 30))
  obtain ⟨W0, hW0⟩ : ∃ W, (w.alloc (.cells x.cells.toArray 30)).alloc (.cells y.cells.toArray 30) = W := ⟨_, rfl⟩
  rw [hW0] at HB HX HY
  simp only [World.size_alloc] at HY
  obtain ⟨⟨node, ops, at_, st, body, m, h', p, hs, b, kids, home, hop⟩, oa, oc, ha, hcap⟩ := x
  obtain ⟨c', oa', oc', ha', hcap'⟩ := y
  simp only at hc
  subst hc
  have HO := Stow.mk (fun W (hb : Below w.heap.size w W) => oxSame_any ops oa oa' oc oc' W (hx.ops.keep hb) (hy.ops.keep hb))
  have HQ := Stow.mk (fun W (hb : Below w.heap.size w W) => rqSame_any m h' p b hs ha ha' hcap hcap' W (hx.heads.keep hb) (hy.heads.keep hb))
  have HW0 := Stow.mk hW0
  unfold Fm.val
  unfold Fm.cells at HX HY HW0 ⊢
  simp only at HX HY HW0 ⊢
  clear hx hy hW0
  have z1 : (body == body) = true := by simp
  go_enter Try.func64, Try.ntmps64
  go_upto_region 1 with fail
  generalize hW : World.alloc (World.alloc w _) _ = W
  obtain rfl : W = W0 := hW.symm.trans HW0.out
  clear hW HW0
  have a0 := HX.out.cell (i := 0) rfl
  have a1 := HX.out.cell (i := 1) rfl
  have b0 := HY.out.cell (i := 0) rfl
  have b1 := HY.out.cell (i := 1) rfl
  go_wp2_with fail
  refine (HO.out _ HB.out).mono ?_
  rintro e w1 ⟨rfl, hb1⟩
  have HX := Stow.mk (HX.out.kept hb1)
  have HY := Stow.mk (HY.out.kept hb1)
  have HB := Stow.mk (HB.out.trans (hb1.mono HB.out.size))
  clear a0 a1 b0 b1 hb1
  have a2 := HX.out.cell (i := 2) rfl
  have a3 := HX.out.cell (i := 3) rfl
  have a4 := HX.out.cell (i := 4) rfl
  have a5 := HX.out.cell (i := 5) rfl
  have a6 := HX.out.cell (i := 6) rfl
  have a7 := HX.out.cell (i := 7) rfl
  have a8 := HX.out.cell (i := 8) rfl
  have a9 := HX.out.cell (i := 9) rfl
  have b2 := HY.out.cell (i := 2) rfl
  have b3 := HY.out.cell (i := 3) rfl
  have b4 := HY.out.cell (i := 4) rfl
  have b5 := HY.out.cell (i := 5) rfl
  have b6 := HY.out.cell (i := 6) rfl
  have b7 := HY.out.cell (i := 7) rfl
  have b8 := HY.out.cell (i := 8) rfl
  have b9 := HY.out.cell (i := 9) rfl
  go_wp2_with fail
  refine (HQ.out _ HB.out).mono ?_
  rintro e w2 ⟨rfl, hb2⟩
  have HX := Stow.mk (HX.out.kept hb2)
  have HY := Stow.mk (HY.out.kept hb2)
  have HB := Stow.mk (HB.out.trans (hb2.mono HB.out.size))
  clear a2 a3 a4 a5 a6 a7 a8 a9 b2 b3 b4 b5 b6 b7 b8 b9 hb2
  have a10 := HX.out.cell (i := 10) rfl
  have a11 := HX.out.cell (i := 11) rfl
  have a12 := HX.out.cell (i := 12) rfl
  have b10 := HY.out.cell (i := 10) rfl
  have b11 := HY.out.cell (i := 11) rfl
  have b12 := HY.out.cell (i := 12) rfl
  go_wp2_with fail
  go_ret
  exact ⟨by first | rfl | simp, HB.out⟩
end Go.Proofs.Ythbpcdoddcacdaa
