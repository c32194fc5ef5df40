/- Walks of the reference's Same at nodes, and of the law's known. Conditions: slices' own.; What the form grants of a span that comes in. No condition.; Walk of the statement on places: roots, orphans and children. Condition: a slice's own.; Walk of the statement on walks: what one comes to, what is lost, how it stands. Condition: a slice's own.; Walks of verdict.fits and verdict.every. Conditions: a slice's own. -/
import Derived.Test.YtfbhdkkmcfnghaaGreatM28
import Derived.Test.YtfbhdkkmcfnghaaGreatProg
import Derived.Test.YtfbhdkkmcfnghaaGreatM01
import Derived.Test.YtfbhdkkmcfnghaaGreatM02
import Derived.Test.YtfbhdkkmcfnghaaGreatM29
import Derived.Test.YtfbhdkkmcfnghaaGreatM30
import Derived.Test.YtfbhdkkmcfnghaaGreatM24
import Derived.Deep.RegionHeld3

section
namespace Go.Proofs.YtfbhdkkmcfnghaaGreat
open Go.RowKit
set_option linter.unusedVariables false

theorem sl_held {w : World} {g c : Nat} {L : List (List Value)} {cs : List Value} (h : Held w g cs) (hcs : cs = L.flatten) (hL : ∀ x ∈ L, x.length = c) (hm : L.length ≤ 1000000) : SlR w c (.slice (some ⟨g, 0, none⟩) L.length L.length) L := by
  subst hcs
  refine ⟨_, L.length, rfl, Nat.le_refl _, by unfold maxLen; omega, fun _ => ⟨g, 0, rfl, h.lt, fun i x hi j u hu => ?_⟩⟩
  rw [Nat.zero_add]
  exact h.cell (flat_at hL i x hi j u hu)
/-- A node. -/
structure Nv where
  d : Nat
  name : List UInt8
  st : Int
  sh : Bool
def Nv.cells (x : Nv) : List Value := [.int .i64 (x.d : Nat), .string (bs x.name), .int .i64 x.st, .bool x.sh]
namespace Tr
def node (L : List Sp) (p : Nat × Nat) : Nv := ⟨p.2, (sp L p.1).name, (sp L p.1).st, (sp L p.1).sh⟩
def nodes (L : List Sp) (at_ : Nat) : List Nv := (walk L at_).map (node L)
end Tr
abbrev NvR (w : World) (A : Option Addr) (cap : Nat) (M : List Nv) : Prop := SlR w 4 (.slice A M.length cap) (M.map Nv.cells)
theorem drow_nvr {L : List Sp} {w : World} {B : Nat} {A : Option Addr} {n cap : Nat} {R : List (Nat × Nat)} (h : DRow L w B (.slice A n cap) R) : NvR w A cap (R.map (Tr.node L)) ∧ n = R.length := by
  have hn : n = R.length := by
    rcases h.2 with ⟨h1, h2⟩ | ⟨g, cp, cur, hv, _⟩
    · simp only [Value.slice.injEq] at h1; omega
    · simp only [Value.slice.injEq] at hv; exact hv.2.1
  subst hn
  refine ⟨?_, rfl⟩
  have e : (R.map (Tr.node L)).length = R.length := by simp
  rw [NvR, e]
  refine SlR.of_own h (by simp) fun i x hi j u hu => ?_
  have e2 : R.flatMap (ndc L) = ((R.map (Tr.node L)).map Nv.cells).flatten := by rw [List.map_map, List.flatMap_def]; rfl
  rw [e2]
  exact flat_at (c := 4) (fun x hx => by obtain ⟨m, _, rfl⟩ := List.mem_map.1 hx; rfl) i x hi j u hu

set_option maxHeartbeats 1000000 in
set_option maxRecDepth 100000 in
theorem ndSame_any (M : List Nv) (A A' : Option Addr) (cap cap' : Nat) (w : World) (hS : NvR w A cap M) (hS' : NvR w A' cap' M) :
    Calls Tryz.prog 24 #[.slice A M.length cap, .slice A' M.length cap'] w fun e w' => e = .returned (.bool true) ∧ Below w.heap.size w w' := by
  have HS := Stow.mk hS
  have HS' := Stow.mk hS'
  have hlen := hS.len
  simp only [List.length_map] at hlen
  clear hS hS'
  go_enter Tryz.func24, Tryz.ntmps24
  go_wp2_with fail
  go_loopw [5] (fun v wr => ∃ j : Nat, v = .int .i64 j ∧ j ≤ M.length ∧ Below w.heap.size w wr) (fun v _ => M.length - (intOf v).toNat)
  case atStart => exact ⟨0, rfl, by omega, Below.self _⟩
  case round =>
    obtain ⟨j, rfl, hj, hbr⟩ := hrel
    by_cases hlt : j < M.length
    · have hS1 := HS.out.keep hbr
      have hS2 := HS'.out.keep hbr
      obtain ⟨b, off, rfl, hb, _⟩ := hS1.open (by simp; omega)
      obtain ⟨b', off', rfl, hb', _⟩ := hS2.open (by simp; omega)
      have hi : (M.map Nv.cells)[j]? = some (M[j].cells) := by rw [List.getElem?_map, List.getElem?_eq_getElem hlt]; rfl
      obtain ⟨_, c1⟩ := hS1.cells hi
      obtain ⟨_, c2⟩ := hS2.cells hi
      obtain ⟨s, hs⟩ : ∃ s, M[j] = s := ⟨_, rfl⟩
      rw [hs] at c1 c2
      obtain ⟨x, y, z, t⟩ := s
      have q0 := c1 0 _ rfl
      have q1 := c1 1 _ rfl
      have q2 := c1 2 _ rfl
      have q3 := c1 3 _ rfl
      have p0 := c2 0 _ rfl
      have p1 := c2 1 _ rfl
      have p2 := c2 2 _ rfl
      have p3 := c2 3 _ rfl
      simp only [Nat.add_zero] at q0 p0
      have hji : (j : Int) < M.length := by omega
      clear c1 c2 hi hs hS1 hS2
      go_wp2_with fail
      go_quiet (fail)
      go_wp2_with fail
      exact ⟨⟨j + 1, rfl, by omega, Below.drewN' hbr _⟩, by simp [intOf]; omega⟩
    · obtain rfl : j = M.length := by omega
      go_wp2_with fail
      go_ret
      exact ⟨rfl, hbr⟩

def k31 : List Sp := [⟨0, 0, 2, 1, [98], 0, 1, 0, false, 0, 0⟩, ⟨0, 0, 1, 0, [97], 0, 0, 0, false, 0, 0⟩, ⟨0, 0, 3, 1, [99], 0, 0, 0, false, 0, 0⟩, ⟨0, 0, 4, 9, [], 0, 0, 0, false, 0, 0⟩, ⟨0, 0, 5, 5, [], 0, 0, 0, false, 0, 0⟩, ⟨0, 0, 6, 2, [100], 0, 0, 0, false, 0, 0⟩]
theorem k31r : Tr.roots k31 = [1] := by decide +kernel
theorem k31k : Tr.kids k31 1 = [2, 0] := by decide +kernel
theorem k31o : Tr.orphans k31 = [3] := by decide +kernel
theorem k31w : Tr.walk k31 1 = [(1, 0), (2, 1), (0, 1), (5, 2)] := by decide +kernel
theorem k31l : Tr.lost k31 = [4] := by decide +kernel
def k31m : List Nv := [⟨0, [97], 0, false⟩, ⟨1, [99], 0, false⟩, ⟨1, [98], 0, false⟩, ⟨2, [100], 0, false⟩]
theorem k31me : [(1, 0), (2, 1), (0, 1), (5, 2)].map (Tr.node k31) = k31m := rfl
theorem k31n : Tr.walk k31 9 = [] := by decide +kernel
theorem ir_lit (w : World) (L : List Nat) (hL : L.length ≤ 1000000) : IR (w.alloc (.cells (L.map fun n : Nat => Value.int .i64 (n : Int)).toArray 3)) (some ⟨w.heap.size, 0, none⟩) L.length L := by
  have h := sl_held (c := 1) (L := L.map fun n : Nat => [Value.int .i64 (n : Int)]) (Held.made w (L.map fun n : Nat => Value.int .i64 (n : Int)) 3) (by
    induction L with
    | nil => rfl
    | cons a t ih => simp only [List.map_cons, List.flatten_cons]; rw [ih (by simp at hL; omega)]; rfl) (by intro x hx; obtain ⟨m, _, rfl⟩ := List.mem_map.1 hx; rfl) (by simpa using hL)
  unfold IR
  simpa using h

end Go.Proofs.YtfbhdkkmcfnghaaGreat
end

section
namespace Go.Proofs.YtfbhdkkmcfnghaaGreat
open Cells

set_option maxRecDepth 100000 in
theorem flat_trace (w : World) : Flat Tryz.prog w 25 [pInt .u64, pInt .u64] :=
  flat_struct Tryz.underlying25 (by kernel_rfl) (.cons 1 rfl (by kernel_rfl) (flat_int Tryz.underlying23) (.cons 1 rfl (by kernel_rfl) (flat_int Tryz.underlying23) (.nil _) rfl rfl) rfl rfl)

/-- The claims on a span's cells. -/
def spanCells : List (Value → Prop) := [pInt .u64, pInt .u64, pInt .u64, pInt .u64, pStr, pInt .i64, pInt .i64, pInt .i64, pBool, pInt .i64, pInt .i64]

set_option maxRecDepth 100000 in
theorem flat_span (w : World) : Flat Tryz.prog w 64 spanCells :=
  flat_struct Tryz.underlying64 (by kernel_rfl) (.cons 2 rfl (by kernel_rfl) (flat_trace w) (.cons 1 rfl (by kernel_rfl) (flat_int Tryz.underlying23) (.cons 1 rfl (by kernel_rfl) (flat_int Tryz.underlying23) (.cons 1 rfl (by kernel_rfl) (flat_string Tryz.underlying9) (.cons 1 rfl (by kernel_rfl) (flat_int Tryz.underlying3) (.cons 1 rfl (by kernel_rfl) (flat_int Tryz.underlying3) (.cons 1 rfl (by kernel_rfl) (flat_int Tryz.underlying3) (.cons 1 rfl (by kernel_rfl) (flat_bool Tryz.underlying4) (.cons 1 rfl (by kernel_rfl) (flat_int Tryz.underlying3) (.cons 1 rfl (by kernel_rfl) (flat_int Tryz.underlying3) (.nil _) rfl rfl) rfl rfl) rfl rfl) rfl rfl) rfl rfl) rfl rfl) rfl rfl) rfl rfl) rfl rfl) rfl rfl)

theorem pInt_u64 {v : Value} (h : pInt .u64 v) : ∃ n : Nat, v = .int .u64 (n : Int) ∧ n < 18446744073709551616 := by
  obtain ⟨n, rfl, hw⟩ := h
  have h1 : 0 ≤ n ∧ n < 18446744073709551616 := by have := bounds_u64 hw; omega
  exact ⟨n.toNat, by rw [Int.toNat_of_nonneg h1.1], by omega⟩

theorem span_of_cells {cs : List Value} (h : Rel spanCells cs) : ∃ s : Sp, (.agg cs.toArray : Value) = s.val ∧ s.fits := by
  obtain ⟨v0, _, rfl, h0, h⟩ := h.cons_inv
  obtain ⟨v1, _, rfl, h1, h⟩ := h.cons_inv
  obtain ⟨v2, _, rfl, h2, h⟩ := h.cons_inv
  obtain ⟨v3, _, rfl, h3, h⟩ := h.cons_inv
  obtain ⟨v4, _, rfl, h4, h⟩ := h.cons_inv
  obtain ⟨v5, _, rfl, h5, h⟩ := h.cons_inv
  obtain ⟨v6, _, rfl, h6, h⟩ := h.cons_inv
  obtain ⟨v7, _, rfl, h7, h⟩ := h.cons_inv
  obtain ⟨v8, _, rfl, h8, h⟩ := h.cons_inv
  obtain ⟨v9, _, rfl, h9, h⟩ := h.cons_inv
  obtain ⟨v10, _, rfl, h10, h⟩ := h.cons_inv
  obtain rfl := h.nil_inv
  obtain ⟨hi, rfl, kh0⟩ := pInt_u64 h0
  obtain ⟨lo, rfl, kh1⟩ := pInt_u64 h1
  obtain ⟨id, rfl, kh2⟩ := pInt_u64 h2
  obtain ⟨up, rfl, kh3⟩ := pInt_u64 h3
  obtain ⟨name, rfl, kh4⟩ := h4
  obtain ⟨st, rfl, h5⟩ := h5
  obtain ⟨sq, rfl, h6⟩ := h6
  obtain ⟨kd, rfl, h7⟩ := h7
  obtain ⟨sh, rfl⟩ := h8
  obtain ⟨t0, rfl, h9⟩ := h9
  obtain ⟨t1, rfl, h10⟩ := h10
  exact ⟨⟨hi, lo, id, up, name, st, sq, kd, sh, t0, t1⟩, rfl, ⟨kh0, kh1, kh2, kh3, by have := kh4; simp [maxLen] at this; simp; omega⟩⟩

end Go.Proofs.YtfbhdkkmcfnghaaGreat
end

section
namespace Go.Proofs.YtfbhdkkmcfnghaaGreat
open Go.RowKit Cells
set_option linter.unusedVariables false

theorem flat_spans (w : World) : Flat Tryz.prog w 38 [pSlice w 11 spanCells] := flat_slice Tryz.underlying38 (by kernel_rfl) (flat_span w)
theorem spans_of {w : World} {v : Value} (h : pSlice w 11 spanCells v) : ∃ (L : List Sp) (A : Option Addr) (cap : Nat), v = .slice A L.length cap ∧ SpR w A cap L ∧ ∀ s ∈ L, s.fits := by
  obtain ⟨L, hL, hf⟩ := slr_of Sp.cells Sp.fits (fun cs hc => by
    obtain ⟨s, hs, hf⟩ := span_of_cells hc
    refine ⟨s, ?_, hf⟩
    have : cs.toArray = (Sp.cells s).toArray := by simpa [Sp.val, Sp.cells] using hs
    simpa using this) Sp.cells_len (by omega) h
  obtain ⟨A, cap, rfl, _⟩ := hL.form
  simp only [List.length_map] at hL ⊢
  exact ⟨L, A, cap, rfl, hL, hf⟩


end Go.Proofs.YtfbhdkkmcfnghaaGreat
end

section
namespace Go.Proofs.YtfbhdkkmcfnghaaGreat
open Go.RowKit Cells
set_option linter.unusedVariables false

set_option maxHeartbeats 2000000 in
set_option maxRecDepth 100000 in
theorem refNodes_no (A : Option Addr) (cap : Nat) (L : List Sp) (a : Int) (w : World) (h : a < 0 ∨ (L.length : Int) ≤ a) :
    Calls Tryz.prog 105 #[.slice A L.length cap, .int .i64 a] w fun e w' => e = .returned (.slice none 0 0) ∧ Below w.heap.size w w' := by
  have HM := Stow.mk (Below.self w)
  by_cases h1 : a < 0
  · have hd : decide (a < 0) = true := by simpa using h1
    go_enter Tryz.func105, Tryz.ntmps105
    go_wp2_with fail
    go_ret
    exact ⟨rfl, HM.out⟩
  · have hd : decide (a < 0) = false := by simpa using h1
    have hd2 : decide ((L.length : Int) ≤ a) = true := by simp; omega
    go_enter Tryz.func105, Tryz.ntmps105
    go_wp2_with fail
    go_ret
    exact ⟨rfl, HM.out⟩
theorem refNodes_at (A : Option Addr) (cap : Nat) (L : List Sp) (a : Int) (w : World) (hS : SpR w A cap L) (hn : L.length ≤ 1000000) :
    Calls Tryz.prog 105 #[.slice A L.length cap, .int .i64 a] w fun e w' => ∃ v, e = .returned v ∧ DRow L w' w.heap.size v (Tr.walkI L a) ∧ Below w.heap.size w w' := by
  by_cases h : a < 0 ∨ (L.length : Int) ≤ a
  · rw [Tr.walkI_no h]
    exact (refNodes_no A cap L a w h).mono fun e w' ⟨he, hb⟩ => ⟨_, he, World.ownsRow_nil _ _ _ _, hb⟩
  · obtain ⟨n, rfl⟩ : ∃ n : Nat, a = n := ⟨a.toNat, by omega⟩
    rw [Tr.walkI_yes]
    exact refNodes_yes A cap L n w hS hn (by omega)
theorem nv_of {L : List Sp} {w w' : World} {e : Ending} {R : List (Nat × Nat)} {M : List Nv} (hM : R.map (Tr.node L) = M) (h : ∃ v, e = .returned v ∧ DRow L w' w.heap.size v R ∧ Below w.heap.size w w') : ∃ A c, e = .returned (.slice A M.length c) ∧ NvR w' A c M ∧ Below w.heap.size w w' := by
  obtain ⟨v, he, hr, hb⟩ := h
  obtain ⟨A, c, rfl⟩ := own_form hr
  subst hM
  exact ⟨A, c, by rw [List.length_map]; exact he, (drow_nvr hr).1, hb⟩


end Go.Proofs.YtfbhdkkmcfnghaaGreat
end

section
namespace Go.Proofs.YtfbhdkkmcfnghaaGreat
open Go.RowKit
set_option linter.unusedVariables false

theorem gb_refl (w : World) (r : Option Nat) : w.grownBy w r := ⟨rfl, rfl, rfl, Nat.le_refl _, fun _ _ _ => rfl⟩
theorem gb_trans {a b c : World} {r : Option Nat} (h : a.grownBy b r) (k : b.grownBy c r) : a.grownBy c r :=
  ⟨k.os.trans h.os, k.tape.trans h.tape, k.output.trans h.output, Nat.le_trans h.size k.size, fun i hi hne => (k.block i (Nat.lt_of_lt_of_le hi h.size) hne).trans (h.block i hi hne)⟩
theorem gb_of {a b : World} (h : Below a.heap.size a b) (r : Option Nat) : a.grownBy b r := ⟨h.os, h.tape, h.output, h.size, fun i hi _ => h.block i hi⟩
theorem gb_below {a b : World} {r : Option Nat} {B : Nat} (h : a.grownBy b r) (hr : ∀ k, r = some k → B ≤ k) (hB : B ≤ a.heap.size) : Below B a b :=
  ⟨h.os, h.tape, h.output, h.size, fun k hk => h.block k (by omega) (by intro e; have := hr k e.symm; omega)⟩

theorem Tr.fits_no {kd last q : Int} {t : List Int} (h : q ≤ last ∨ kd ≤ q) : Tr.fits kd last (q :: t) = false := by unfold Tr.fits; rw [if_pos h]
theorem Tr.fits_yes {kd last q : Int} {t : List Int} (h : ¬ (q ≤ last ∨ kd ≤ q)) : Tr.fits kd last (q :: t) = Tr.fits kd q t := by conv => lhs; unfold Tr.fits; rw [if_neg h]
theorem Tr.fits_nil (kd last : Int) : Tr.fits kd last [] = true := rfl

set_option maxHeartbeats 2000000 in
set_option maxRecDepth 100000 in
theorem vdFits_any (A Ak : Option Addr) (cap ck : Nat) (L : List Sp) (K : List Nat) (s : Sp) (w : World) (hS : SpR w A cap L) (hK : IR w Ak ck K) (hlt : ∀ k ∈ K, k < L.length) (hn : L.length ≤ 1000000) (hk : K.length ≤ 1000000) :
    Calls Tryz.prog 109 #[.slice A L.length cap, s.val, .slice Ak K.length ck] w fun e w' => e = .returned (.bool (Tr.fits s.kd (-1) (K.map fun k => (Tr.sp L k).sq))) ∧ Below w.heap.size w w' := by
  obtain ⟨Q, hQ⟩ : ∃ Q, (K.map fun k => (Tr.sp L k).sq) = Q := ⟨_, rfl⟩
  have hQl : Q.length = K.length := by rw [← hQ]; simp
  have HQA : Stow (∀ j (h : j < K.length), Q.drop j = (Tr.sp L K[j]).sq :: Q.drop (j + 1)) := ⟨fun j h => by
    rw [List.drop_eq_getElem_cons (show j < Q.length by omega)]
    congr 1
    subst hQ
    simp⟩
  have HQE : Stow (Q.drop K.length = []) := ⟨by rw [← hQl]; exact List.drop_length⟩
  rw [hQ]
  have HLT := Stow.mk hlt
  have HM := Stow.mk (Below.alloc' (Below.self w) (.cells s.cells.toArray 64))
  have HS : Stow (SpR (w.alloc (.cells s.cells.toArray 64)) A cap L) := ⟨hS.keep HM.out⟩
  have HK : Stow (IR (w.alloc (.cells s.cells.toArray 64)) Ak ck K) := ⟨SlR.keep hK HM.out⟩
  clear hS hK hQ hQl hlt
  unfold Sp.val
  go_enter Tryz.func109, Tryz.ntmps109
  go_wp2_with fail
  go_loopw [7, 13] (fun v u wr => ∃ (j : Nat) (l : Int), u = .int .i64 (j : Int) ∧ v = .int .i64 l ∧ j ≤ K.length ∧ Stow (Tr.fits s.kd (-1) Q = Tr.fits s.kd l (Q.drop j)) ∧ wr = w.alloc (.cells s.cells.toArray 64)) (fun _ u _ => K.length - (intOf u).toNat)
  case atStart => exact ⟨0, -1, rfl, rfl, by omega, ⟨rfl⟩, rfl⟩
  case round =>
    obtain ⟨j, l, rfl, rfl, hj, HF, rfl⟩ := hrel
    by_cases hjl : j < K.length
    · obtain ⟨b2, off2, rfl, hb2, q0⟩ := IR.at_ HK.out hjl
      have hkl := HLT.out _ (List.getElem_mem hjl)
      have HQJ := Stow.mk (HQA.out j hjl)
      obtain ⟨k, hk⟩ : ∃ k, K[j] = k := ⟨_, rfl⟩
      rw [hk] at q0 hkl HQJ
      obtain ⟨b, off, rfl, hblt, _⟩ := HS.out.open (by simp; omega)
      have hsp := span_at HS.out hkl
      have HSE : Stow (Tr.sp L k = L[k]) := ⟨Tr.sp_in hkl⟩
      obtain ⟨q, hq⟩ : ∃ q, (Tr.sp L k).sq = q := ⟨_, rfl⟩
      have p6 := hsp.c6
      rw [← HSE.out, hq] at p6
      rw [hq] at HQJ
      have hjj : (j : Int) < K.length := by omega
      have hkk : (k : Int) < L.length := by omega
      have p7 := (Held.made w s.cells 64).cell (i := 7) rfl
      clear hsp hq hk HSE
      by_cases h1 : q ≤ l
      · have d1 : decide (q ≤ l) = true := by simpa using h1
        have HE : Stow (Tr.fits s.kd (-1) Q = false) := ⟨by rw [HF.out, HQJ.out, Tr.fits_no (.inl h1)]⟩
        clear h1
        go_wp2_with fail
        go_ret
        exact ⟨by rw [HE.out]; rfl, HM.out⟩
      · have d1 : decide (q ≤ l) = false := by simpa using h1
        by_cases h2 : s.kd ≤ q
        · have d2 : decide (s.kd ≤ q) = true := by simpa using h2
          have HE : Stow (Tr.fits s.kd (-1) Q = false) := ⟨by rw [HF.out, HQJ.out, Tr.fits_no (.inr h2)]⟩
          clear h1 h2
          go_wp2_with fail
          go_ret
          exact ⟨by rw [HE.out]; rfl, HM.out⟩
        · have d2 : decide (s.kd ≤ q) = false := by simpa using h2
          have HE : Stow (Tr.fits s.kd (-1) Q = Tr.fits s.kd q (Q.drop (j + 1))) := ⟨by rw [HF.out, HQJ.out, Tr.fits_yes (by omega)]⟩
          clear h1 h2
          go_wp2_with fail
          exact ⟨⟨j + 1, q, rfl, rfl, by omega, HE, by first | rfl | trivial⟩, by simp [intOf]; omega⟩
    · obtain rfl : j = K.length := by omega
      have HE : Stow (Tr.fits s.kd (-1) Q = true) := ⟨by rw [HF.out, HQE.out]; rfl⟩
      have hni : ¬ (K.length : Int) < K.length := by omega
      go_wp2_with fail
      go_ret
      exact ⟨by rw [HE.out]; rfl, HM.out⟩

theorem Tr.all_to {R : Nat → Bool} {i n : Nat} (hi : i < n) (h : R i = false) : (List.range n).all R = false := by
  rw [Bool.eq_false_iff]
  intro h2
  have := List.all_eq_true.1 h2 i (by simpa using hi)
  rw [h] at this
  cases this
theorem Tr.all_end {R : Nat → Bool} {n : Nat} (h : ∀ i, i < n → R i = true) : (List.range n).all R = true := List.all_eq_true.2 fun i hi => h i (by simpa using hi)

set_option maxHeartbeats 4000000 in
set_option maxRecDepth 100000 in
theorem everyV_any (F : Nat) (caps : Array Value) (hcf : ∀ (args : Array Value) (w : World), (callFunc F args).run Tryz.prog w = .ok (.enter F args) w) (A : Option Addr) (cap : Nat) (L : List Sp) (R : Nat → Bool) (G : Nat → World → Prop) (row : Option Nat) (w : World)
    (hSp : ∀ i W, G i W → SpR W A cap L) (hkeep : ∀ i W W', G i W → Below W.heap.size W W' → G i W') (hrow : ∀ k, row = some k → k < w.heap.size)
    (hf : ∀ i W vA vc, i < L.length → G i W → IR W vA vc (Tr.kids L i) → Calls Tryz.prog F (#[(Tr.sp L i).val, .slice vA (Tr.kids L i).length vc] ++ caps) W fun e w' => e = .returned (.bool (R i)) ∧ G (i + 1) w' ∧ W.grownBy w' row)
    (h0 : G 0 w) (hn : L.length ≤ 1000000) :
    Calls Tryz.prog 107 #[.slice A L.length cap, .func (.func F) #[] caps] w fun e w' => e = .returned (.bool ((List.range L.length).all R)) ∧ ∃ i, G i w' ∧ ((List.range L.length).all R = true → i = L.length) ∧ w.grownBy w' row := by
  have HF := Stow.mk (And.intro hf (And.intro hkeep (And.intro hSp hrow)))
  have H0 := Stow.mk h0
  clear hf hkeep hSp hrow h0
  go_enter Tryz.func107, Tryz.ntmps107
  go_wp2_with fail
  go_loopw [9] (fun u wr => ∃ i : Nat, u = .int .i64 (i : Int) ∧ i ≤ L.length ∧ Stow (∀ k, k < i → R k = true) ∧ Stow (G i wr) ∧ Stow (w.grownBy wr row)) (fun u _ => L.length - (intOf u).toNat)
  case atStart => exact ⟨0, rfl, by omega, ⟨fun k hk => by omega⟩, H0, ⟨gb_refl _ _⟩⟩
  case round =>
    obtain ⟨i, rfl, hi, HA, HG, HW⟩ := hrel
    by_cases hlt : i < L.length
    · have HS := Stow.mk (HF.out.2.2.1 _ _ HG.out)
      obtain ⟨b, off, rfl, hblt, _⟩ := HS.out.open (by simp; omega)
      have hsp := span_at HS.out hlt
      have HSI : Stow (Tr.sp L i = L[i]) := ⟨Tr.sp_in hlt⟩
      obtain ⟨s, hs⟩ : ∃ s, Tr.sp L i = s := ⟨_, rfl⟩
      rw [← HSI.out, hs] at hsp
      have HSE := Stow.mk hs
      obtain ⟨hltb, q0, q1, q2, q3, q4, q5, q6, q7, q8, q9, q10⟩ := hsp
      clear hs HSI
      have hii : (i : Int) < L.length := by omega
      have HSZ := Stow.mk HW.out.size
      go_wp2_with fail
      generalize hWe : World.alloc _ _ = W4
      obtain ⟨g, hg⟩ : ∃ g, wr.heap.size = g := ⟨_, rfl⟩
      have HB4 : Stow (Below wr.heap.size wr W4) := ⟨by subst hWe; exact Below.alloc' (Below.self _) _⟩
      have HG4 : Stow (G i W4) := ⟨HF.out.2.1 _ _ _ HG.out HB4.out⟩
      have HH4 : Stow (Held W4 g s.cells) := ⟨by subst hWe hg; exact Held.made _ _ _⟩
      have HNE : Stow (row ≠ some g) := ⟨fun e => by have := HF.out.2.2.2 g e; have := HSZ.out; omega⟩
      have HW4 : Stow (w.grownBy W4 row) := ⟨gb_trans HW.out (gb_of HB4.out row)⟩
      rw [hg]
      clear hWe hg q0 q1 q2 q3 q4 q5 q6 q7 q8 q9 q10
      have SF : Stow (∀ W', Held W' g s.cells → W'.cell? ⟨g, 0, none⟩ = some (.int .u64 (s.hi : Int)) ∧ W'.cell? ⟨g, 1, none⟩ = some (.int .u64 (s.lo : Int)) ∧ W'.cell? ⟨g, 2, none⟩ = some (.int .u64 (s.id : Int)) ∧ W'.cell? ⟨g, 3, none⟩ = some (.int .u64 (s.up : Int)) ∧ W'.cell? ⟨g, 4, none⟩ = some (.string (bs s.name)) ∧ W'.cell? ⟨g, 5, none⟩ = some (.int .i64 s.st) ∧ W'.cell? ⟨g, 6, none⟩ = some (.int .i64 s.sq) ∧ W'.cell? ⟨g, 7, none⟩ = some (.int .i64 s.kd) ∧ W'.cell? ⟨g, 8, none⟩ = some (.bool s.sh) ∧ W'.cell? ⟨g, 9, none⟩ = some (.int .i64 s.t0) ∧ W'.cell? ⟨g, 10, none⟩ = some (.int .i64 s.t1)) := ⟨fun W' hb =>
        ⟨hb.cell (i := 0) rfl, hb.cell (i := 1) rfl, hb.cell (i := 2) rfl, hb.cell (i := 3) rfl, hb.cell (i := 4) rfl, hb.cell (i := 5) rfl, hb.cell (i := 6) rfl, hb.cell (i := 7) rfl, hb.cell (i := 8) rfl, hb.cell (i := 9) rfl, hb.cell (i := 10) rfl⟩⟩
      obtain ⟨q0, q1, q2, q3, q4, q5, q6, q7, q8, q9, q10⟩ := SF.out W4 HH4.out
      have HKK : Stow (∀ W, G i W → Calls Tryz.prog 141 #[.slice (some ⟨b, off, none⟩) L.length cap, .int .i64 (i : Int)] W fun e w' => ∃ vA vc, e = .returned (.slice vA (Tr.kids L i).length vc) ∧ IR w' vA vc (Tr.kids L i) ∧ Below W.heap.size W w') := ⟨fun W h => (trKids_any _ cap L i W (HF.out.2.2.1 _ _ h) hn).mono fun e w' ⟨v, he, hr, hb⟩ => by
        obtain ⟨A1, c1, rfl⟩ := own_form hr
        exact ⟨A1, c1, he, IRow.ir hr, hb⟩⟩
      have HCC : Stow (∀ W vA vc, G i W → IR W vA vc (Tr.kids L i) → Calls Tryz.prog F (#[s.val, .slice vA (Tr.kids L i).length vc] ++ caps) W fun e w' => e = .returned (.bool (R i)) ∧ G (i + 1) w' ∧ W.grownBy w' row) := ⟨fun W vA vc h1 h2 => by have := HF.out.1 i W vA vc hlt h1 h2; rwa [HSE.out] at this⟩
      obtain ⟨r, hr⟩ : ∃ r, R i = r := ⟨_, rfl⟩
      have HR := Stow.mk hr
      rw [hr] at HCC
      clear hr
      go_region_held3 (fun w' => w'.cell? ⟨g, 0, none⟩ = some (.int .u64 (s.hi : Int)) ∧ w'.cell? ⟨g, 1, none⟩ = some (.int .u64 (s.lo : Int)) ∧ w'.cell? ⟨g, 2, none⟩ = some (.int .u64 (s.id : Int)) ∧ w'.cell? ⟨g, 3, none⟩ = some (.int .u64 (s.up : Int)) ∧ w'.cell? ⟨g, 4, none⟩ = some (.string (bs s.name)) ∧ w'.cell? ⟨g, 5, none⟩ = some (.int .i64 s.st) ∧ w'.cell? ⟨g, 6, none⟩ = some (.int .i64 s.sq) ∧ w'.cell? ⟨g, 7, none⟩ = some (.int .i64 s.kd) ∧ w'.cell? ⟨g, 8, none⟩ = some (.bool s.sh) ∧ w'.cell? ⟨g, 9, none⟩ = some (.int .i64 s.t0) ∧ w'.cell? ⟨g, 10, none⟩ = some (.int .i64 s.t1)) (first | go_keep | exact hk6)
        (first
          | (go_at_call 141; refine (HKK.out _ (HF.out.2.1 _ _ _ HG4.out (Below.drew (Below.self W4)))).mono ?_; rintro e w5 ⟨vA, vc, rfl, hr, hb5⟩; have hr5 := Stow.mk hr; have HG5 := Stow.mk (HF.out.2.1 _ _ _ HG4.out (Below.call (Below.drew (Below.self W4)) hb5)); have HH5 := Stow.mk (HH4.out.kept (Below.call (Below.drew (Below.self W4)) hb5)); have hk6 := SF.out w5 HH5.out)
          | (refine (HCC.out _ _ _ HG5.out hr5.out).mono ?_; rintro e w6 ⟨rfl, hg6, hb6⟩; have hk6 := SF.out w6 (Held.grown' HH5.out hb6 HNE.out)))
      have HG6 := Stow.mk hg6
      have HW6 := Stow.mk (gb_trans HW4.out (gb_trans (gb_of (Below.call (Below.drew (Below.self W4)) hb5) row) hb6))
      clear hg6 hb6 hb5 hr hk6
      cases r
      · have HE : Stow ((List.range L.length).all R = false) := ⟨Tr.all_to hlt HR.out⟩
        go_wp2_with fail
        go_ret
        refine ⟨?_, i + 1, HG6.out, fun h => absurd h (by rw [HE.out]; simp), HW6.out⟩
        rw [HE.out]; rfl
      · go_wp2_with fail
        exact ⟨⟨i + 1, rfl, by omega, ⟨fun k hk => by
          by_cases h : k < i
          · exact HA.out k h
          · obtain rfl : k = i := by omega
            exact HR.out⟩, HG6, HW6⟩, by simp [intOf]; omega⟩
    · obtain rfl : i = L.length := by omega
      have hni : ¬ (L.length : Int) < L.length := by omega
      go_wp2_with fail
      go_ret
      refine ⟨?_, L.length, HG.out, fun _ => rfl, HW.out⟩
      rw [Tr.all_end HA.out]; rfl
end Go.Proofs.YtfbhdkkmcfnghaaGreat
end
