/- Walks of flow's Answer and of the reference's top and Answer. Conditions: the frames' memory; lists not longer than a thousand; texts no longer than a length may be. -/
import Derived.Test.YthbpcdoddcacdaaFlTakes
namespace Go.Proofs.Ythbpcdoddcacdaa
open Go.RowKit
set_option linter.unusedVariables false

/-- A frame whose call was answered. -/
def ansF (st : Int) (s : Txt) (c : Fr) : Fr := { c with body := tk c.body s, st := if 400 ≤ st ∧ c.st = 200 then 502 else c.st }
def ansL (st : Int) (s : Txt) (C : List Fr) : List Fr := C.dropLast ++ (C.getLast?.map (ansF st s)).toList
theorem ansL_nil (st : Int) (s : Txt) : ansL st s [] = [] := rfl
theorem ansL_end (st : Int) (s : Txt) (C : List Fr) (c : Fr) : ansL st s (C ++ [c]) = C ++ [ansF st s c] := by simp [ansL]
/-- The same lists. -/
structure Fm.Like (x y : Fm) : Prop where
  oa : y.oa = x.oa
  oc : y.oc = x.oc
  ha : y.ha = x.ha
  hc : y.hc = x.hc
  ops : y.c.ops = x.c.ops
  hs : y.c.hs = x.c.hs
theorem FmR.like {w : World} {x y : Fm} (h : FmR w x) (k : x.Like y) : FmR w y := ⟨by rw [k.oa, k.oc, k.ops]; exact h.ops, by rw [k.ha, k.hc, k.hs]; exact h.heads⟩
theorem FmN.like {N : Nat → Prop} {x y : Fm} (h : FmN N x) (k : x.Like y) : FmN N y := ⟨by rw [k.oa]; exact h.1, by rw [k.ha]; exact h.2⟩
theorem FlW.turn {w w' : World} {B g cap : Nat} {Q : List Fm} {x y : Fm} (h : FlW w B (some ⟨g, 0, none⟩) cap (Q ++ [x])) (hT : FT w' B g cap Q y) (ho : Only g w w') (k : x.Like y) : FlW w' B (some ⟨g, 0, none⟩) cap (Q ++ [y]) := by
  have hx : x ∈ Q ++ [x] := by simp
  refine ⟨hT.flo, fun z hz => ?_, fun z hz => ?_⟩
  · rcases List.mem_append.1 hz with hz | hz
    · exact (h.each z (by simp [hz])).only ho ((h.apart z (by simp [hz])).mono fun b hb => hb.2 _ rfl)
    · obtain rfl : z = y := by simpa using hz
      exact ((h.each x hx).only ho ((h.apart x hx).mono fun b hb => hb.2 _ rfl)).like k
  · rcases List.mem_append.1 hz with hz | hz
    · exact h.apart z (by simp [hz])
    · obtain rfl : z = y := by simpa using hz
      exact (h.apart x hx).like k
theorem last_split {α : Type} {L : List α} {k : Nat} (h : L.length = k + 1) : ∃ Q x, L = Q ++ [x] ∧ Q.length = k := by
  have hne : L ≠ [] := by intro e; rw [e] at h; simp at h
  exact ⟨L.dropLast, L.getLast hne, (List.dropLast_concat_getLast hne).symm, by simp [h]⟩
theorem flan_results (W : World) (g : Nat) (v : Value) (k : Int) (tmps : Array Value) (hH : Held W g [v, .int .i64 k]) (h2 : tmps[4]?.getD undef = .pointer (some ⟨g, 0, none⟩)) :
    (results Try.f20 tmps).run Try.prog W = .ok (.agg #[v, .int .i64 k]) W := by
  have c0 := hH.cell (i := 0) rfl
  have c1 := hH.cell (i := 1) rfl
  simp [results, Try.results20, go_sem, h2, c0, c1]
set_option maxHeartbeats 2000000 in
set_option maxRecDepth 100000 in
theorem flAnswer_any (A : Option Addr) (cap n : Nat) (L : List Fm) (hops st : Int) (v : Value) (s : Txt) (w : World) (h : FlR w A cap L) (hn : L.length ≤ 1000) (hs : ∀ x ∈ L, x.c.small) (hl : ∀ x ∈ L, x.c.body.length + s.length ≤ 9223372036854775807) (hnL : L.length = n) :
    Calls Try.prog 20 #[flv A n cap hops, .agg #[.int .i64 st, v, .string (bs s)]] w fun e w' => ∃ A' cap' L', e = .returned (flv A' n cap' hops) ∧ L'.map Fm.c = ansL st s (L.map Fm.c) ∧ FlW w' w.heap.size A' cap' L' ∧ Below w.heap.size w w' := by
  have e1 : (w.alloc (.cells #[.slice A n cap, .int .i64 hops] 24)).heap.size = w.heap.size + 1 := by simp
  have hb1 := Below.alloc' (Below.self w) (.cells #[.slice A n cap, .int .i64 hops] 24)
  have hb2 := Below.alloc' (Below.self (w.alloc (.cells #[.slice A n cap, .int .i64 hops] 24))) (.cells #[.int .i64 st, v, .string (bs s)] 32)
  have hb3 := Below.alloc' (Below.self ((w.alloc (.cells #[.slice A n cap, .int .i64 hops] 24)).alloc (.cells #[.int .i64 st, v, .string (bs s)] 32))) (.cells #[.slice none 0 0, .int .i64 0] 24)
  have h1 := ((Held.made w [.slice A n cap, .int .i64 hops] 24).kept hb2).kept hb3
  have h2 := (Held.made (w.alloc (.cells #[.slice A n cap, .int .i64 hops] 24)) [.int .i64 st, v, .string (bs s)] 32).kept hb3
  have h3 := Held.made ((w.alloc (.cells #[.slice A n cap, .int .i64 hops] 24)).alloc (.cells #[.int .i64 st, v, .string (bs s)] 32)) [.slice none 0 0, .int .i64 0] 24
  have hb := Below.call (Below.call hb1 hb2) hb3
  obtain ⟨W0, hW0⟩ : ∃ W, ((w.alloc (.cells #[.slice A n cap, .int .i64 hops] 24)).alloc (.cells #[.int .i64 st, v, .string (bs s)] 32)).alloc (.cells #[.slice none 0 0, .int .i64 0] 24) = W := ⟨_, rfl⟩
  have hsz : W0.heap.size = w.heap.size + 1 + 1 + 1 := by rw [← hW0]; simp
  have HX := Stow.mk (show Held W0 w.heap.size [.slice A n cap, .int .i64 hops] by rw [← hW0]; exact h1)
  have HP := Stow.mk (show Held W0 (w.heap.size + 1) [.int .i64 st, v, .string (bs s)] by rw [← hW0, ← e1]; exact h2)
  have HR := Stow.mk (show Held W0 (w.heap.size + 1 + 1) [.slice none 0 0, .int .i64 0] by rw [← hW0]; simpa using h3)
  have HB := Stow.mk (show Below w.heap.size w W0 by rw [← hW0]; exact hb)
  have HC := flCopied_any A cap L hops W0 (h.keep HB.out) hn hs
  rw [hnL] at HC
  have HC := Stow.mk HC
  have HL := Stow.mk hl
  have HNL := Stow.mk hnL
  have hn2 : n ≤ 1000 := by omega
  have q0 := HX.out.cell (i := 0) rfl
  have q1 := HX.out.cell (i := 1) rfl
  clear h h1 h2 h3 hb hb1 hb2 hb3 e1 hn hs hl hnL
  have hsz1 : w.heap.size + 1 + 1 < W0.heap.size := by omega
  rcases n with _ | k
  · obtain rfl := List.eq_nil_of_length_eq_zero HNL.out
    have e1 : IntKind.i64.wrap (((0 : Nat) : Int) - 1) = -1 := by decide
    go_enter Try.func20, Try.ntmps20
    go_wp2_with fail
    refine HC.out.mono ?_
    rintro e w1 ⟨A1, c1, L1, rfl, hc1, hW1, hb1⟩
    have ba := Below.alloc' (Below.self w1) (.cells #[.slice A1 0 c1, .int .i64 hops] 24)
    have hba := hb1.trans (ba.mono hb1.size)
    have HT := Stow.mk (Held.made w1 [.slice A1 0 c1, .int .i64 hops] 24)
    have HR := Stow.mk (HR.out.kept hba)
    have HB := Stow.mk (HB.out.trans (hba.mono HB.out.size))
    have HW := Stow.mk (hW1.keep ba)
    have hs1 := hb1.size
    have hs2 := ba.size
    have HSA := Stow.mk (show L1.map Fm.c = ansL st s (([] : List Fm).map Fm.c) by rw [hc1]; rfl)
    obtain ⟨W1, hW1'⟩ : ∃ W, w1.alloc (.cells #[.slice A1 0 c1, .int .i64 hops] 24) = W := ⟨_, rfl⟩
    clear hW1 hb1 hc1 q0 q1 hW0 HC ba hba HX HL HP
    rw [show w1.alloc (.cells [.slice A1 0 c1, .int .i64 hops].toArray 24) = W1 from hW1'] at HT
    rw [hW1'] at HR HB HW hs2
    have q0 := HT.out.cell (i := 0) rfl
    go_upto_region 8 with fail
    clear hW1'
    clear q0
    have q0 := HT.out.cell (i := 0) rfl
    have q1 := HT.out.cell (i := 1) rfl
    have s0 := HR.out.free 0
    have s1 := HR.out.free 1
    have r0 := HR.out.cell (i := 0) rfl
    have r1 := HR.out.cell (i := 1) rfl
    have hO1 : Only (w.heap.size + 1 + 1) W1 (World.setCell W1 ⟨w.heap.size + 1 + 1, 0, none⟩ (.slice A1 0 c1)) := Only.set _ _ 0 _
    have hO2 : Only (w.heap.size + 1 + 1) (World.setCell W1 ⟨w.heap.size + 1 + 1, 0, none⟩ (.slice A1 0 c1)) ((World.setCell W1 ⟨w.heap.size + 1 + 1, 0, none⟩ (.slice A1 0 c1)).setCell ⟨w.heap.size + 1 + 1, 1, none⟩ (.int .i64 hops)) := Only.set _ _ 1 _
    have hO := hO1.trans hO2
    have HN := Stow.mk ((HR.out.set 0 (.slice A1 0 c1)).set 1 (.int .i64 hops))
    have HW2 := Stow.mk (HW.out.only hO hsz1)
    have HB2 := Stow.mk (HB.out.trans (hO.below (show w.heap.size ≤ w.heap.size + 1 + 1 by omega) HB.out.size))
    clear hO1 hO2 hO HW HR
    go_wp2_with fail
    refine bodyPost_ret (flan_results _ (w.heap.size + 1 + 1) (.slice A1 0 c1) hops _ HN.out rfl) rfl ?_
    exact ⟨A1, c1, _, rfl, HSA.out, HW2.out.low (by omega), HB2.out⟩
  · have e1 : IntKind.i64.wrap (((k + 1 : Nat) : Int) - 1) = (k : Int) := by rw [IntWalk.i64_in _ (by omega)]; omega
    have hk0 : (0 : Int) ≤ k := by omega
    have hk1 : (k : Int) < ((k + 1 : Nat) : Int) := by omega
    go_enter Try.func20, Try.ntmps20
    go_wp2_with fail
    refine HC.out.mono ?_
    rintro e w1 ⟨A1, c1, L1, rfl, hc1, hW1, hb1⟩
    obtain ⟨Q, x, rfl, hQ⟩ := last_split (show L1.length = k + 1 by have := congrArg List.length hc1; simp at this; rw [this, HNL.out])
    obtain ⟨g, c1', hform, hge, hlt⟩ := World.ownsRow.form hW1.own (by simp)
    simp only [Value.slice.injEq, true_and] at hform
    obtain ⟨rfl, -⟩ := hform
    have hxl : x.c.body.length + s.length ≤ 9223372036854775807 := by
      have h1 : x.c ∈ L.map Fm.c := by rw [← hc1]; simp
      obtain ⟨y, hy, hxy⟩ := List.mem_map.1 h1
      rw [← hxy]
      exact HL.out y hy
    have ba := Below.alloc' (Below.self w1) (.cells #[.slice (some ⟨g, 0, none⟩) (k + 1) c1, .int .i64 hops] 24)
    have hba := hb1.trans (ba.mono hb1.size)
    have HT := Stow.mk (Held.made w1 [.slice (some ⟨g, 0, none⟩) (k + 1) c1, .int .i64 hops] 24)
    have HP := Stow.mk (HP.out.kept hba)
    have HR := Stow.mk (HR.out.kept hba)
    have HB := Stow.mk (HB.out.trans (hba.mono HB.out.size))
    have HW := Stow.mk (hW1.keep ba)
    have hs1 := hb1.size
    have hs2 := ba.size
    have HFT := Stow.mk (FT.of HW.out.own)
    have HTK := Stow.mk (takes_any _ _ g c1 Q x s HFT.out hxl)
    rw [hQ] at HTK
    have HQ := Stow.mk hQ
    have HC1 := Stow.mk hc1
    obtain ⟨W1, hW1'⟩ : ∃ W, w1.alloc (.cells #[.slice (some ⟨g, 0, none⟩) (k + 1) c1, .int .i64 hops] 24) = W := ⟨_, rfl⟩
    clear hW1 hb1 hc1 q0 q1 hW0 HC ba hba HX hxl HL hQ
    rw [show w1.alloc (.cells [.slice (some ⟨g, 0, none⟩) (k + 1) c1, .int .i64 hops].toArray 24) = W1 from hW1'] at HT
    rw [hW1'] at HP HR HB HW HFT HTK hs2
    have q0 := HT.out.cell (i := 0) rfl
    have p2 := HP.out.cell (i := 2) rfl
    go_wp2_with fail
    refine HTK.out.mono ?_
    rintro e w2 ⟨rfl, hF2, hO2⟩
    have ht1 := HT.out.lt
    have HP := Stow.mk (HP.out.offO hO2 (by omega))
    have HR := Stow.mk (HR.out.offO hO2 (by omega))
    have HT := Stow.mk (HT.out.offO hO2 (by omega))
    have HB := Stow.mk (HB.out.trans (hO2.below (show w.heap.size ≤ g by omega) HB.out.size))
    have hs3 := hO2.size
    have HF2 := Stow.mk hF2
    have HWX := Stow.mk (fun (W : World) (y : Fm) (hT : FT W W0.heap.size g c1 Q y) (ho : Only g W1 W) (k : x.Like y) => FlW.turn HW.out hT ho k)
    have HO2 := Stow.mk hO2
    clear hF2 hO2 q0 p2 hW1' HTK HFT HW HC
    have p0 := HP.out.cell (i := 0) rfl
    obtain ⟨xs, hxs⟩ : ∃ z, x.c.st = z := ⟨_, rfl⟩
    have c3 := HF2.out.cell (j := 3) (v := .int .i64 xs) (by rw [← hxs]; rfl)
    have f3 := HF2.out.free (Q.length * 13 + 3)
    rw [HQ.out] at c3 f3
    have HXS := Stow.mk hxs
    clear hxs
    by_cases hst : 400 ≤ st
    · have d1 : decide ((400 : Int) ≤ st) = true := by simpa using hst
      by_cases hx2 : xs = 200
      · have HSA := Stow.mk (show (Q ++ [{ x.takes s with c := { (x.takes s).c with st := 502 } }]).map Fm.c = ansL st s (L.map Fm.c) by
          rw [← HC1.out, List.map_append, List.map_append, List.map_singleton, List.map_singleton, ansL_end]
          unfold ansF Fm.takes
          rw [if_pos ⟨hst, by rw [HXS.out]; exact hx2⟩])
        have d2 : (xs == 200) = true := by simpa using hx2
        have hF3 := HF2.out.set (y := { x.takes s with c := { (x.takes s).c with st := 502 } }) 3 (.int .i64 502) rfl
        rw [HQ.out] at hF3
        have hO3 : Only g w2 (w2.setCell ⟨g, k * 13 + 3, none⟩ (.int .i64 502)) := Only.set _ _ _ _
        have HW := Stow.mk (HWX.out _ _ hF3 (HO2.out.trans hO3) ⟨rfl, rfl, rfl, rfl, rfl, rfl⟩)
        have HP := Stow.mk (HP.out.offO hO3 (by omega))
        have HR := Stow.mk (HR.out.offO hO3 (by omega))
        have HT := Stow.mk (HT.out.offO hO3 (by omega))
        have HB := Stow.mk (HB.out.trans (hO3.below (show w.heap.size ≤ g by omega) HB.out.size))
        clear hst
        go_upto_region 8 with fail
        obtain ⟨W3, hW3⟩ : ∃ W, w2.setCell ⟨g, k * 13 + 3, none⟩ (.int .i64 502) = W := ⟨_, rfl⟩
        rw [hW3] at HW HP HR HT HB
        rw [hW3]
        clear hW3 hF3 hO3 p0 c3 f3
        have q0 := HT.out.cell (i := 0) rfl
        have q1 := HT.out.cell (i := 1) rfl
        have s0 := HR.out.free 0
        have s1 := HR.out.free 1
        have r0 := HR.out.cell (i := 0) rfl
        have r1 := HR.out.cell (i := 1) rfl
        have hO1 : Only (w.heap.size + 1 + 1) W3 (World.setCell W3 ⟨w.heap.size + 1 + 1, 0, none⟩ (.slice (some ⟨g, 0, none⟩) (k + 1) c1)) := Only.set _ _ 0 _
        have hO2 : Only (w.heap.size + 1 + 1) (World.setCell W3 ⟨w.heap.size + 1 + 1, 0, none⟩ (.slice (some ⟨g, 0, none⟩) (k + 1) c1)) ((World.setCell W3 ⟨w.heap.size + 1 + 1, 0, none⟩ (.slice (some ⟨g, 0, none⟩) (k + 1) c1)).setCell ⟨w.heap.size + 1 + 1, 1, none⟩ (.int .i64 hops)) := Only.set _ _ 1 _
        have hO := hO1.trans hO2
        have HN := Stow.mk ((HR.out.set 0 (.slice (some ⟨g, 0, none⟩) (k + 1) c1)).set 1 (.int .i64 hops))
        have HW2 := Stow.mk (HW.out.only hO hsz1)
        have HB2 := Stow.mk (HB.out.trans (hO.below (show w.heap.size ≤ w.heap.size + 1 + 1 by omega) HB.out.size))
        clear hO1 hO2 hO HW HR
        go_wp2_with fail
        refine bodyPost_ret (flan_results _ (w.heap.size + 1 + 1) (.slice (some ⟨g, 0, none⟩) (k + 1) c1) hops _ HN.out rfl) rfl ?_
        exact ⟨(some ⟨g, 0, none⟩), c1, _, rfl, HSA.out, HW2.out.low (by omega), HB2.out⟩
      · have HSA := Stow.mk (show (Q ++ [x.takes s]).map Fm.c = ansL st s (L.map Fm.c) by
          rw [← HC1.out, List.map_append, List.map_append, List.map_singleton, List.map_singleton, ansL_end]
          unfold ansF Fm.takes
          rw [if_neg (fun h => hx2 (HXS.out.symm.trans h.2))])
        have d2 : (xs == 200) = false := by simpa using hx2
        have HW := Stow.mk (HWX.out _ _ HF2.out HO2.out ⟨rfl, rfl, rfl, rfl, rfl, rfl⟩)
        clear hst
        go_upto_region 8 with fail
        clear p0 c3 f3
        have q0 := HT.out.cell (i := 0) rfl
        have q1 := HT.out.cell (i := 1) rfl
        have s0 := HR.out.free 0
        have s1 := HR.out.free 1
        have r0 := HR.out.cell (i := 0) rfl
        have r1 := HR.out.cell (i := 1) rfl
        have hO1 : Only (w.heap.size + 1 + 1) w2 (World.setCell w2 ⟨w.heap.size + 1 + 1, 0, none⟩ (.slice (some ⟨g, 0, none⟩) (k + 1) c1)) := Only.set _ _ 0 _
        have hO2 : Only (w.heap.size + 1 + 1) (World.setCell w2 ⟨w.heap.size + 1 + 1, 0, none⟩ (.slice (some ⟨g, 0, none⟩) (k + 1) c1)) ((World.setCell w2 ⟨w.heap.size + 1 + 1, 0, none⟩ (.slice (some ⟨g, 0, none⟩) (k + 1) c1)).setCell ⟨w.heap.size + 1 + 1, 1, none⟩ (.int .i64 hops)) := Only.set _ _ 1 _
        have hO := hO1.trans hO2
        have HN := Stow.mk ((HR.out.set 0 (.slice (some ⟨g, 0, none⟩) (k + 1) c1)).set 1 (.int .i64 hops))
        have HW2 := Stow.mk (HW.out.only hO hsz1)
        have HB2 := Stow.mk (HB.out.trans (hO.below (show w.heap.size ≤ w.heap.size + 1 + 1 by omega) HB.out.size))
        clear hO1 hO2 hO HW HR
        go_wp2_with fail
        refine bodyPost_ret (flan_results _ (w.heap.size + 1 + 1) (.slice (some ⟨g, 0, none⟩) (k + 1) c1) hops _ HN.out rfl) rfl ?_
        exact ⟨(some ⟨g, 0, none⟩), c1, _, rfl, HSA.out, HW2.out.low (by omega), HB2.out⟩
    · have d1 : decide ((400 : Int) ≤ st) = false := by simpa using hst
      have HSA := Stow.mk (show (Q ++ [x.takes s]).map Fm.c = ansL st s (L.map Fm.c) by
        rw [← HC1.out, List.map_append, List.map_append, List.map_singleton, List.map_singleton, ansL_end]
        unfold ansF Fm.takes
        rw [if_neg (fun h => hst h.1)])
      have HW := Stow.mk (HWX.out _ _ HF2.out HO2.out ⟨rfl, rfl, rfl, rfl, rfl, rfl⟩)
      clear hst
      go_upto_region 8 with fail
      clear p0 c3 f3
      have q0 := HT.out.cell (i := 0) rfl
      have q1 := HT.out.cell (i := 1) rfl
      have s0 := HR.out.free 0
      have s1 := HR.out.free 1
      have r0 := HR.out.cell (i := 0) rfl
      have r1 := HR.out.cell (i := 1) rfl
      have hO1 : Only (w.heap.size + 1 + 1) w2 (World.setCell w2 ⟨w.heap.size + 1 + 1, 0, none⟩ (.slice (some ⟨g, 0, none⟩) (k + 1) c1)) := Only.set _ _ 0 _
      have hO2 : Only (w.heap.size + 1 + 1) (World.setCell w2 ⟨w.heap.size + 1 + 1, 0, none⟩ (.slice (some ⟨g, 0, none⟩) (k + 1) c1)) ((World.setCell w2 ⟨w.heap.size + 1 + 1, 0, none⟩ (.slice (some ⟨g, 0, none⟩) (k + 1) c1)).setCell ⟨w.heap.size + 1 + 1, 1, none⟩ (.int .i64 hops)) := Only.set _ _ 1 _
      have hO := hO1.trans hO2
      have HN := Stow.mk ((HR.out.set 0 (.slice (some ⟨g, 0, none⟩) (k + 1) c1)).set 1 (.int .i64 hops))
      have HW2 := Stow.mk (HW.out.only hO hsz1)
      have HB2 := Stow.mk (HB.out.trans (hO.below (show w.heap.size ≤ w.heap.size + 1 + 1 by omega) HB.out.size))
      clear hO1 hO2 hO HW HR
      go_wp2_with fail
      refine bodyPost_ret (flan_results _ (w.heap.size + 1 + 1) (.slice (some ⟨g, 0, none⟩) (k + 1) c1) hops _ HN.out rfl) rfl ?_
      exact ⟨(some ⟨g, 0, none⟩), c1, _, rfl, HSA.out, HW2.out.low (by omega), HB2.out⟩
/-- A flow that can be read, and lies from some block on. -/
structure FlD (D : Nat) (w : World) (A : Option Addr) (cap : Nat) (L : List Fm) : Prop where
  rd : FlR w A cap L
  row : ∀ ad, A = some ad → D ≤ ad.block
  lists : ∀ x ∈ L, FmN (fun b => D ≤ b) x
theorem FlD.keep {D : Nat} {w w' : World} {A : Option Addr} {cap : Nat} {L : List Fm} (h : FlD D w A cap L) (hb : Below w.heap.size w w') : FlD D w' A cap L := ⟨h.rd.keep hb, h.row, h.lists⟩
theorem FlD.only {D j : Nat} {w w' : World} {A : Option Addr} {cap : Nat} {L : List Fm} (h : FlD D w A cap L) (ho : Only j w w') (hj : j < D) : FlD D w' A cap L :=
  ⟨⟨slr_only h.rd.row ho fun ad e => by have := h.row ad e; omega, fun x hx => (h.rd.each x hx).only ho ((h.lists x hx).mono fun b hb => by omega)⟩, h.row, h.lists⟩
theorem own_addr {w : World} {B : Nat} {e : TypeId} {size n cap : Nat} {A : Option Addr} {xs : List Value} (h : w.ownsRow B e size (.slice A n cap) n xs) : ∀ ad, A = some ad → B ≤ ad.block := fun ad hA => by
  subst hA
  exact (World.ownsRow.lt h ad.block rfl).1
theorem FlW.dd {w : World} {B : Nat} {A : Option Addr} {cap : Nat} {L : List Fm} (h : FlW w B A cap L) : FlD B w A cap L := ⟨h.read, own_addr h.own, fun x hx => (h.apart x hx).mono fun b hb => hb.1⟩
end Go.Proofs.Ythbpcdoddcacdaa
