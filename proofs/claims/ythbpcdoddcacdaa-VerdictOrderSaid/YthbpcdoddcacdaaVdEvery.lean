/- Walks of verdict.fits and verdict.every. Conditions: a slice's own. -/
import Derived.Test.YthbpcdoddcacdaaVdMath
import Derived.Test.YthbpcdoddcacdaaTrWalksLaw
import Derived.Deep.RegionHeld3
namespace Go.Proofs.Ythbpcdoddcacdaa
open Go.RowKit
set_option linter.unusedVariables false

theorem gb_refl (w : World) (r : Option Nat) : w.grownBy w r := ⟨rfl, rfl, rfl, Nat.le_refl _, fun _ _ _ => rfl⟩
theorem gb_trans {a b c : World} {r : Option Nat} (h : a.grownBy b r) (k : b.grownBy c r) : a.grownBy c r :=
  ⟨k.os.trans h.os, k.tape.trans h.tape, k.output.trans h.output, Nat.le_trans h.size k.size, fun i hi hne => (k.block i (Nat.lt_of_lt_of_le hi h.size) hne).trans (h.block i hi hne)⟩
theorem gb_of {a b : World} (h : Below a.heap.size a b) (r : Option Nat) : a.grownBy b r := ⟨h.os, h.tape, h.output, h.size, fun i hi _ => h.block i hi⟩
theorem gb_below {a b : World} {r : Option Nat} {B : Nat} (h : a.grownBy b r) (hr : ∀ k, r = some k → B ≤ k) (hB : B ≤ a.heap.size) : Below B a b :=
  ⟨h.os, h.tape, h.output, h.size, fun k hk => h.block k (by omega) (by intro e; have := hr k e.symm; omega)⟩

theorem Tr.fits_no {kd last q : Int} {t : List Int} (h : q ≤ last ∨ kd ≤ q) : Tr.fits kd last (q :: t) = false := by unfold Tr.fits; rw [if_pos h]
theorem Tr.fits_yes {kd last q : Int} {t : List Int} (h : ¬ (q ≤ last ∨ kd ≤ q)) : Tr.fits kd last (q :: t) = Tr.fits kd q t := by conv => lhs; unfold Tr.fits; rw [if_neg h]
theorem Tr.fits_nil (kd last : Int) : Tr.fits kd last [] = true := rfl

set_option maxHeartbeats 2000000 in
set_option maxRecDepth 100000 in
theorem vdFits_any (A Ak : Option Addr) (cap ck : Nat) (L : List Sp) (K : List Nat) (s : Sp) (w : World) (hS : SpR w A cap L) (hK : IR w Ak ck K) (hlt : ∀ k ∈ K, k < L.length) (hn : L.length ≤ 1000000) (hk : K.length ≤ 1000000) :
    Calls Try.prog 106 #[.slice A L.length cap, s.val, .slice Ak K.length ck] w fun e w' => e = .returned (.bool (Tr.fits s.kd (-1) (K.map fun k => (Tr.sp L k).sq))) ∧ Below w.heap.size w w' := by
  obtain ⟨Q, hQ⟩ : ∃ Q, (K.map fun k => (Tr.sp L k).sq) = Q := ⟨_, rfl⟩
  have hQl : Q.length = K.length := by rw [← hQ]; simp
  have HQA : Stow (∀ j (h : j < K.length), Q.drop j = (Tr.sp L K[j]).sq :: Q.drop (j + 1)) := ⟨fun j h => by
    rw [List.drop_eq_getElem_cons (show j < Q.length by omega)]
    congr 1
    subst hQ
    simp⟩
  have HQE : Stow (Q.drop K.length = []) := ⟨by rw [← hQl]; exact List.drop_length⟩
  rw [hQ]
  have HLT := Stow.mk hlt
  have HM := Stow.mk (Below.alloc' (Below.self w) (.cells s.cells.toArray 66))
  have HS : Stow (SpR (w.alloc (.cells s.cells.toArray 66)) A cap L) := ⟨hS.keep HM.out⟩
  have HK : Stow (IR (w.alloc (.cells s.cells.toArray 66)) Ak ck K) := ⟨SlR.keep hK HM.out⟩
  clear hS hK hQ hQl hlt
  unfold Sp.val
  go_enter Try.func106, Try.ntmps106
  go_wp2_with fail
  go_loopw [7, 13] (fun v u wr => ∃ (j : Nat) (l : Int), u = .int .i64 (j : Int) ∧ v = .int .i64 l ∧ j ≤ K.length ∧ Stow (Tr.fits s.kd (-1) Q = Tr.fits s.kd l (Q.drop j)) ∧ wr = w.alloc (.cells s.cells.toArray 66)) (fun _ u _ => K.length - (intOf u).toNat)
  case atStart => exact ⟨0, -1, rfl, rfl, by omega, ⟨rfl⟩, rfl⟩
  case round =>
    obtain ⟨j, l, rfl, rfl, hj, HF, rfl⟩ := hrel
    by_cases hjl : j < K.length
    · obtain ⟨b2, off2, rfl, hb2, q0⟩ := IR.at_ HK.out hjl
      have hkl := HLT.out _ (List.getElem_mem hjl)
      have HQJ := Stow.mk (HQA.out j hjl)
      obtain ⟨k, hk⟩ : ∃ k, K[j] = k := ⟨_, rfl⟩
      rw [hk] at q0 hkl HQJ
      obtain ⟨b, off, rfl, hblt, _⟩ := HS.out.open (by simp; omega)
      have hsp := span_at HS.out hkl
      have HSE : Stow (Tr.sp L k = L[k]) := ⟨Tr.sp_in hkl⟩
      obtain ⟨q, hq⟩ : ∃ q, (Tr.sp L k).sq = q := ⟨_, rfl⟩
      have p6 := hsp.c6
      rw [← HSE.out, hq] at p6
      rw [hq] at HQJ
      have hjj : (j : Int) < K.length := by omega
      have hkk : (k : Int) < L.length := by omega
      have p7 := (Held.made w s.cells 66).cell (i := 7) rfl
      clear hsp hq hk HSE
      by_cases h1 : q ≤ l
      · have d1 : decide (q ≤ l) = true := by simpa using h1
        have HE : Stow (Tr.fits s.kd (-1) Q = false) := ⟨by rw [HF.out, HQJ.out, Tr.fits_no (.inl h1)]⟩
        clear h1
        go_wp2_with fail
        go_ret
        exact ⟨by rw [HE.out]; rfl, HM.out⟩
      · have d1 : decide (q ≤ l) = false := by simpa using h1
        by_cases h2 : s.kd ≤ q
        · have d2 : decide (s.kd ≤ q) = true := by simpa using h2
          have HE : Stow (Tr.fits s.kd (-1) Q = false) := ⟨by rw [HF.out, HQJ.out, Tr.fits_no (.inr h2)]⟩
          clear h1 h2
          go_wp2_with fail
          go_ret
          exact ⟨by rw [HE.out]; rfl, HM.out⟩
        · have d2 : decide (s.kd ≤ q) = false := by simpa using h2
          have HE : Stow (Tr.fits s.kd (-1) Q = Tr.fits s.kd q (Q.drop (j + 1))) := ⟨by rw [HF.out, HQJ.out, Tr.fits_yes (by omega)]⟩
          clear h1 h2
          go_wp2_with fail
          exact ⟨⟨j + 1, q, rfl, rfl, by omega, HE, by first | rfl | trivial⟩, by simp [intOf]; omega⟩
    · obtain rfl : j = K.length := by omega
      have HE : Stow (Tr.fits s.kd (-1) Q = true) := ⟨by rw [HF.out, HQE.out]; rfl⟩
      have hni : ¬ (K.length : Int) < K.length := by omega
      go_wp2_with fail
      go_ret
      exact ⟨by rw [HE.out]; rfl, HM.out⟩

theorem Tr.all_to {R : Nat → Bool} {i n : Nat} (hi : i < n) (h : R i = false) : (List.range n).all R = false := by
  rw [Bool.eq_false_iff]
  intro h2
  have := List.all_eq_true.1 h2 i (by simpa using hi)
  rw [h] at this
  cases this
theorem Tr.all_end {R : Nat → Bool} {n : Nat} (h : ∀ i, i < n → R i = true) : (List.range n).all R = true := List.all_eq_true.2 fun i hi => h i (by simpa using hi)

set_option maxHeartbeats 4000000 in
set_option maxRecDepth 100000 in
theorem every_any (F : Nat) (caps : Array Value) (hcf : ∀ (args : Array Value) (w : World), (callFunc F args).run Try.prog w = .ok (.enter F args) w) (A : Option Addr) (cap : Nat) (L : List Sp) (R : Nat → Bool) (G : Nat → World → Prop) (row : Option Nat) (w : World)
    (hSp : ∀ i W, G i W → SpR W A cap L) (hkeep : ∀ i W W', G i W → Below W.heap.size W W' → G i W') (hrow : ∀ k, row = some k → k < w.heap.size)
    (hf : ∀ i W vA vc, i < L.length → G i W → IR W vA vc (Tr.kids L i) → Calls Try.prog F (#[(Tr.sp L i).val, .slice vA (Tr.kids L i).length vc] ++ caps) W fun e w' => e = .returned (.bool (R i)) ∧ G (i + 1) w' ∧ W.grownBy w' row)
    (h0 : G 0 w) (hn : L.length ≤ 1000000) :
    Calls Try.prog 83 #[.slice A L.length cap, .func (.func F) #[] caps] w fun e w' => e = .returned (.bool ((List.range L.length).all R)) ∧ ∃ i, G i w' ∧ ((List.range L.length).all R = true → i = L.length) ∧ w.grownBy w' row := by
  have HF := Stow.mk (And.intro hf (And.intro hkeep (And.intro hSp hrow)))
  have H0 := Stow.mk h0
  clear hf hkeep hSp hrow h0
  go_enter Try.func83, Try.ntmps83
  go_wp2_with fail
  go_loopw [9] (fun u wr => ∃ i : Nat, u = .int .i64 (i : Int) ∧ i ≤ L.length ∧ Stow (∀ k, k < i → R k = true) ∧ Stow (G i wr) ∧ Stow (w.grownBy wr row)) (fun u _ => L.length - (intOf u).toNat)
  case atStart => exact ⟨0, rfl, by omega, ⟨fun k hk => by omega⟩, H0, ⟨gb_refl _ _⟩⟩
  case round =>
    obtain ⟨i, rfl, hi, HA, HG, HW⟩ := hrel
    by_cases hlt : i < L.length
    · have HS := Stow.mk (HF.out.2.2.1 _ _ HG.out)
      obtain ⟨b, off, rfl, hblt, _⟩ := HS.out.open (by simp; omega)
      have hsp := span_at HS.out hlt
      have HSI : Stow (Tr.sp L i = L[i]) := ⟨Tr.sp_in hlt⟩
      obtain ⟨s, hs⟩ : ∃ s, Tr.sp L i = s := ⟨_, rfl⟩
      rw [← HSI.out, hs] at hsp
      have HSE := Stow.mk hs
      obtain ⟨hltb, q0, q1, q2, q3, q4, q5, q6, q7, q8, q9, q10⟩ := hsp
      clear hs HSI
      have hii : (i : Int) < L.length := by omega
      have HSZ := Stow.mk HW.out.size
      go_wp2_with fail
      generalize hWe : World.alloc _ _ = W4
      obtain ⟨g, hg⟩ : ∃ g, wr.heap.size = g := ⟨_, rfl⟩
      have HB4 : Stow (Below wr.heap.size wr W4) := ⟨by subst hWe; exact Below.alloc' (Below.self _) _⟩
      have HG4 : Stow (G i W4) := ⟨HF.out.2.1 _ _ _ HG.out HB4.out⟩
      have HH4 : Stow (Held W4 g s.cells) := ⟨by subst hWe hg; exact Held.made _ _ _⟩
      have HNE : Stow (row ≠ some g) := ⟨fun e => by have := HF.out.2.2.2 g e; have := HSZ.out; omega⟩
      have HW4 : Stow (w.grownBy W4 row) := ⟨gb_trans HW.out (gb_of HB4.out row)⟩
      rw [hg]
      clear hWe hg q0 q1 q2 q3 q4 q5 q6 q7 q8 q9 q10
      have SF : Stow (∀ W', Held W' g s.cells → W'.cell? ⟨g, 0, none⟩ = some (.int .u64 (s.hi : Int)) ∧ W'.cell? ⟨g, 1, none⟩ = some (.int .u64 (s.lo : Int)) ∧ W'.cell? ⟨g, 2, none⟩ = some (.int .u64 (s.id : Int)) ∧ W'.cell? ⟨g, 3, none⟩ = some (.int .u64 (s.up : Int)) ∧ W'.cell? ⟨g, 4, none⟩ = some (.string (bs s.name)) ∧ W'.cell? ⟨g, 5, none⟩ = some (.int .i64 s.st) ∧ W'.cell? ⟨g, 6, none⟩ = some (.int .i64 s.sq) ∧ W'.cell? ⟨g, 7, none⟩ = some (.int .i64 s.kd) ∧ W'.cell? ⟨g, 8, none⟩ = some (.bool s.sh) ∧ W'.cell? ⟨g, 9, none⟩ = some (.int .i64 s.t0) ∧ W'.cell? ⟨g, 10, none⟩ = some (.int .i64 s.t1)) := ⟨fun W' hb =>
        ⟨hb.cell (i := 0) rfl, hb.cell (i := 1) rfl, hb.cell (i := 2) rfl, hb.cell (i := 3) rfl, hb.cell (i := 4) rfl, hb.cell (i := 5) rfl, hb.cell (i := 6) rfl, hb.cell (i := 7) rfl, hb.cell (i := 8) rfl, hb.cell (i := 9) rfl, hb.cell (i := 10) rfl⟩⟩
      obtain ⟨q0, q1, q2, q3, q4, q5, q6, q7, q8, q9, q10⟩ := SF.out W4 HH4.out
      have HKK : Stow (∀ W, G i W → Calls Try.prog 28 #[.slice (some ⟨b, off, none⟩) L.length cap, .int .i64 (i : Int)] W fun e w' => ∃ vA vc, e = .returned (.slice vA (Tr.kids L i).length vc) ∧ IR w' vA vc (Tr.kids L i) ∧ Below W.heap.size W w') := ⟨fun W h => (trKids_any _ cap L i W (HF.out.2.2.1 _ _ h) hn).mono fun e w' ⟨v, he, hr, hb⟩ => by
        obtain ⟨A1, c1, rfl⟩ := own_form hr
        exact ⟨A1, c1, he, IRow.ir hr, hb⟩⟩
      have HCC : Stow (∀ W vA vc, G i W → IR W vA vc (Tr.kids L i) → Calls Try.prog F (#[s.val, .slice vA (Tr.kids L i).length vc] ++ caps) W fun e w' => e = .returned (.bool (R i)) ∧ G (i + 1) w' ∧ W.grownBy w' row) := ⟨fun W vA vc h1 h2 => by have := HF.out.1 i W vA vc hlt h1 h2; rwa [HSE.out] at this⟩
      obtain ⟨r, hr⟩ : ∃ r, R i = r := ⟨_, rfl⟩
      have HR := Stow.mk hr
      rw [hr] at HCC
      clear hr
      go_region_held3 (fun w' => w'.cell? ⟨g, 0, none⟩ = some (.int .u64 (s.hi : Int)) ∧ w'.cell? ⟨g, 1, none⟩ = some (.int .u64 (s.lo : Int)) ∧ w'.cell? ⟨g, 2, none⟩ = some (.int .u64 (s.id : Int)) ∧ w'.cell? ⟨g, 3, none⟩ = some (.int .u64 (s.up : Int)) ∧ w'.cell? ⟨g, 4, none⟩ = some (.string (bs s.name)) ∧ w'.cell? ⟨g, 5, none⟩ = some (.int .i64 s.st) ∧ w'.cell? ⟨g, 6, none⟩ = some (.int .i64 s.sq) ∧ w'.cell? ⟨g, 7, none⟩ = some (.int .i64 s.kd) ∧ w'.cell? ⟨g, 8, none⟩ = some (.bool s.sh) ∧ w'.cell? ⟨g, 9, none⟩ = some (.int .i64 s.t0) ∧ w'.cell? ⟨g, 10, none⟩ = some (.int .i64 s.t1)) (first | go_keep | exact hk6)
        (first
          | (go_at_call 28; refine (HKK.out _ (HF.out.2.1 _ _ _ HG4.out (Below.drew (Below.self W4)))).mono ?_; rintro e w5 ⟨vA, vc, rfl, hr, hb5⟩; have hr5 := Stow.mk hr; have HG5 := Stow.mk (HF.out.2.1 _ _ _ HG4.out (Below.call (Below.drew (Below.self W4)) hb5)); have HH5 := Stow.mk (HH4.out.kept (Below.call (Below.drew (Below.self W4)) hb5)); have hk6 := SF.out w5 HH5.out)
          | (refine (HCC.out _ _ _ HG5.out hr5.out).mono ?_; rintro e w6 ⟨rfl, hg6, hb6⟩; have hk6 := SF.out w6 (Held.grown' HH5.out hb6 HNE.out)))
      have HG6 := Stow.mk hg6
      have HW6 := Stow.mk (gb_trans HW4.out (gb_trans (gb_of (Below.call (Below.drew (Below.self W4)) hb5) row) hb6))
      clear hg6 hb6 hb5 hr hk6
      cases r
      · have HE : Stow ((List.range L.length).all R = false) := ⟨Tr.all_to hlt HR.out⟩
        go_wp2_with fail
        go_ret
        refine ⟨?_, i + 1, HG6.out, fun h => absurd h (by rw [HE.out]; simp), HW6.out⟩
        rw [HE.out]; rfl
      · go_wp2_with fail
        exact ⟨⟨i + 1, rfl, by omega, ⟨fun k hk => by
          by_cases h : k < i
          · exact HA.out k h
          · obtain rfl : k = i := by omega
            exact HR.out⟩, HG6, HW6⟩, by simp [intOf]; omega⟩
    · obtain rfl : i = L.length := by omega
      have hni : ¬ (L.length : Int) < L.length := by omega
      go_wp2_with fail
      go_ret
      refine ⟨?_, L.length, HG.out, fun _ => rfl, HW.out⟩
      rw [Tr.all_end HA.out]; rfl
end Go.Proofs.Ythbpcdoddcacdaa
