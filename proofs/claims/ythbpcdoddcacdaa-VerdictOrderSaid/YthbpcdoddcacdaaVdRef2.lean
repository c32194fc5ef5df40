/- Walks of the reference's Lacks, Of, Tree. Conditions: a slice's own; numbers of children are no giants. -/
import Derived.Test.YthbpcdoddcacdaaVdRef
import Derived.Test.YthbpcdoddcacdaaTrRefNodes
namespace Go.Proofs.Ythbpcdoddcacdaa
open Go.RowKit
set_option linter.unusedVariables false

set_option maxHeartbeats 4000000 in
set_option maxRecDepth 100000 in
theorem rfLacks_any (A : Option Addr) (cap hi lo : Nat) (L : List Sp) (x c : Bool) (w : World) (hS : SpR w A cap L) (hn : L.length ≤ 1000) (hkd : KdOk L) :
    Calls Try.prog 45 #[ktv hi lo A cap L x c] w fun e w' => e = .returned (.int .i64 (Tr.lacks L)) ∧ Below w.heap.size w w' := by
  have hb1 : Below w.heap.size w (w.alloc (.cells (ktc hi lo A cap L x c).toArray 58)) := Below.alloc' (Below.self w) _
  have HB := Stow.mk hb1
  have HS := Stow.mk (hS.keep hb1)
  have HH := Stow.mk (Held.made w (ktc hi lo A cap L x c) 58)
  have HKK := Stow.mk (refKids_len A cap L (by omega))
  have HKD := Stow.mk hkd
  obtain ⟨w1, hw1⟩ : ∃ w1, w.alloc (.cells (ktc hi lo A cap L x c).toArray 58) = w1 := ⟨_, rfl⟩
  have HLE : Stow (∀ i, i ≤ L.length → 0 ≤ Tr.lackTo L i ∧ Tr.lackTo L i ≤ 1099511627776 * (i : Int)) := ⟨fun i hi => ⟨Tr.lackTo_nonneg L i, Tr.lackTo_le (fun s hs => (hkd s hs).2) (by omega) i hi⟩⟩
  have HAL : Stow (Tr.lacks L = Tr.lackTo L L.length) := ⟨rfl⟩
  rw [HAL.out]
  clear hb1 hS hkd HAL
  unfold ktv
  go_enter Try.func45, Try.ntmps45
  go_wp2_with fail
  rw [show w.alloc (.cells #[.int .u64 (hi : Int), .int .u64 (lo : Int), .slice A L.length cap, .bool x, .bool c] 58) = w1 from hw1]
  rw [hw1] at HB HS HH
  clear hw1
  go_loopw [3, 4] (fun v u wr => ∃ i : Nat, u = .int .i64 (i : Int) ∧ v = .int .i64 (Tr.lackTo L i) ∧ i ≤ L.length ∧ Stow (Below w1.heap.size w1 wr)) (fun _ u _ => L.length - (intOf u).toNat)
  case atStart => exact ⟨0, rfl, rfl, by omega, ⟨Below.self _⟩⟩
  case round =>
    obtain ⟨i, rfl, rfl, hi, HBR⟩ := hrel
    have q2 := (HH.out.kept HBR.out).cell (i := 2) rfl
    by_cases hlt : i < L.length
    · have HHR := Stow.mk (HH.out.kept HBR.out)
      have HSR := Stow.mk (HS.out.keep HBR.out)
      obtain ⟨b, off, rfl, hblt, _⟩ := HSR.out.open (by simp; omega)
      have p7 := (span_at HSR.out hlt).c7
      rw [← Tr.sp_in hlt] at p7
      have hk := HKD.out _ (Tr.sp_mem hlt)
      have hle := HLE.out i hi
      have hkl := Tr.kids_len L i
      have HNX : Stow (Tr.lackTo L (i + 1) = Tr.lackTo L i + max 0 ((Tr.sp L i).kd - ((Tr.kids L i).length : Nat))) := ⟨Tr.lackTo_next L i⟩
      obtain ⟨d, hd⟩ : ∃ d, (Tr.sp L i).kd = d := ⟨_, rfl⟩
      obtain ⟨m, hm⟩ : ∃ d, Tr.lackTo L i = d := ⟨_, rfl⟩
      obtain ⟨m2, hm2⟩ : ∃ d, Tr.lackTo L (i + 1) = d := ⟨_, rfl⟩
      have HKW : Stow (∀ W, SpR W (some ⟨b, off, none⟩) cap L → Calls Try.prog 29 #[.slice (some ⟨b, off, none⟩) L.length cap, .int .i64 (i : Int)] W fun e w' => ∃ vA vc, e = .returned (.slice vA (Tr.kids L i).length vc) ∧ Below W.heap.size W w') := ⟨fun W h => (HKK.out i W h).mono fun e w' ⟨a, b, c, _, d⟩ => ⟨a, b, c, d⟩⟩
      obtain ⟨n, hnn⟩ : ∃ d, (Tr.kids L i).length = d := ⟨_, rfl⟩
      have HM2 := Stow.mk hm2
      rw [hd] at p7 hk HNX
      rw [hm] at hle HNX ⊢
      rw [hm2, hnn] at HNX
      rw [hnn] at HKW hkl
      have SF : Stow (∀ W', Below wr.heap.size wr W' → W'.cell? ⟨w.heap.size, 2, none⟩ = some (.slice (some ⟨b, off, none⟩) L.length cap) ∧ W'.cell? ⟨b, off + i * 11 + 7, none⟩ = some (.int .i64 d)) := ⟨fun W' hb => ⟨(HHR.out.kept hb).cell (i := 2) rfl, (hb.cell (p := ⟨b, off + i * 11 + 7, none⟩) hblt).trans p7⟩⟩
      have e1 : IntKind.i64.wrap (d - n) = d - n := IntWalk.i64_in _ (by omega)
      have hm2v := HNX.out
      have e2 : IntKind.i64.wrap (m + if (n : Int) < d then d - n else 0) = m2 := by
        rw [show (if (n : Int) < d then d - n else 0) = max 0 (d - n) by split <;> omega, ← hm2v]
        exact IntWalk.i64_in _ (by omega)
      have hii : (i : Int) < L.length := by omega
      have hi0 : (0 : Int) ≤ i := by omega
      clear hd hm hnn hm2 HNX hblt HKK hm2v
      go_wp2_with fail
      go_region_held3 (fun w' => w'.cell? ⟨w.heap.size, 2, none⟩ = some (.slice (some ⟨b, off, none⟩) L.length cap) ∧ w'.cell? ⟨b, off + i * 11 + 7, none⟩ = some (.int .i64 d)) (first | go_keep | exact hk6)
        (first
          | (go_at_call 29; refine (HKW.out _ HSR.out.drew).mono ?_; rintro e w5 ⟨g5, vc5, rfl, hb5⟩; have HB5 := Stow.mk (Below.call (Below.drew (Below.self wr)) hb5); have hk6 := SF.out w5 HB5.out))
      have HB6 := Stow.mk (HBR.out.trans (HB5.out.mono HBR.out.size))
      clear hk6 hb5
      go_wp2_with fail
      exact ⟨⟨i + 1, rfl, by rw [HM2.out], by omega, HB6⟩, by simp [intOf]; omega⟩
    · obtain rfl : i = L.length := by omega
      have hni : ¬ (L.length : Int) < L.length := by omega
      go_wp2_with fail
      go_ret
      exact ⟨rfl, HB.out.trans (HBR.out.mono HB.out.size)⟩

set_option maxHeartbeats 2000000 in
set_option maxRecDepth 100000 in
theorem rfOf_any (A : Option Addr) (cap hi lo : Nat) (L : List Sp) (x c : Bool) (w : World) (hS : SpR w A cap L) (hn : L.length ≤ 1000) (hkd : KdOk L) :
    Calls Try.prog 43 #[ktv hi lo A cap L x c] w fun e w' => e = .returned (.int .i64 (Tr.said L x c : Nat)) ∧ Below w.heap.size w w' := by
  have hb1 : Below w.heap.size w (w.alloc (.cells (ktc hi lo A cap L x c).toArray 58)) := Below.alloc' (Below.self w) _
  have HB := Stow.mk hb1
  have HS := Stow.mk (hS.keep hb1)
  have HH := Stow.mk (Held.made w (ktc hi lo A cap L x c) 58)
  have HCL : Stow (Tr.said L x c = if Tr.clashes L c then 2 else if (!x && decide ((Tr.roots L).length = 1) && decide ((Tr.orphans L).length = 0) && decide (Tr.lacks L = 0)) then 1 else 0) := ⟨rfl⟩
  rw [HCL.out]
  have HKC : Stow (∀ W, SpR W A cap L → Calls Try.prog 82 #[ktv hi lo A cap L x c] W fun e w' => e = .returned (.bool (Tr.clashes L c)) ∧ Below W.heap.size W w') := ⟨fun W h1 => rfClashes_any A cap hi lo L x c W h1 hn⟩
  obtain ⟨nr, hnr⟩ : ∃ n, (Tr.roots L).length = n := ⟨_, rfl⟩
  obtain ⟨nl, hnl⟩ : ∃ n, (Tr.orphans L).length = n := ⟨_, rfl⟩
  have HKR := Stow.mk (refRoots_len A cap L (by omega) hnr)
  have HKL := Stow.mk (refOrphans_len A cap L (by omega) hnl)
  have HKE : Stow (∀ W, SpR W A cap L → Calls Try.prog 45 #[ktv hi lo A cap L x c] W fun e w' => e = .returned (.int .i64 (Tr.lacks L)) ∧ Below W.heap.size W w') := ⟨fun W h1 => rfLacks_any A cap hi lo L x c W h1 hn hkd⟩
  obtain ⟨m, hm⟩ : ∃ n, Tr.lacks L = n := ⟨_, rfl⟩
  obtain ⟨b1, hb1⟩ : ∃ n, Tr.clashes L c = n := ⟨_, rfl⟩
  rw [hb1] at HKC ⊢
  rw [hm] at HKE ⊢
  rw [hnr, hnl]
  clear hS HCL hnr hnl hm hkd hb1
  unfold ktv
  cases b1
  rotate_left
  · go_enter Try.func43, Try.ntmps43
    go_wp2_with fail
    refine (HKC.out _ HS.out).mono ?_
    rintro e w1 ⟨rfl, hb1⟩
    have HB1 := Stow.mk (HB.out.trans (hb1.mono HB.out.size))
    clear hb1
    go_wp2_with fail
    go_ret
    exact ⟨rfl, HB1.out⟩
  cases x
  · by_cases h1 : nr ≠ 1
    · obtain ⟨d1, d2, d3, _⟩ := eq1_no h1
      rw [decide_eq_false h1]
      go_enter Try.func43, Try.ntmps43
      go_wp2_with fail
      refine (HKC.out _ HS.out).mono ?_
      rintro e w1 ⟨rfl, hbo⟩
      have HB := Stow.mk (HB.out.trans (hbo.mono HB.out.size))
      have HS := Stow.mk (HS.out.keep hbo)
      have HH := Stow.mk (HH.out.kept hbo)
      have q0w1 := HH.out.cell (i := 0) rfl
      have q1w1 := HH.out.cell (i := 1) rfl
      have q2w1 := HH.out.cell (i := 2) rfl
      have q3w1 := HH.out.cell (i := 3) rfl
      have q4w1 := HH.out.cell (i := 4) rfl
      clear hbo
      go_wp2_with fail
      refine (HKR.out _ HS.out).mono ?_
      rintro e w2 ⟨A1, c1, rfl, hb1⟩
      have HB2 := Stow.mk (HB.out.trans (hb1.mono HB.out.size))
      clear hb1
      go_wp2_with fail
      go_ret
      exact ⟨rfl, HB2.out⟩
    · obtain rfl : nr = 1 := by omega
      by_cases h2 : nl ≠ 0
      · obtain ⟨d1, d2, d3⟩ := eq0_no h2
        rw [decide_eq_false h2]
        go_enter Try.func43, Try.ntmps43
        go_wp2_with fail
        refine (HKC.out _ HS.out).mono ?_
        rintro e w1 ⟨rfl, hbo⟩
        have HB := Stow.mk (HB.out.trans (hbo.mono HB.out.size))
        have HS := Stow.mk (HS.out.keep hbo)
        have HH := Stow.mk (HH.out.kept hbo)
        have q0w1 := HH.out.cell (i := 0) rfl
        have q1w1 := HH.out.cell (i := 1) rfl
        have q2w1 := HH.out.cell (i := 2) rfl
        have q3w1 := HH.out.cell (i := 3) rfl
        have q4w1 := HH.out.cell (i := 4) rfl
        clear hbo
        go_wp2_with fail
        refine (HKR.out _ HS.out).mono ?_
        rintro e w2 ⟨A1, c1, rfl, hb1⟩
        have HB := Stow.mk (HB.out.trans (hb1.mono HB.out.size))
        have HS := Stow.mk (HS.out.keep hb1)
        have HH := Stow.mk (HH.out.kept hb1)
        have q0w2 := HH.out.cell (i := 0) rfl
        have q1w2 := HH.out.cell (i := 1) rfl
        have q2w2 := HH.out.cell (i := 2) rfl
        have q3w2 := HH.out.cell (i := 3) rfl
        have q4w2 := HH.out.cell (i := 4) rfl
        clear hb1
        go_wp2_with fail
        refine (HKL.out _ HS.out).mono ?_
        rintro e w3 ⟨A2, c2, rfl, hb2⟩
        have HB2 := Stow.mk (HB.out.trans (hb2.mono HB.out.size))
        clear hb2
        go_wp2_with fail
        go_ret
        exact ⟨rfl, HB2.out⟩
      · obtain rfl : nl = 0 := by omega
        obtain ⟨b3, hb3⟩ : ∃ b, decide (m = 0) = b := ⟨_, rfl⟩
        have d3 : (m == 0) = b3 := by rw [← hb3, Bool.eq_iff_iff]; simp
        rw [hb3]
        clear hb3
        go_enter Try.func43, Try.ntmps43
        go_wp2_with fail
        refine (HKC.out _ HS.out).mono ?_
        rintro e w1 ⟨rfl, hbo⟩
        have HB := Stow.mk (HB.out.trans (hbo.mono HB.out.size))
        have HS := Stow.mk (HS.out.keep hbo)
        have HH := Stow.mk (HH.out.kept hbo)
        have q0w1 := HH.out.cell (i := 0) rfl
        have q1w1 := HH.out.cell (i := 1) rfl
        have q2w1 := HH.out.cell (i := 2) rfl
        have q3w1 := HH.out.cell (i := 3) rfl
        have q4w1 := HH.out.cell (i := 4) rfl
        clear hbo
        go_wp2_with fail
        refine (HKR.out _ HS.out).mono ?_
        rintro e w2 ⟨A1, c1, rfl, hb1⟩
        have HB := Stow.mk (HB.out.trans (hb1.mono HB.out.size))
        have HS := Stow.mk (HS.out.keep hb1)
        have HH := Stow.mk (HH.out.kept hb1)
        have q0w2 := HH.out.cell (i := 0) rfl
        have q1w2 := HH.out.cell (i := 1) rfl
        have q2w2 := HH.out.cell (i := 2) rfl
        have q3w2 := HH.out.cell (i := 3) rfl
        have q4w2 := HH.out.cell (i := 4) rfl
        clear hb1
        go_wp2_with fail
        refine (HKL.out _ HS.out).mono ?_
        rintro e w3 ⟨A2, c2, rfl, hb2⟩
        have HB := Stow.mk (HB.out.trans (hb2.mono HB.out.size))
        have HS := Stow.mk (HS.out.keep hb2)
        have HH := Stow.mk (HH.out.kept hb2)
        have q0w3 := HH.out.cell (i := 0) rfl
        have q1w3 := HH.out.cell (i := 1) rfl
        have q2w3 := HH.out.cell (i := 2) rfl
        have q3w3 := HH.out.cell (i := 3) rfl
        have q4w3 := HH.out.cell (i := 4) rfl
        clear hb2
        go_wp2_with fail
        refine (HKE.out _ HS.out).mono ?_
        rintro e w4 ⟨rfl, hb3⟩
        have HB3 := Stow.mk (HB.out.trans (hb3.mono HB.out.size))
        clear hb3
        cases b3
        · go_wp2_with fail
          go_ret
          exact ⟨rfl, HB3.out⟩
        · go_wp2_with fail
          go_ret
          exact ⟨rfl, HB3.out⟩
  · go_enter Try.func43, Try.ntmps43
    go_wp2_with fail
    refine (HKC.out _ HS.out).mono ?_
    rintro e w1 ⟨rfl, hb1⟩
    have HB := Stow.mk (HB.out.trans (hb1.mono HB.out.size))
    have HS := Stow.mk (HS.out.keep hb1)
    have HH := Stow.mk (HH.out.kept hb1)
    have q0w1 := HH.out.cell (i := 0) rfl
    have q1w1 := HH.out.cell (i := 1) rfl
    have q2w1 := HH.out.cell (i := 2) rfl
    have q3w1 := HH.out.cell (i := 3) rfl
    have q4w1 := HH.out.cell (i := 4) rfl
    clear hb1
    go_wp2_with fail
    go_ret
    exact ⟨rfl, HB.out⟩

set_option maxHeartbeats 2000000 in
set_option maxRecDepth 100000 in
theorem rfTree_any (A : Option Addr) (cap hi lo : Nat) (L : List Sp) (x c : Bool) (w : World) (hS : SpR w A cap L) (hn : L.length ≤ 1000) (hkd : KdOk L) :
    Calls Try.prog 41 #[ktv hi lo A cap L x c] w fun e w' => TreeOut (Tr.treeN L x c) (decide (Tr.said L x c = 1)) w e w' := by
  have HKO : Stow (∀ W, SpR W A cap L → Calls Try.prog 43 #[ktv hi lo A cap L x c] W fun e w' => e = .returned (.int .i64 (Tr.said L x c : Nat)) ∧ Below W.heap.size W w') := ⟨fun W h1 => rfOf_any A cap hi lo L x c W h1 hn hkd⟩
  have HKR0 : Stow (∀ W, SpR W A cap L → _) := ⟨fun W h => refRoots_any A cap L W h (by omega)⟩
  have HKN0 : Stow (∀ W r, SpR W A cap L → r < L.length → _) := ⟨fun W r h hr => refNodes_yes A cap L r W h (by omega) hr⟩
  have hb1 : Below w.heap.size w (w.alloc (.cells (ktc hi lo A cap L x c).toArray 58)) := Below.alloc' (Below.self w) _
  have HB := Stow.mk hb1
  have HS := Stow.mk (hS.keep hb1)
  have HH := Stow.mk (Held.made w (ktc hi lo A cap L x c) 58)
  obtain ⟨n, hn1⟩ : ∃ n, Tr.said L x c = n := ⟨_, rfl⟩
  rw [hn1] at HKO
  by_cases h1 : n = 1
  · subst h1
    obtain ⟨r, hr, hrl, hM⟩ := Tr.treeN_yes hn1
    rw [hM, hn1]
    obtain ⟨M, hM⟩ : ∃ M, (Tr.walk L r).map (Tr.node L) = M := ⟨_, rfl⟩
    rw [hM]
    have HKR : Stow (∀ W, SpR W A cap L → Calls Try.prog 25 #[.slice A L.length cap] W fun e w' => ∃ g vc, e = .returned (.slice (some ⟨g, 0, none⟩) 1 vc) ∧ w'.cell? ⟨g, 0, none⟩ = some (.int .i64 (r : Int)) ∧ Below W.heap.size W w') := ⟨fun W h => (HKR0.out W h).mono fun e w' ⟨v, he, hr1, hb⟩ => by
      rw [hr] at hr1
      obtain ⟨A1, c1, rfl⟩ := own_form hr1
      obtain ⟨g, rfl, _, _, q⟩ := IRow.at_ hr1 (i := 0) (by simp)
      exact ⟨g, c1, he, q, hb⟩⟩
    have HKN : Stow (∀ W, SpR W A cap L → Calls Try.prog 36 #[.slice A L.length cap, .int .i64 (r : Int)] W fun e w' => ∃ vA vc, e = .returned (.slice vA M.length vc) ∧ NvR w' vA vc M ∧ Below W.heap.size W w') := ⟨fun W h => (HKN0.out W r h hrl).mono fun e w' h => nv_of hM h⟩
    have SF : Stow (∀ W', Held W' w.heap.size (ktc hi lo A cap L x c) → W'.cell? ⟨w.heap.size, 2, none⟩ = some (.slice A L.length cap)) := ⟨fun W' h => h.cell (i := 2) rfl⟩
    clear hb1 hS hr hM hn1 HKR0 HKN0
    unfold ktv
    go_enter Try.func41, Try.ntmps41
    go_wp2_with fail
    refine (HKO.out _ HS.out).mono ?_
    rintro e w1 ⟨rfl, hb1⟩
    have HB1 := Stow.mk (HB.out.trans (hb1.mono HB.out.size))
    have HS1 := Stow.mk (HS.out.keep hb1)
    have HH1 := Stow.mk (HH.out.kept hb1)
    have q2 := SF.out _ HH1.out
    clear hb1
    go_wp2_with fail
    go_region_with
      (first
        | (go_at_call 25; refine (HKR.out _ HS1.out.drew).mono ?_; rintro e w5 ⟨g5, vc5, rfl, p5, hb5⟩; have HB5 := Stow.mk (Below.call (Below.drew (Below.self w1)) hb5); have HS5 := Stow.mk (HS1.out.keep HB5.out); have HH5 := Stow.mk (HH1.out.kept HB5.out); have hk6 := SF.out w5 HH5.out)
        | (go_at_call 36; refine (HKN.out _ HS5.out).mono ?_; rintro e w6 ⟨vA6, vc6, rfl, hr6, hb6⟩; have HB6 := Stow.mk (HB5.out.trans (hb6.mono HB5.out.size)); have HN6 := Stow.mk hr6; have hk6 := SF.out w6 (HH5.out.kept hb6)))
    all_goals
      have HB7 := Stow.mk (HB1.out.trans (HB6.out.mono HB1.out.size))
      clear hb5 hb6 hr6 hk6
      go_wp2_with fail
      go_ret2
      exact ⟨_, _, rfl, HN6.out, HB7.out⟩
  · obtain ⟨e1, e2, e3, e4, e5⟩ := eq1_no h1
    have HE1 : Stow (decide (n = 1) = false) := ⟨by simpa using h1⟩
    rw [Tr.treeN_no (by rw [hn1]; exact h1), hn1, HE1.out]
    clear hb1 hS hn1 h1 HE1 HKR0 HKN0
    unfold ktv
    go_enter Try.func41, Try.ntmps41
    go_wp2_with fail
    refine (HKO.out _ HS.out).mono ?_
    rintro e w1 ⟨rfl, hb1⟩
    have HB1 := Stow.mk (HB.out.trans (hb1.mono HB.out.size))
    clear hb1
    go_wp2_with fail
    refine bodyPost_ret (results_tmp2 rfl _ _ _) rfl ?_
    exact ⟨none, 0, rfl, nvr_nil _, HB1.out⟩
end Go.Proofs.Ythbpcdoddcacdaa
