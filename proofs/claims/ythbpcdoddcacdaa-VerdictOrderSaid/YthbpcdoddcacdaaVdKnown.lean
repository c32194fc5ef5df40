/- Walks of the law's small and known. Conditions: a slice's own. -/
import Derived.Test.YthbpcdoddcacdaaVdRef2
namespace Go.Proofs.Ythbpcdoddcacdaa
open Go.RowKit
set_option linter.unusedVariables false

/-- Numbers of children are small, and there are few spans. -/
def smallB (L : List Sp) : Bool := (L.take 101).all (fun s => decide (-1000000 ≤ s.kd ∧ s.kd ≤ 1000000)) && decide (L.length ≤ 100)
theorem smallB_yes {L : List Sp} (h : smallB L = true) : L.length ≤ 100 ∧ (∀ s ∈ L, -1000000 ≤ s.kd ∧ s.kd ≤ 1000000) ∧ KdOk L := by
  unfold smallB at h
  simp only [Bool.and_eq_true, decide_eq_true_eq] at h
  have h1 : ∀ s ∈ L, -1000000 ≤ s.kd ∧ s.kd ≤ 1000000 := fun s hs => by
    have := List.all_eq_true.1 h.1 s (by rw [List.take_of_length_le (by omega)]; exact hs)
    simpa using this
  exact ⟨h.2, h1, fun s hs => by have := h1 s hs; omega⟩
theorem small_no {L : List Sp} {i : Nat} (hi : i < L.length) (h : i ≤ 100) (hk : ¬ (-1000000 ≤ (Tr.sp L i).kd ∧ (Tr.sp L i).kd ≤ 1000000)) : smallB L = false := by
  unfold smallB
  rw [Bool.and_eq_false_iff]
  left
  rw [Bool.eq_false_iff]
  intro h2
  have := List.all_eq_true.1 h2 (Tr.sp L i) (by rw [Tr.sp_in hi]; exact List.mem_take_iff_getElem.2 ⟨i, by omega, rfl⟩)
  exact hk (by simpa using this)
theorem small_end {L : List Sp} {i : Nat} (hi : i = L.length ∨ 100 < i) (hl : i ≤ L.length) (h : ∀ k, k < i → -1000000 ≤ (Tr.sp L k).kd ∧ (Tr.sp L k).kd ≤ 1000000) : smallB L = decide (L.length ≤ 100) := by
  unfold smallB
  have : (L.take 101).all (fun s => decide (-1000000 ≤ s.kd ∧ s.kd ≤ 1000000)) = true := by
    rw [List.all_eq_true]
    intro s hs
    obtain ⟨k, hk, rfl⟩ := List.mem_take_iff_getElem.1 hs
    have := h k (by omega)
    rw [Tr.sp_in (by omega)] at this
    simpa using this
  rw [this]
  rfl

set_option maxHeartbeats 2000000 in
set_option maxRecDepth 100000 in
theorem small_any (A : Option Addr) (cap : Nat) (L : List Sp) (w : World) (hS : SpR w A cap L) (hn : L.length ≤ 9223372036854775807) :
    Calls Try.prog 38 #[.slice A L.length cap] w fun e w' => e = .returned (.bool (smallB L)) ∧ w' = w := by
  obtain ⟨R, hR⟩ : ∃ R, smallB L = R := ⟨_, rfl⟩
  rw [hR]
  have HR := Stow.mk hR
  have HS := Stow.mk hS
  clear hR hS
  go_enter Try.func38, Try.ntmps38
  go_wp2_with fail
  go_loopw [3] (fun u wr => ∃ i : Nat, u = .int .i64 (i : Int) ∧ i ≤ L.length ∧ i ≤ 101 ∧ Stow (∀ k, k < i → -1000000 ≤ (Tr.sp L k).kd ∧ (Tr.sp L k).kd ≤ 1000000) ∧ wr = w) (fun u _ => L.length - (intOf u).toNat)
  case atStart => exact ⟨0, rfl, by omega, by omega, ⟨fun k hk => by omega⟩, rfl⟩
  case round =>
    obtain ⟨i, rfl, hi, hi1, HA, rfl⟩ := hrel
    by_cases hlt : i < L.length
    · have hii : (i : Int) < L.length := by omega
      have d0 : decide ((i : Int) < L.length) = true := by simpa using hlt
      by_cases h1 : i ≤ 100
      · have d1 : decide ((i : Int) ≤ 100) = true := by simp; omega
        have d1' : decide (i ≤ 100) = true := by simpa using h1
        obtain ⟨b, off, rfl, hblt, _⟩ := HS.out.open (by simp; omega)
        have p7 := (span_at HS.out hlt).c7
        rw [← Tr.sp_in hlt] at p7
        have HNO : Stow (¬ (-1000000 ≤ (Tr.sp L i).kd ∧ (Tr.sp L i).kd ≤ 1000000) → R = false) := ⟨fun h => by rw [← HR.out]; exact small_no hlt h1 h⟩
        obtain ⟨d, hd⟩ : ∃ d, (Tr.sp L i).kd = d := ⟨_, rfl⟩
        have HD := Stow.mk hd
        rw [hd] at p7 HNO
        have hi0 : (0 : Int) ≤ i := by omega
        clear hd
        by_cases h2 : 1000000 < d
        · have d2 : decide (1000000 < d) = true := by simpa using h2
          obtain rfl : R = false := HNO.out (by omega)
          clear h2
          go_wp2_with fail
          go_ret
          exact ⟨rfl, rfl⟩
        · have d2 : decide (1000000 < d) = false := by simpa using h2
          by_cases h3 : d < -1000000
          · have d3 : decide (d < -1000000) = true := by simpa using h3
            obtain rfl : R = false := HNO.out (by omega)
            clear h2 h3
            go_wp2_with fail
            go_ret
            exact ⟨rfl, rfl⟩
          · have d3 : decide (d < -1000000) = false := by simpa using h3
            have HA2 : Stow (∀ k, k < i + 1 → -1000000 ≤ (Tr.sp L k).kd ∧ (Tr.sp L k).kd ≤ 1000000) := ⟨fun k hk => by
              by_cases h : k < i
              · exact HA.out k h
              · obtain rfl : k = i := by omega
                rw [HD.out]; omega⟩
            clear h2 h3
            go_wp2_with fail
            exact ⟨⟨i + 1, rfl, by omega, by omega, HA2, by first | rfl | trivial⟩, by simp [intOf]; omega⟩
      · have d1 : decide ((i : Int) ≤ 100) = false := by simp; omega
        have d1' : decide (i ≤ 100) = false := by simpa using h1
        have HE : Stow (R = decide (L.length ≤ 100)) := ⟨by rw [← HR.out]; exact small_end (.inr (by omega)) hi HA.out⟩
        obtain rfl : R = false := by rw [HE.out]; simp; omega
        have d4 : decide ((L.length : Int) ≤ 100) = false := by simp; omega
        have d4' : decide (L.length ≤ 100) = false := by simp; omega
        go_wp2_with fail
        go_ret
        exact ⟨by first | rfl | simp [d4, d4'], rfl⟩
    · obtain rfl : i = L.length := by omega
      have HE : Stow (R = decide (L.length ≤ 100)) := ⟨by rw [← HR.out]; exact small_end (.inl rfl) hi HA.out⟩
      have hni : ¬ (L.length : Int) < L.length := by omega
      obtain ⟨r, hr⟩ : ∃ r, decide (L.length ≤ 100) = r := ⟨_, rfl⟩
      have hri : decide ((L.length : Int) ≤ 100) = r := by rw [← hr, decide_eq_decide]; omega
      rw [hr] at HE
      obtain rfl := HE.out
      go_wp2_with fail
      go_ret
      exact ⟨by first | rfl | simp [hr, hri], rfl⟩

def s32a : Sp := ⟨0, 0, 1, 0, [97], 0, 0, 1, false, 0, 0⟩
def s32b : Sp := ⟨0, 0, 2, 1, [98], 200, 0, 0, false, 0, 0⟩
theorem k32a : Tr.said [s32b, s32a] false false = 1 := by decide +kernel
theorem k32b : Tr.said [s32a] false false = 0 := by decide +kernel
theorem k32c : Tr.lacks [s32a] = 1 := by decide +kernel
theorem k32d : Tr.said [s32b, s32a] false true = 2 := by decide +kernel
theorem k32e : Tr.said [s32a, s32a] false false = 2 := by decide +kernel
theorem k32f : Tr.said [s32b, s32a] true false = 0 := by decide +kernel
def n32 : List Nv := [⟨0, [97], 0, false⟩, ⟨1, [98], 200, false⟩]
theorem k32t : Tr.treeN [s32b, s32a] false false = n32 := by
  unfold Tr.treeN
  rw [if_pos k32a]
  unfold Tr.nodes
  rw [show Tr.walk [s32b, s32a] ((Tr.roots [s32b, s32a]).headD 0) = [(1, 0), (0, 1)] by decide +kernel]
  rfl
theorem kd32 {L : List Sp} (h : ∀ s ∈ L, s = s32a ∨ s = s32b) : KdOk L := by
  intro s hs
  rcases h s hs with rfl | rfl <;> decide
/-- A slice of spans that was just laid. -/
theorem lit_spans (w : World) (L : List Sp) (hL : L.length ≤ 1000000) : SpR (w.alloc (.cells (L.map Sp.cells).flatten.toArray 66)) (some ⟨w.heap.size, 0, none⟩) L.length L := by
  have := sl_held (L := L.map Sp.cells) (Held.made w (L.map Sp.cells).flatten 66) rfl (by intro x hx; obtain ⟨m, _, rfl⟩ := List.mem_map.1 hx; exact Sp.cells_len m) (by simpa using hL)
  simpa using this

set_option maxHeartbeats 4000000 in
set_option maxRecDepth 100000 in
theorem known32_any (w : World) : Calls Try.prog 39 #[] w fun e w' => e = .returned (.bool true) ∧ Below w.heap.size w w' := by
  go_enter Try.func39, Try.ntmps39
  go_upto_region 2 with fail
  generalize hWe : World.alloc _ _ = W2
  have HR : Stow (Held W2 w.heap.size s32a.cells) := ⟨by subst hWe; exact (Held.made w s32a.cells _).alloc' _⟩
  have HK : Stow (Held W2 (w.heap.size + 1) s32b.cells) := ⟨by
    subst hWe
    have := Held.made (World.alloc w (.cells s32a.cells.toArray 66)) s32b.cells 66
    rw [show (World.alloc w (.cells s32a.cells.toArray 66)).heap.size = w.heap.size + 1 by simp] at this
    exact this⟩
  have HB : Stow (Below w.heap.size w W2) := ⟨by subst hWe; exact Below.alloc' (Below.alloc' (Below.self w) _) _⟩
  clear hWe
  have hb3 : Below W2.heap.size W2 (W2.alloc (.cells (([s32b, s32a] : List Sp).map Sp.cells).flatten.toArray 66)) := Below.alloc' (Below.self W2) _
  have hb4 : Below W2.heap.size W2 ((W2.alloc (.cells (([s32b, s32a] : List Sp).map Sp.cells).flatten.toArray 66)).alloc (.cells (ktc 0 0 (some ⟨W2.heap.size, 0, none⟩) 2 [s32b, s32a] false false).toArray 58)) := Below.alloc' hb3 _
  have hS3 := lit_spans W2 [s32b, s32a] (by decide)
  have HS := Stow.mk (SlR.alloc hS3 (.cells (ktc 0 0 (some ⟨W2.heap.size, 0, none⟩) 2 [s32b, s32a] false false).toArray 58))
  have HP : Stow (Held ((W2.alloc (.cells (([s32b, s32a] : List Sp).map Sp.cells).flatten.toArray 66)).alloc (.cells (ktc 0 0 (some ⟨W2.heap.size, 0, none⟩) 2 [s32b, s32a] false false).toArray 58)) (W2.heap.size + 1) (ktc 0 0 (some ⟨W2.heap.size, 0, none⟩) 2 [s32b, s32a] false false)) := ⟨by
    have := Held.made (W2.alloc (.cells (([s32b, s32a] : List Sp).map Sp.cells).flatten.toArray 66)) (ktc 0 0 (some ⟨W2.heap.size, 0, none⟩) 2 [s32b, s32a] false false) 58
    rw [show (World.alloc W2 (.cells (([s32b, s32a] : List Sp).map Sp.cells).flatten.toArray 66)).heap.size = W2.heap.size + 1 by simp] at this
    exact this⟩
  have KT := vdTree_any (some ⟨W2.heap.size, 0, none⟩) 2 0 0 [s32b, s32a] false false _ HS.out (by decide) (kd32 (by simp))
  rw [k32t, k32a] at KT
  have HKT := Stow.mk KT
  have HB4 := Stow.mk hb4
  have q0r := HR.out.cell (i := 0) rfl
  have q1r := HR.out.cell (i := 1) rfl
  have q2r := HR.out.cell (i := 2) rfl
  have q3r := HR.out.cell (i := 3) rfl
  have q4r := HR.out.cell (i := 4) rfl
  have q5r := HR.out.cell (i := 5) rfl
  have q6r := HR.out.cell (i := 6) rfl
  have q7r := HR.out.cell (i := 7) rfl
  have q8r := HR.out.cell (i := 8) rfl
  have q9r := HR.out.cell (i := 9) rfl
  have q10r := HR.out.cell (i := 10) rfl
  have q0k := HK.out.cell (i := 0) rfl
  have q1k := HK.out.cell (i := 1) rfl
  have q2k := HK.out.cell (i := 2) rfl
  have q3k := HK.out.cell (i := 3) rfl
  have q4k := HK.out.cell (i := 4) rfl
  have q5k := HK.out.cell (i := 5) rfl
  have q6k := HK.out.cell (i := 6) rfl
  have q7k := HK.out.cell (i := 7) rfl
  have q8k := HK.out.cell (i := 8) rfl
  have q9k := HK.out.cell (i := 9) rfl
  have q10k := HK.out.cell (i := 10) rfl
  clear KT hb3 hb4 hS3
  go_wp2_with fail
  refine HKT.out.mono ?_
  rintro e wa ⟨vA, vc, rfl, hN, hba⟩
  have hbb := HB4.out.trans (hba.mono HB4.out.size)
  have HB := Stow.mk (HB.out.trans (hbb.mono HB.out.size))
  have HR := Stow.mk (HR.out.kept hbb)
  have HK := Stow.mk (HK.out.kept hbb)
  have HP := Stow.mk (HP.out.kept hba)
  have HS := Stow.mk (SlR.keep HS.out hba)
  have HN := Stow.mk hN
  have p0 := HP.out.cell (i := 0) rfl
  have p1 := HP.out.cell (i := 1) rfl
  have p2 := HP.out.cell (i := 2) rfl
  have p3 := HP.out.cell (i := 3) rfl
  have p4 := HP.out.cell (i := 4) rfl
  obtain ⟨G, hG⟩ : ∃ G, W2.heap.size = G := ⟨_, rfl⟩
  simp only [hG] at *
  clear hbb hba HKT HB4 hN q0r q1r q2r q3r q4r q5r q6r q7r q8r q9r q10r q0k q1k q2k q3k q4k q5k q6k q7k q8k q9k q10k
  have KO := vdOf_any (some ⟨G, 0, none⟩) 2 0 0 [s32b, s32a] false false wa HS.out (by decide) (kd32 (by simp))
  rw [k32a] at KO
  have HKO := Stow.mk KO
  clear KO
  go_wp2_with fail
  refine HKO.out.mono ?_
  rintro e wb ⟨rfl, hbb⟩
  have HB := Stow.mk (HB.out.trans (hbb.mono HB.out.size))
  have HR := Stow.mk (HR.out.kept hbb)
  have HK := Stow.mk (HK.out.kept hbb)
  have HN := Stow.mk (SlR.keep HN.out hbb)
  clear hbb HKO p0 p1 p2 p3 p4 HP HS
  have HN2 : Stow (NvR (wb.alloc (.cells (n32.map Nv.cells).flatten.toArray 53)) (some ⟨wb.heap.size, 0, none⟩) 2 n32) := ⟨sl_held (L := n32.map Nv.cells) (Held.made wb _ _) rfl (by intro x hx; obtain ⟨m, _, rfl⟩ := List.mem_map.1 hx; rfl) (by decide)⟩
  have HN3 := Stow.mk (SlR.alloc HN.out (.cells (n32.map Nv.cells).flatten.toArray 53))
  have HA := Stow.mk (Below.alloc' (Below.self wb) (.cells (n32.map Nv.cells).flatten.toArray 53))
  have HKS := Stow.mk (ndSame_any n32 vA (some ⟨wb.heap.size, 0, none⟩) vc 2 _ HN3.out HN2.out)
  go_wp2_with fail
  refine HKS.out.mono ?_
  rintro e wc ⟨rfl, hbc⟩
  have hbb := HA.out.trans (hbc.mono HA.out.size)
  have HB := Stow.mk (HB.out.trans (hbb.mono HB.out.size))
  have HR := Stow.mk (HR.out.kept hbb)
  have HK := Stow.mk (HK.out.kept hbb)
  clear hbb hbc HN HN2 HN3 HA HKS
  have HC := Stow.mk (vdOf_any (some ⟨wc.heap.size, 0, none⟩) _ 0 0 [s32a] false false _ (lit_spans wc [s32a] (by decide)) (by decide) (kd32 (by simp)))
  rw [k32b] at HC
  have HA := Stow.mk (Below.alloc' (Below.self wc) (.cells (([s32a] : List Sp).map Sp.cells).flatten.toArray 66))
  have q0r := HR.out.cell (i := 0) rfl
  have q1r := HR.out.cell (i := 1) rfl
  have q2r := HR.out.cell (i := 2) rfl
  have q3r := HR.out.cell (i := 3) rfl
  have q4r := HR.out.cell (i := 4) rfl
  have q5r := HR.out.cell (i := 5) rfl
  have q6r := HR.out.cell (i := 6) rfl
  have q7r := HR.out.cell (i := 7) rfl
  have q8r := HR.out.cell (i := 8) rfl
  have q9r := HR.out.cell (i := 9) rfl
  have q10r := HR.out.cell (i := 10) rfl
  have q0k := HK.out.cell (i := 0) rfl
  have q1k := HK.out.cell (i := 1) rfl
  have q2k := HK.out.cell (i := 2) rfl
  have q3k := HK.out.cell (i := 3) rfl
  have q4k := HK.out.cell (i := 4) rfl
  have q5k := HK.out.cell (i := 5) rfl
  have q6k := HK.out.cell (i := 6) rfl
  have q7k := HK.out.cell (i := 7) rfl
  have q8k := HK.out.cell (i := 8) rfl
  have q9k := HK.out.cell (i := 9) rfl
  have q10k := HK.out.cell (i := 10) rfl
  go_wp2_with fail
  refine HC.out.mono ?_
  rintro e wd ⟨rfl, hb⟩
  have hbb := HA.out.trans (hb.mono HA.out.size)
  have HB := Stow.mk (HB.out.trans (hbb.mono HB.out.size))
  have HR := Stow.mk (HR.out.kept hbb)
  have HK := Stow.mk (HK.out.kept hbb)
  clear hb hbb HA HC q0r q1r q2r q3r q4r q5r q6r q7r q8r q9r q10r q0k q1k q2k q3k q4k q5k q6k q7k q8k q9k q10k
  have HC := Stow.mk (vdLacks_any (some ⟨wd.heap.size, 0, none⟩) _ 0 0 [s32a] false false _ (lit_spans wd [s32a] (by decide)) (by decide) (kd32 (by simp)))
  rw [k32c] at HC
  have HA := Stow.mk (Below.alloc' (Below.self wd) (.cells (([s32a] : List Sp).map Sp.cells).flatten.toArray 66))
  have q0r := HR.out.cell (i := 0) rfl
  have q1r := HR.out.cell (i := 1) rfl
  have q2r := HR.out.cell (i := 2) rfl
  have q3r := HR.out.cell (i := 3) rfl
  have q4r := HR.out.cell (i := 4) rfl
  have q5r := HR.out.cell (i := 5) rfl
  have q6r := HR.out.cell (i := 6) rfl
  have q7r := HR.out.cell (i := 7) rfl
  have q8r := HR.out.cell (i := 8) rfl
  have q9r := HR.out.cell (i := 9) rfl
  have q10r := HR.out.cell (i := 10) rfl
  go_wp2_with fail
  refine HC.out.mono ?_
  rintro e we ⟨rfl, hb⟩
  have hbb := HA.out.trans (hb.mono HA.out.size)
  have HB := Stow.mk (HB.out.trans (hbb.mono HB.out.size))
  have HR := Stow.mk (HR.out.kept hbb)
  have HK := Stow.mk (HK.out.kept hbb)
  clear hb hbb HA HC q0r q1r q2r q3r q4r q5r q6r q7r q8r q9r q10r
  have HC := Stow.mk (vdOf_any (some ⟨we.heap.size, 0, none⟩) _ 0 0 [s32b, s32a] false true _ (lit_spans we [s32b, s32a] (by decide)) (by decide) (kd32 (by simp)))
  rw [k32d] at HC
  have HA := Stow.mk (Below.alloc' (Below.self we) (.cells (([s32b, s32a] : List Sp).map Sp.cells).flatten.toArray 66))
  have q0r := HR.out.cell (i := 0) rfl
  have q1r := HR.out.cell (i := 1) rfl
  have q2r := HR.out.cell (i := 2) rfl
  have q3r := HR.out.cell (i := 3) rfl
  have q4r := HR.out.cell (i := 4) rfl
  have q5r := HR.out.cell (i := 5) rfl
  have q6r := HR.out.cell (i := 6) rfl
  have q7r := HR.out.cell (i := 7) rfl
  have q8r := HR.out.cell (i := 8) rfl
  have q9r := HR.out.cell (i := 9) rfl
  have q10r := HR.out.cell (i := 10) rfl
  have q0k := HK.out.cell (i := 0) rfl
  have q1k := HK.out.cell (i := 1) rfl
  have q2k := HK.out.cell (i := 2) rfl
  have q3k := HK.out.cell (i := 3) rfl
  have q4k := HK.out.cell (i := 4) rfl
  have q5k := HK.out.cell (i := 5) rfl
  have q6k := HK.out.cell (i := 6) rfl
  have q7k := HK.out.cell (i := 7) rfl
  have q8k := HK.out.cell (i := 8) rfl
  have q9k := HK.out.cell (i := 9) rfl
  have q10k := HK.out.cell (i := 10) rfl
  go_wp2_with fail
  refine HC.out.mono ?_
  rintro e wf ⟨rfl, hb⟩
  have hbb := HA.out.trans (hb.mono HA.out.size)
  have HB := Stow.mk (HB.out.trans (hbb.mono HB.out.size))
  have HR := Stow.mk (HR.out.kept hbb)
  have HK := Stow.mk (HK.out.kept hbb)
  clear hb hbb HA HC q0r q1r q2r q3r q4r q5r q6r q7r q8r q9r q10r q0k q1k q2k q3k q4k q5k q6k q7k q8k q9k q10k
  have HC := Stow.mk (vdOf_any (some ⟨wf.heap.size, 0, none⟩) _ 0 0 [s32a, s32a] false false _ (lit_spans wf [s32a, s32a] (by decide)) (by decide) (kd32 (by simp)))
  rw [k32e] at HC
  have HA := Stow.mk (Below.alloc' (Below.self wf) (.cells (([s32a, s32a] : List Sp).map Sp.cells).flatten.toArray 66))
  have q0r := HR.out.cell (i := 0) rfl
  have q1r := HR.out.cell (i := 1) rfl
  have q2r := HR.out.cell (i := 2) rfl
  have q3r := HR.out.cell (i := 3) rfl
  have q4r := HR.out.cell (i := 4) rfl
  have q5r := HR.out.cell (i := 5) rfl
  have q6r := HR.out.cell (i := 6) rfl
  have q7r := HR.out.cell (i := 7) rfl
  have q8r := HR.out.cell (i := 8) rfl
  have q9r := HR.out.cell (i := 9) rfl
  have q10r := HR.out.cell (i := 10) rfl
  have q0k := HK.out.cell (i := 0) rfl
  have q1k := HK.out.cell (i := 1) rfl
  have q2k := HK.out.cell (i := 2) rfl
  have q3k := HK.out.cell (i := 3) rfl
  have q4k := HK.out.cell (i := 4) rfl
  have q5k := HK.out.cell (i := 5) rfl
  have q6k := HK.out.cell (i := 6) rfl
  have q7k := HK.out.cell (i := 7) rfl
  have q8k := HK.out.cell (i := 8) rfl
  have q9k := HK.out.cell (i := 9) rfl
  have q10k := HK.out.cell (i := 10) rfl
  go_wp2_with fail
  refine HC.out.mono ?_
  rintro e wg ⟨rfl, hb⟩
  have hbb := HA.out.trans (hb.mono HA.out.size)
  have HB := Stow.mk (HB.out.trans (hbb.mono HB.out.size))
  have HR := Stow.mk (HR.out.kept hbb)
  have HK := Stow.mk (HK.out.kept hbb)
  clear hb hbb HA HC q0r q1r q2r q3r q4r q5r q6r q7r q8r q9r q10r q0k q1k q2k q3k q4k q5k q6k q7k q8k q9k q10k
  have HC := Stow.mk (vdOf_any (some ⟨wg.heap.size, 0, none⟩) _ 0 0 [s32b, s32a] true false _ (lit_spans wg [s32b, s32a] (by decide)) (by decide) (kd32 (by simp)))
  rw [k32f] at HC
  have HA := Stow.mk (Below.alloc' (Below.self wg) (.cells (([s32b, s32a] : List Sp).map Sp.cells).flatten.toArray 66))
  have q0r := HR.out.cell (i := 0) rfl
  have q1r := HR.out.cell (i := 1) rfl
  have q2r := HR.out.cell (i := 2) rfl
  have q3r := HR.out.cell (i := 3) rfl
  have q4r := HR.out.cell (i := 4) rfl
  have q5r := HR.out.cell (i := 5) rfl
  have q6r := HR.out.cell (i := 6) rfl
  have q7r := HR.out.cell (i := 7) rfl
  have q8r := HR.out.cell (i := 8) rfl
  have q9r := HR.out.cell (i := 9) rfl
  have q10r := HR.out.cell (i := 10) rfl
  have q0k := HK.out.cell (i := 0) rfl
  have q1k := HK.out.cell (i := 1) rfl
  have q2k := HK.out.cell (i := 2) rfl
  have q3k := HK.out.cell (i := 3) rfl
  have q4k := HK.out.cell (i := 4) rfl
  have q5k := HK.out.cell (i := 5) rfl
  have q6k := HK.out.cell (i := 6) rfl
  have q7k := HK.out.cell (i := 7) rfl
  have q8k := HK.out.cell (i := 8) rfl
  have q9k := HK.out.cell (i := 9) rfl
  have q10k := HK.out.cell (i := 10) rfl
  go_wp2_with fail
  refine HC.out.mono ?_
  rintro e wh ⟨rfl, hb⟩
  have hbb := HA.out.trans (hb.mono HA.out.size)
  have HB := Stow.mk (HB.out.trans (hbb.mono HB.out.size))
  have HR := Stow.mk (HR.out.kept hbb)
  have HK := Stow.mk (HK.out.kept hbb)
  clear hb hbb HA HC q0r q1r q2r q3r q4r q5r q6r q7r q8r q9r q10r q0k q1k q2k q3k q4k q5k q6k q7k q8k q9k q10k
  go_wp2_with fail
  go_ret
  exact ⟨rfl, HB.out⟩
end Go.Proofs.Ythbpcdoddcacdaa
