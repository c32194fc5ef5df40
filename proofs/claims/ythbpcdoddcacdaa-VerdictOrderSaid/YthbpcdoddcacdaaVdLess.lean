/- Walk of the statement on a trace without one of its spans. Condition: a slice's own. -/
import Derived.Test.YthbpcdoddcacdaaVdSays
import Derived.Test.YthbpcdoddcacdaaApp
namespace Go.Proofs.Ythbpcdoddcacdaa
open Go.RowKit Cells
set_option linter.unusedVariables false

theorem info_sp : (Try.prog.info? 66).map (fun i => (i.zero, i.size, i.bytes)) = some (some (.agg #[.int .u64 0, .int .u64 0, .int .u64 0, .int .u64 0, .string ⟨#[]⟩, .int .i64 0, .int .i64 0, .int .i64 0, .bool false, .int .i64 0, .int .i64 0]), 11, 96) := by kernel_rfl
theorem sp_cells {L : List Sp} : ∀ x ∈ L.map Sp.cells, x.length = 11 := by intro x hx; obtain ⟨m, _, rfl⟩ := List.mem_map.1 hx; exact Sp.cells_len m
theorem sp_one {L : List Sp} : ∀ x ∈ L.map Sp.cells, ∀ u ∈ x, u.oneCell' = true := by
  intro x hx u hu
  obtain ⟨m, _, rfl⟩ := List.mem_map.1 hx
  unfold Sp.cells at hu
  simp only [List.mem_cons, List.not_mem_nil, or_false] at hu
  rcases hu with rfl | rfl | rfl | rfl | rfl | rfl | rfl | rfl | rfl | rfl | rfl <;> rfl
/-- A row of spans that a call made. -/
theorem own_spr {w : World} {B : Nat} {A : Option Addr} {n cap : Nat} {ys : List Value} {L : List Sp} (h : w.ownsRow B 66 11 (.slice A n cap) n ys) (hn : n = L.length) (hys : ys = (L.map Sp.cells).flatten) : SpR w A cap L := by
  subst hn hys
  exact SlR.of_own h (by simp) (flat_at sp_cells)
theorem Tr.is_len {L : List Sp} {s c : Bool} (h : Tr.said L s c = 1) : (Tr.treeN L s c).length = L.length ∧ Tr.lacks L = 0 := by
  obtain ⟨r, hr, _, hM⟩ := Tr.treeN_yes h
  rw [hM, List.length_map]
  exact ⟨(Tr.said_is h).all hr, (Tr.said_is h).lack⟩
theorem Tr.less_no {L : List Sp} {s c : Bool} (h : Tr.said L s c = 1) {k : Nat} (hk : k < L.length) : Tr.said (L.take k ++ L.drop (k + 1)) false false ≠ 1 := fun h2 => Tr.not_whole_less (Tr.said_is h) hk (Tr.said_is h2)


set_option maxHeartbeats 4000000 in
set_option maxRecDepth 100000 in
theorem less32 (x : KtArg) (a : Int) (w : World) (hS : SpR w x.A x.cap x.L) :
    Calls Try.prog 8 #[x.val, .int .i64 a] w fun e w' => e = .returned (.bool true) ∧ Below w.heap.size w w' := by
  obtain ⟨hi, lo, L, A, cap, s, c⟩ := x
  simp only [KtArg.val] at hS ⊢
  have hb1 : Below w.heap.size w (w.alloc (.cells (ktc hi lo A cap L s c).toArray 58)) := Below.alloc' (Below.self w) _
  have HB := Stow.mk hb1
  have HS := Stow.mk (hS.keep hb1)
  have HH := Stow.mk (Held.made w (ktc hi lo A cap L s c) 58)
  have hlen := hS.len
  simp only [List.length_map] at hlen
  have HSM := Stow.mk (small_any A cap L _ HS.out hlen)
  obtain ⟨r, hr⟩ : ∃ r, smallB L = r := ⟨_, rfl⟩
  rw [hr] at HSM
  clear hb1 hS hlen
  cases r
  · clear hr
    unfold ktv
    go_enter Try.func8, Try.ntmps8
    go_wp2_with fail
    refine HSM.out.mono ?_
    rintro e w1 ⟨rfl, rfl⟩
    go_wp2_with fail
    refine (known32_any _).mono ?_
    rintro e wk ⟨rfl, hbk⟩
    have HBK := Stow.mk (HB.out.trans (hbk.mono HB.out.size))
    clear hbk
    go_wp2_with fail
    go_ret
    exact ⟨rfl, HBK.out⟩
  obtain ⟨hn, _, hkd⟩ := smallB_yes hr
  have HO1 : Stow (∀ W, SpR W A cap L → _) := ⟨fun W h => vdOf_any A cap hi lo L s c W h (by omega) hkd⟩
  by_cases h1 : Tr.said L s c = 1
  rotate_left
  · obtain ⟨n, hn1⟩ : ∃ n, Tr.said L s c = n := ⟨_, rfl⟩
    rw [hn1] at HO1 h1
    obtain ⟨e1, e2, e3, e4, e5⟩ := eq1_no h1
    clear hr hn hkd hn1 h1
    unfold ktv
    go_enter Try.func8, Try.ntmps8
    go_wp2_with fail
    refine HSM.out.mono ?_
    rintro e w0 ⟨rfl, hw0⟩
    rw [← hw0] at HB HS HH
    have q0 := HH.out.cell (i := 0) rfl
    have q1 := HH.out.cell (i := 1) rfl
    have q2 := HH.out.cell (i := 2) rfl
    have q3 := HH.out.cell (i := 3) rfl
    have q4 := HH.out.cell (i := 4) rfl
    clear hw0 HSM
    go_wp2_with fail
    refine (HO1.out _ HS.out).mono ?_
    rintro e w1 ⟨rfl, hb1⟩
    have HB := Stow.mk (HB.out.trans (hb1.mono HB.out.size))
    have HS := Stow.mk (SlR.keep HS.out hb1)
    have HH := Stow.mk (HH.out.kept hb1)
    clear hb1
    go_wp2_with fail
    refine (known32_any _).mono ?_
    rintro e wk ⟨rfl, hbk⟩
    have HBK := Stow.mk (HB.out.trans (hbk.mono HB.out.size))
    clear hbk
    go_wp2_with fail
    go_ret
    exact ⟨rfl, HBK.out⟩
  have HT : Stow (∀ W, SpR W A cap L → _) := ⟨fun W h => vdTree_any A cap hi lo L s c W h (by omega) hkd⟩
  have HL1 : Stow (∀ W, SpR W A cap L → _) := ⟨fun W h => vdLacks_any A cap hi lo L s c W h (by omega) hkd⟩
  have hil := Tr.is_len h1
  obtain ⟨M, hM⟩ : ∃ M, Tr.treeN L s c = M := ⟨_, rfl⟩
  rw [hM, h1] at HT
  rw [hM] at hil
  rw [h1] at HO1
  rw [hil.2] at HL1
  have hml := hil.1
  clear hr hM
  by_cases ha : a < 0 ∨ (L.length : Int) ≤ a
  · have HAT : Stow (decide (a < 0) = true ∨ (decide (a < 0) = false ∧ decide ((L.length : Int) ≤ a) = true)) := ⟨by
      by_cases h : a < 0
      · exact .inl (by simpa using h)
      · exact .inr ⟨by simpa using h, by simp; omega⟩⟩
    clear hn hkd h1 hil ha
    unfold ktv
    go_enter Try.func8, Try.ntmps8
    go_wp2_with fail
    refine HSM.out.mono ?_
    rintro e w0 ⟨rfl, hw0⟩
    rw [← hw0] at HB HS HH
    have q0 := HH.out.cell (i := 0) rfl
    have q1 := HH.out.cell (i := 1) rfl
    have q2 := HH.out.cell (i := 2) rfl
    have q3 := HH.out.cell (i := 3) rfl
    have q4 := HH.out.cell (i := 4) rfl
    clear hw0 HSM
    go_wp2_with fail
    refine (HO1.out _ HS.out).mono ?_
    rintro e w1 ⟨rfl, hb1⟩
    clear q0 q1 q2 q3 q4
    have HB := Stow.mk (HB.out.trans (hb1.mono HB.out.size))
    have HS := Stow.mk (SlR.keep HS.out hb1)
    have HH := Stow.mk (HH.out.kept hb1)
    clear hb1
    have q0 := HH.out.cell (i := 0) rfl
    have q1 := HH.out.cell (i := 1) rfl
    have q2 := HH.out.cell (i := 2) rfl
    have q3 := HH.out.cell (i := 3) rfl
    have q4 := HH.out.cell (i := 4) rfl
    go_wp2_with fail
    refine (HT.out _ HS.out).mono ?_
    rintro e w2 ⟨vA, vc, rfl, _, hb2⟩
    clear q0 q1 q2 q3 q4
    have HB := Stow.mk (HB.out.trans (hb2.mono HB.out.size))
    have HS := Stow.mk (SlR.keep HS.out hb2)
    have HH := Stow.mk (HH.out.kept hb2)
    clear hb2
    have q0 := HH.out.cell (i := 0) rfl
    have q1 := HH.out.cell (i := 1) rfl
    have q2 := HH.out.cell (i := 2) rfl
    have q3 := HH.out.cell (i := 3) rfl
    have q4 := HH.out.cell (i := 4) rfl
    go_wp2_with fail
    refine (HL1.out _ HS.out).mono ?_
    rintro e w3 ⟨rfl, hb3⟩
    clear q0 q1 q2 q3 q4
    have HB := Stow.mk (HB.out.trans (hb3.mono HB.out.size))
    have HS := Stow.mk (SlR.keep HS.out hb3)
    have HH := Stow.mk (HH.out.kept hb3)
    clear hb3
    have q0 := HH.out.cell (i := 0) rfl
    have q1 := HH.out.cell (i := 1) rfl
    have q2 := HH.out.cell (i := 2) rfl
    have q3 := HH.out.cell (i := 3) rfl
    have q4 := HH.out.cell (i := 4) rfl
    rcases HAT.out with d1 | ⟨d1, d2⟩
    · go_wp2_with fail
      refine (known32_any _).mono ?_
      rintro e wk ⟨rfl, hbk⟩
      have HBK := Stow.mk (HB.out.trans (hbk.mono HB.out.size))
      clear hbk
      go_wp2_with fail
      go_ret
      exact ⟨rfl, HBK.out⟩
    · go_wp2_with fail
      refine (known32_any _).mono ?_
      rintro e wk ⟨rfl, hbk⟩
      have HBK := Stow.mk (HB.out.trans (hbk.mono HB.out.size))
      clear hbk
      go_wp2_with fail
      go_ret
      exact ⟨rfl, HBK.out⟩
  obtain ⟨k, rfl⟩ : ∃ k : Nat, a = k := ⟨a.toNat, by omega⟩
  have hk : k < L.length := by omega
  have hno := Tr.less_no h1 hk
  obtain ⟨L', hL'⟩ : ∃ L', L.take k ++ L.drop (k + 1) = L' := ⟨_, rfl⟩
  have hl' : L'.length + 1 = L.length := by rw [← hL']; simp; omega
  rw [hL'] at hno
  have hkd' : KdOk L' := fun s hs => by
    rw [← hL'] at hs
    rcases List.mem_append.1 hs with hs | hs
    · exact hkd s (List.mem_of_mem_take hs)
    · exact hkd s (List.mem_of_mem_drop hs)
  have HT' : Stow (∀ W A cap, SpR W A cap L' → _) := ⟨fun W A cap h => vdTree_any A cap hi lo L' false false W h (by omega) hkd'⟩
  have HO' : Stow (∀ W A cap, SpR W A cap L' → _) := ⟨fun W A cap h => vdOf_any A cap hi lo L' false false W h (by omega) hkd'⟩
  rw [Tr.treeN_no hno, decide_eq_false hno] at HT'
  obtain ⟨n, hn1⟩ : ∃ n, Tr.said L' false false = n := ⟨_, rfl⟩
  rw [hn1] at HO' hno
  obtain ⟨e1, e2, e3, e4, e5⟩ := eq1_no hno
  have HLL : Stow (L.take k ++ L.drop (k + 1) = L' ∧ L'.length + 1 = L.length ∧ L.length ≤ 100) := ⟨hL', hl', hn⟩
  have d1 : decide ((k : Int) < 0) = false := by simp
  have d2 : decide ((L.length : Int) ≤ k) = false := by simp; omega
  have d2' : decide (L.length ≤ k) = false := by simp; omega
  have e6 : IntKind.i64.wrap ((k : Int) + 1) = ((k + 1 : Nat) : Int) := by rw [IntWalk.i64_in _ (by omega)]; omega
  clear hkd h1 hil ha hno hn1 hkd' hL' hl'
  unfold ktv
  go_enter Try.func8, Try.ntmps8
  go_wp2_with fail
  refine HSM.out.mono ?_
  rintro e w0 ⟨rfl, hw0⟩
  rw [← hw0] at HB HS HH
  have q0 := HH.out.cell (i := 0) rfl
  have q1 := HH.out.cell (i := 1) rfl
  have q2 := HH.out.cell (i := 2) rfl
  have q3 := HH.out.cell (i := 3) rfl
  have q4 := HH.out.cell (i := 4) rfl
  clear hw0 HSM
  go_wp2_with fail
  refine (HO1.out _ HS.out).mono ?_
  rintro e w1 ⟨rfl, hb1⟩
  clear q0 q1 q2 q3 q4
  have HB := Stow.mk (HB.out.trans (hb1.mono HB.out.size))
  have HS := Stow.mk (SlR.keep HS.out hb1)
  have HH := Stow.mk (HH.out.kept hb1)
  clear hb1
  have q0 := HH.out.cell (i := 0) rfl
  have q1 := HH.out.cell (i := 1) rfl
  have q2 := HH.out.cell (i := 2) rfl
  have q3 := HH.out.cell (i := 3) rfl
  have q4 := HH.out.cell (i := 4) rfl
  go_wp2_with fail
  refine (HT.out _ HS.out).mono ?_
  rintro e w2 ⟨vA, vc, rfl, _, hb2⟩
  clear q0 q1 q2 q3 q4
  have HB := Stow.mk (HB.out.trans (hb2.mono HB.out.size))
  have HS := Stow.mk (SlR.keep HS.out hb2)
  have HH := Stow.mk (HH.out.kept hb2)
  clear hb2
  have q0 := HH.out.cell (i := 0) rfl
  have q1 := HH.out.cell (i := 1) rfl
  have q2 := HH.out.cell (i := 2) rfl
  have q3 := HH.out.cell (i := 3) rfl
  have q4 := HH.out.cell (i := 4) rfl
  go_wp2_with fail
  refine (HL1.out _ HS.out).mono ?_
  rintro e w3 ⟨rfl, hb3⟩
  clear q0 q1 q2 q3 q4
  have HB := Stow.mk (HB.out.trans (hb3.mono HB.out.size))
  have HS := Stow.mk (SlR.keep HS.out hb3)
  have HH := Stow.mk (HH.out.kept hb3)
  clear hb3
  obtain ⟨b, off, rfl, hblt, _⟩ := HS.out.open (by simp; omega)
  have q0 := HH.out.cell (i := 0) rfl
  have q1 := HH.out.cell (i := 1) rfl
  have q2 := HH.out.cell (i := 2) rfl
  have q3 := HH.out.cell (i := 3) rfl
  have q4 := HH.out.cell (i := 4) rfl
  have hcap : L.length ≤ cap := by
    obtain ⟨A', cap', he, h1, _⟩ := HS.out
    simp only [Value.slice.injEq, List.length_map] at he h1
    omega
  have hk0 : (0 : Int) ≤ k := by omega
  have hkc : (k : Int) ≤ cap := by omega
  have hkl : (k : Int) ≤ L.length := by omega
  have hk10 : (0 : Int) ≤ ((k + 1 : Nat) : Int) := by omega
  have hk1c : ((k + 1 : Nat) : Int) ≤ cap := by omega
  have hk1l : ((k + 1 : Nat) : Int) ≤ L.length := by omega
  have HS1 := Stow.mk (SlR.take HS.out k (by simp; omega))
  have K1 : Stow (0 + k ≤ maxLen ∧ (0 + k) * 96 ≤ 140737488355328) := ⟨by unfold maxLen; omega, by omega⟩
  have HLK := Stow.mk hk
  have K2 : Stow (k + (L.length - (k + 1)) ≤ maxLen ∧ (k + (L.length - (k + 1))) * 96 ≤ 140737488355328 ∧ k + (L.length - (k + 1)) = L'.length) := ⟨by unfold maxLen; omega, by omega, by have := HLL.out.2.1; omega⟩
  have HFL : Stow ([] ++ ((L.map Sp.cells).take k).flatten ++ ((L.map Sp.cells).drop (k + 1)).flatten = (L'.map Sp.cells).flatten) := ⟨by rw [← HLL.out.1]; simp⟩
  by_cases hcc : cap = k + 1
  · have K2 : Stow (k + 0 ≤ maxLen ∧ (k + 0) * 96 ≤ 140737488355328 ∧ k + 0 = L'.length) := ⟨by unfold maxLen; omega, by omega, by have := HLL.out.2.1; omega⟩
    have HLD : Stow (SlR w3 11 (.slice (some ⟨b, off, none⟩) 0 0) ((L.map Sp.cells).drop (k + 1))) := ⟨by
      have e : (L.map Sp.cells).drop (k + 1) = [] := List.drop_of_length_le (by simp; omega)
      rw [e]
      exact ⟨some ⟨b, off, none⟩, 0, rfl, Nat.zero_le _, by unfold maxLen; omega, fun h => absurd rfl h⟩⟩
    subst hcc
    go_wp2_with (first
      | (at_builtin; refine wpList_append_slr (World.ownsRow_nil w3 w3.heap.size 66 11) ((L.map Sp.cells).take k) (some ⟨b, off, none⟩) k _ HS1.out (fun h => by cases h) (fun x hx => sp_cells x (List.mem_of_mem_take hx)) (fun x hx => sp_one x (List.mem_of_mem_take hx)) rfl (.tmp 51) (.tmp 55) 42 rfl Try.underlying42 info_sp rfl (by decide) rfl rfl K1.out.1 K1.out.2 (Nat.le_refl _) ?_; intro A4 c4 w4 h4 hg4 hb4; rw [Nat.zero_add] at h4 ⊢; have H4 := Stow.mk (And.intro h4 hb4); have HH4 := Stow.mk (HH.out.kept hb4); have p2 := HH4.out.cell (i := 2) rfl; clear h4 hb4 hg4)
      | (at_builtin; refine wpList_append_slr H4.out.1 ((L.map Sp.cells).drop (k + 1)) (some (⟨b, off, none⟩ : Addr)) 0 _ (SlR.keep HLD.out H4.out.2) (fun h => by cases h) (fun x hx => sp_cells x (List.mem_of_mem_drop hx)) (fun x hx => sp_one x (List.mem_of_mem_drop hx)) rfl (.tmp 57) (.tmp 62) 42 rfl Try.underlying42 info_sp rfl (by decide) rfl rfl K2.out.1 K2.out.2.1 H4.out.2.size ?_; intro A5 c5 w5 h5 hg5 hb5; rw [K2.out.2.2] at h5 ⊢; have HSN := Stow.mk (own_spr h5 rfl HFL.out); have HB5 := Stow.mk (H4.out.2.trans hb5); have HH5 := Stow.mk (HH.out.kept HB5.out); have p20 := HH5.out.cell (i := 0) rfl; have p21 := HH5.out.cell (i := 1) rfl; have HA := Stow.mk (Below.alloc' (Below.self w5) (.cells (ktc hi lo A5 c5 L' false false).toArray 58)); have HP := Stow.mk (Held.made w5 (ktc hi lo A5 c5 L' false false) 58); have HC := Stow.mk (HT'.out _ A5 c5 (SlR.keep HSN.out HA.out)); clear h5 hb5 hg5))
    refine HC.out.mono ?_
    rintro e w6 ⟨vA6, vc6, rfl, _, hb6⟩
    have HP6 := Stow.mk (HP.out.kept hb6)
    have HS6 := Stow.mk (SlR.keep (SlR.keep HSN.out HA.out) hb6)
    have HB6 := Stow.mk (HB.out.trans ((HB5.out.trans ((HA.out.trans (hb6.mono HA.out.size)).mono HB5.out.size)).mono HB.out.size))
    have r0 := HP6.out.cell (i := 0) rfl
    have r1 := HP6.out.cell (i := 1) rfl
    have r2 := HP6.out.cell (i := 2) rfl
    have r3 := HP6.out.cell (i := 3) rfl
    have r4 := HP6.out.cell (i := 4) rfl
    clear hb6 HC
    go_wp2_with fail
    refine (HO'.out _ A5 c5 HS6.out).mono ?_
    rintro e w7 ⟨rfl, hb7⟩
    have HB7 := Stow.mk (HB6.out.trans (hb7.mono HB6.out.size))
    clear hb7
    go_wp2_with fail
    refine (known32_any _).mono ?_
    rintro e wk ⟨rfl, hbk⟩
    have HBK := Stow.mk (HB7.out.trans (hbk.mono HB7.out.size))
    clear hbk
    go_wp2_with fail
    go_ret
    exact ⟨rfl, HBK.out⟩
  · have HLD := Stow.mk ((SlR.drop HS.out (k + 1) (by simp; omega)).1)
    go_wp2_with (first
      | (at_builtin; refine wpList_append_slr (World.ownsRow_nil w3 w3.heap.size 66 11) ((L.map Sp.cells).take k) (some ⟨b, off, none⟩) k _ HS1.out (fun h => by cases h) (fun x hx => sp_cells x (List.mem_of_mem_take hx)) (fun x hx => sp_one x (List.mem_of_mem_take hx)) rfl (.tmp 51) (.tmp 55) 42 rfl Try.underlying42 info_sp rfl (by decide) rfl rfl K1.out.1 K1.out.2 (Nat.le_refl _) ?_; intro A4 c4 w4 h4 hg4 hb4; rw [Nat.zero_add] at h4 ⊢; have H4 := Stow.mk (And.intro h4 hb4); have HH4 := Stow.mk (HH.out.kept hb4); have p2 := HH4.out.cell (i := 2) rfl; clear h4 hb4 hg4)
      | (at_builtin; refine wpList_append_slr H4.out.1 ((L.map Sp.cells).drop (k + 1)) (some (⟨b, off + (k + 1) * 11, none⟩ : Addr)) (L.length - (k + 1)) _ (SlR.keep HLD.out H4.out.2) (fun h => by cases h) (fun x hx => sp_cells x (List.mem_of_mem_drop hx)) (fun x hx => sp_one x (List.mem_of_mem_drop hx)) rfl (.tmp 57) (.tmp 62) 42 rfl Try.underlying42 info_sp rfl (by decide) rfl rfl K2.out.1 K2.out.2.1 H4.out.2.size ?_; intro A5 c5 w5 h5 hg5 hb5; rw [K2.out.2.2] at h5 ⊢; have HSN := Stow.mk (own_spr h5 rfl HFL.out); have HB5 := Stow.mk (H4.out.2.trans hb5); have HH5 := Stow.mk (HH.out.kept HB5.out); have p20 := HH5.out.cell (i := 0) rfl; have p21 := HH5.out.cell (i := 1) rfl; have HA := Stow.mk (Below.alloc' (Below.self w5) (.cells (ktc hi lo A5 c5 L' false false).toArray 58)); have HP := Stow.mk (Held.made w5 (ktc hi lo A5 c5 L' false false) 58); have HC := Stow.mk (HT'.out _ A5 c5 (SlR.keep HSN.out HA.out)); clear h5 hb5 hg5))
    refine HC.out.mono ?_
    rintro e w6 ⟨vA6, vc6, rfl, _, hb6⟩
    have HP6 := Stow.mk (HP.out.kept hb6)
    have HS6 := Stow.mk (SlR.keep (SlR.keep HSN.out HA.out) hb6)
    have HB6 := Stow.mk (HB.out.trans ((HB5.out.trans ((HA.out.trans (hb6.mono HA.out.size)).mono HB5.out.size)).mono HB.out.size))
    have r0 := HP6.out.cell (i := 0) rfl
    have r1 := HP6.out.cell (i := 1) rfl
    have r2 := HP6.out.cell (i := 2) rfl
    have r3 := HP6.out.cell (i := 3) rfl
    have r4 := HP6.out.cell (i := 4) rfl
    clear hb6 HC
    go_wp2_with fail
    refine (HO'.out _ A5 c5 HS6.out).mono ?_
    rintro e w7 ⟨rfl, hb7⟩
    have HB7 := Stow.mk (HB6.out.trans (hb7.mono HB6.out.size))
    clear hb7
    go_wp2_with fail
    refine (known32_any _).mono ?_
    rintro e wk ⟨rfl, hbk⟩
    have HBK := Stow.mk (HB7.out.trans (hbk.mono HB7.out.size))
    clear hbk
    go_wp2_with fail
    go_ret
    exact ⟨rfl, HBK.out⟩
end Go.Proofs.Ythbpcdoddcacdaa
