/- Walks of the reference's In, Ints, at, Has, with, Same. Condition: slices' own. -/
import Derived.Test.YtbcokngjcgldpaaDdFresh
namespace Go.Proofs.Ytbcokngjcgldpaa
open Go.RowKit Go.Lib Go.Sort
set_option linter.unusedVariables false

theorem in_no {s : List Int} {x : Int} (h : ∀ y ∈ s, (y == x) = false) : s.contains x = false := by
  rw [Bool.eq_false_iff]
  intro hc
  have := h x (List.contains_iff_mem.1 hc)
  simp at this

set_option maxHeartbeats 400000 in
set_option maxRecDepth 100000 in
theorem refIn_any (s : List Int) (A : Option Addr) (cap : Nat) (x : Int) (w : World) (hS : SlR w 1 (.slice A s.length cap) (s.map ic)) :
    Calls Try.prog 27 #[.slice A s.length cap, .int .i64 x] w fun e w' => e = .returned (.bool (s.contains x)) ∧ w' = w := by
  have HS := Stow.mk hS
  have hlen := hS.len
  simp only [List.length_map] at hlen
  clear hS
  obtain ⟨cc, hcc⟩ : ∃ cc, s.contains x = cc := ⟨_, rfl⟩
  rw [hcc]
  have HCC := Stow.mk hcc
  clear hcc
  go_enter Try.func27, Try.ntmps27
  go_wp2_with fail
  go_loop [5] (fun v => ∃ j : Nat, v = .int .i64 (j : Int) ∧ j ≤ s.length ∧ Stow (∀ y ∈ s.take j, (y == x) = false)) (fun v => s.length - (intOf v).toNat)
  case atStart => exact ⟨0, rfl, by omega, ⟨by simp⟩⟩
  case round =>
    obtain ⟨j, rfl, hj, HJ⟩ := hrel
    by_cases hlt : j < s.length
    · obtain ⟨b, off, rfl, hblt, _⟩ := HS.out.open (by simp; omega)
      have hc := (ints_at HS.out hlt).2
      have HMEM := Stow.mk (List.getElem_mem hlt)
      have HTK : Stow (∀ y ∈ s.take (j + 1), y ∈ s.take j ∨ y = s[j]) := ⟨fun y hy => by
        rw [List.take_succ_eq_append_getElem hlt] at hy
        simp only [List.mem_append, List.mem_singleton] at hy
        exact hy⟩
      generalize s[j] = y at *
      obtain ⟨c, hcc⟩ : ∃ c, (y == x) = c := ⟨_, rfl⟩
      have HCS := Stow.mk hcc
      have hji : (j : Int) < s.length := by omega
      cases c
      · go_wp2_with fail
        exact ⟨⟨j + 1, rfl, by omega, ⟨fun z hz => by
          rcases HTK.out z hz with h | h
          · exact HJ.out z h
          · rw [h]; exact HCS.out⟩⟩, by simp [intOf]; omega⟩
      · have HV : Stow (s.contains x = true) := ⟨List.contains_iff_mem.2 (by have := HCS.out; rw [beq_iff_eq] at this; rw [← this]; exact HMEM.out)⟩
        go_wp2_with fail
        go_ret
        exact ⟨by rw [← HCC.out, HV.out]; rfl, rfl⟩
    · obtain rfl : j = s.length := by omega
      have HV : Stow (s.contains x = false) := ⟨by have := HJ.out; rw [List.take_length] at this; exact in_no this⟩
      go_wp2_with fail
      go_ret
      exact ⟨by rw [← HCC.out, HV.out]; rfl, rfl⟩

set_option maxHeartbeats 400000 in
set_option maxRecDepth 100000 in
theorem refInts_any (s : List Int) (A A' : Option Addr) (cap cap' : Nat) (w : World) (hS : SlR w 1 (.slice A s.length cap) (s.map ic)) (hS' : SlR w 1 (.slice A' s.length cap') (s.map ic)) :
    Calls Try.prog 29 #[.slice A s.length cap, .slice A' s.length cap'] w fun e w' => e = .returned (.bool true) ∧ Below w.heap.size w w' := by
  have HS := Stow.mk hS
  have HS' := Stow.mk hS'
  have hlen := hS.len
  simp only [List.length_map] at hlen
  clear hS hS'
  go_enter Try.func29, Try.ntmps29
  go_wp2_with fail
  go_loopw [5] (fun v wr => ∃ j : Nat, v = .int .i64 (j : Int) ∧ j ≤ s.length ∧ Below w.heap.size w wr) (fun v _ => s.length - (intOf v).toNat)
  case atStart => exact ⟨0, rfl, by omega, Below.self _⟩
  case round =>
    obtain ⟨j, rfl, hj, hbr⟩ := hrel
    by_cases hlt : j < s.length
    · obtain ⟨b, off, rfl, hblt, _⟩ := HS.out.open (by simp; omega)
      obtain ⟨b', off', rfl, hblt', _⟩ := HS'.out.open (by simp; omega)
      have hc := (ints_at (HS.out.keep hbr) hlt).2
      have hc' := (ints_at (HS'.out.keep hbr) hlt).2
      generalize s[j] = y at *
      have hji : (j : Int) < s.length := by omega
      go_wp2_with fail
      go_quiet (fail)
      go_wp2_with fail
      exact ⟨⟨j + 1, rfl, by omega, Below.drewN' hbr _⟩, by simp [intOf]; omega⟩
    · obtain rfl : j = s.length := by omega
      go_wp2_with fail
      go_ret
      exact ⟨rfl, hbr⟩

set_option maxHeartbeats 400000 in
set_option maxRecDepth 100000 in
theorem refAt_any (node : Int) (A : Option Addr) (cap : Nat) (R : List Wm) (w : World) (hS : SlR w 3 (.slice A R.length cap) (R.map Wm.cells)) :
    Calls Try.prog 65 #[.slice A R.length cap, .int .i64 node] w fun e w' => e = .returned (.int .i64 (plInt (Dd.pl (wis R) node))) ∧ w' = w := by
  have HS := Stow.mk hS
  have hlen := hS.len
  simp only [List.length_map] at hlen
  clear hS
  go_enter Try.func65, Try.ntmps65
  go_wp2_with fail
  go_loop [5] (fun v => ∃ j : Nat, v = .int .i64 (j : Int) ∧ j ≤ R.length ∧ Stow (∀ x ∈ (wis R).take j, (x.n == node) = false)) (fun v => R.length - (intOf v).toNat)
  case atStart => exact ⟨0, rfl, by omega, ⟨by simp⟩⟩
  case round =>
    obtain ⟨j, rfl, hj, HJ⟩ := hrel
    by_cases hlt : j < R.length
    · obtain ⟨b, off, rfl, hblt, _⟩ := HS.out.open (by simp; omega)
      have hsp := win_at HS.out hlt
      have HJS := Stow.mk (fun h => plR_some (node := node) hlt HJ.out h)
      have HJN := Stow.mk (fun h => plR_succ (node := node) hlt HJ.out h)
      obtain ⟨p, hp⟩ : ∃ p, R[j] = p := ⟨_, rfl⟩
      rw [hp] at hsp HJS HJN
      clear hp
      obtain ⟨⟨n, h, s⟩, PA, pc⟩ := p
      obtain ⟨hltb, q0, q1, q2⟩ := hsp
      simp only at q0 HJS HJN
      clear q1 q2
      obtain ⟨c, hc⟩ : ∃ c, (n == node) = c := ⟨_, rfl⟩
      have HCS := Stow.mk hc
      have hji : (j : Int) < R.length := by omega
      cases c
      · go_wp2_with fail
        exact ⟨⟨j + 1, rfl, by omega, ⟨HJN.out HCS.out⟩⟩, by simp [intOf]; omega⟩
      · go_wp2_with fail
        go_ret
        refine ⟨?_, rfl⟩
        rw [HJS.out HCS.out]
        rfl
    · obtain rfl : j = R.length := by omega
      go_wp2_with fail
      go_ret
      refine ⟨?_, rfl⟩
      have := HJ.out
      rw [List.take_of_length_le (by simp)] at this
      rw [pl_noneI this]
      rfl

set_option maxHeartbeats 400000 in
set_option maxRecDepth 100000 in
theorem refHas_any (node x : Int) (v : Value) (R : List Wm) (w : World) (hW : WinR w v R) :
    Calls Try.prog 26 #[v, .int .i64 node, .int .i64 x] w fun e w' => e = .returned (.bool (Dd.has (wis R) node x)) ∧ w' = w := by
  obtain ⟨A, cap, hv, _⟩ := hW.row.form
  rw [List.length_map] at hv
  subst hv
  have HW := Stow.mk hW
  have hlen := hW.row.len
  simp only [List.length_map] at hlen
  clear hW
  obtain ⟨o, ho⟩ : ∃ o, Dd.pl (wis R) node = o := ⟨_, rfl⟩
  have HO := Stow.mk ho
  clear ho
  go_enter Try.func26, Try.ntmps26
  go_wp2_with fail
  refine (refAt_any node A cap R _ HW.out.row).mono ?_
  rw [HO.out]
  rintro e w1 ⟨rfl, rfl⟩
  cases o with
  | none =>
    simp only [plInt]
    go_wp2_with fail
    go_ret
    exact ⟨by rw [Dd.has_no HO.out]; rfl, rfl⟩
  | some i =>
    obtain ⟨hi, hn⟩ := plR_lt HO.out
    have HH := Stow.mk (Dd.has_at (x := x) HO.out hi)
    have HI := Stow.mk (HW.out.ints _ (List.getElem_mem hi))
    obtain ⟨b, off, rfl, hblt, _⟩ := HW.out.row.open (by simp; omega)
    have hsp := win_at HW.out.row hi
    clear hn
    obtain ⟨p, hp⟩ : ∃ p, R[i] = p := ⟨_, rfl⟩
    rw [hp] at hsp HH HI
    clear hp
    obtain ⟨⟨n, h, s⟩, PA, pc⟩ := p
    obtain ⟨hltb, q0, q1, q2⟩ := hsp
    simp only [Wm.v] at q2 HH HI
    have hii : (i : Int) < R.length := by omega
    simp only [plInt]
    clear q0 q1
    go_wp2_with fail
    refine (refIn_any s PA pc x _ HI.out).mono ?_
    generalize s.contains x = cc at *
    rintro e w2 ⟨rfl, rfl⟩
    go_wp2_with fail
    go_ret
    exact ⟨by rw [HH.out]; rfl, rfl⟩

theorem keepS_succ {x : Int} {s : List Int} {j : Nat} (h : j < s.length) : keepS x (s.take (j + 1)) = keepS x (s.take j) ++ if x - 128 < s[j] then [s[j]] else [] := by
  unfold keepS
  rw [List.take_succ_eq_append_getElem h, List.filter_append]
  congr 1
  by_cases hc : x - 128 < s[j] <;> simp [hc]

set_option maxHeartbeats 1000000 in
set_option maxRecDepth 100000 in
theorem refWith_any (s : List Int) (A : Option Addr) (cap : Nat) (x a : Int) (w : World) (hS : SlR w 1 (.slice A s.length cap) (s.map ic)) (h9 : s.length ≤ 128) (hx : ∀ y ∈ s, y < x) (ha : a = x - 128) :
    Calls Try.prog 66 #[.slice A s.length cap, .int .i64 x, .int .i64 a] w fun e w' => ∃ g c', e = .returned (.slice (some ⟨g, 0, none⟩) (keepS x s ++ [x]).length c') ∧ w.heap.size ≤ g ∧ g < w'.heap.size ∧ IRow w' w.heap.size (.slice (some ⟨g, 0, none⟩) (keepS x s ++ [x]).length c') (keepS x s ++ [x]) ∧ Below w.heap.size w w' := by
  have HS := Stow.mk hS
  have HX := Stow.mk hx
  clear hS hx
  have K1 : Stow (∀ y : Int, ∀ u ∈ [Value.int .i64 y], u.oneCell' = true) := ⟨by intro y u hu; simp at hu; subst hu; rfl⟩
  have HA := Stow.mk ha
  clear ha
  go_enter Try.func66, Try.ntmps66
  go_wp2_with fail
  go_loopw [7, 8, 9] (fun o pu v wr => ∃ (j : Nat) (A' : Option Addr) (c' : Nat), pu = .bool false ∧ o = .slice A' (keepS x (s.take j)).length c' ∧ v = .int .i64 (j : Int) ∧ j ≤ s.length ∧ IRow wr w.heap.size o (keepS x (s.take j)) ∧ Below w.heap.size w wr) (fun _ _ v _ => s.length - (intOf v).toNat)
  case atStart => exact ⟨0, none, 0, rfl, rfl, rfl, by omega, World.ownsRow_nil _ _ _ _, Below.self _⟩
  case round =>
    obtain ⟨j, A', c', rfl, rfl, rfl, hj, hown, hbr⟩ := hrel
    have hkl : (keepS x (s.take j)).length ≤ 128 := Nat.le_trans (List.length_filter_le _ _) (by simp; omega)
    have HO := Stow.mk hown
    have HBR := Stow.mk hbr
    clear hown
    have K2 : Stow (((keepS x (s.take j)).length + 1) * 8 ≤ 140737488355328) := ⟨by omega⟩
    have K3 : Stow ((keepS x (s.take j)).length + 1 ≤ maxLen) := ⟨by unfold maxLen; omega⟩
    have K4 := Stow.mk hbr.size
    by_cases hlt : j < s.length
    · obtain ⟨b, off, rfl, hblt, _⟩ := HS.out.open (by simp; omega)
      have hc := (ints_at (HS.out.keep hbr) hlt).2
      have hyx := HX.out _ (List.getElem_mem hlt)
      have HN := Stow.mk (keepS_succ (x := x) hlt)
      generalize s[j] = y at *
      generalize keepS x (s.take j) = K at *
      have hji : (j : Int) < s.length := by omega
      have hd : decide (x < y) = false := by simp; omega
      by_cases hay : a < y
      · have HN2 : Stow (keepS x (s.take (j + 1)) = K ++ [y]) := ⟨by rw [HN.out, if_pos (by have := HA.out; omega)]⟩
        go_wp2_with (at_builtin; refine wpList_append_elem_form _ _ _ rfl (.tmp 36) (.tmp 41) 50 rfl w.heap.size 3 _ 1 8 Try.underlying50 info_int _ _ _ HO.out rfl _ rfl rfl rfl (by decide) rfl (K1.out _) K2.out K3.out K4.out ?_; intro A4 cap4 w4 hown4 hg4 hb4 hs4)
        exact ⟨⟨j + 1, A4, cap4, rfl, by rw [HN2.out]; simp, rfl, by omega, by rw [HN2.out]; unfold IRow; simpa using hown4, hbr.trans hb4⟩, by simp [intOf]; omega⟩
      · have HN2 : Stow (keepS x (s.take (j + 1)) = K) := ⟨by rw [HN.out, if_neg (by have := HA.out; omega)]; simp⟩
        go_wp2_with fail
        exact ⟨⟨j + 1, A', c', rfl, by rw [HN2.out], rfl, by omega, by rw [HN2.out]; exact HO.out, hbr⟩, by simp [intOf]; omega⟩
    · obtain rfl : j = s.length := by omega
      rw [List.take_length] at *
      go_wp2_with (at_builtin; refine wpList_append_elem_form _ _ _ rfl (.tmp 45) (.tmp 47) 50 rfl w.heap.size 3 _ 1 8 Try.underlying50 info_int _ _ _ HO.out rfl _ rfl rfl rfl (by decide) rfl (K1.out _) K2.out K3.out K4.out ?_; intro A4 cap4 w4 hown4 hg4 hb4 hs4)
      obtain ⟨g, c4, hv4, hg1, hg2⟩ := row_form hown4 (by omega)
      simp only [Value.slice.injEq] at hv4
      obtain ⟨rfl, _, rfl⟩ := hv4
      go_ret
      refine ⟨g, cap4, by simp, hg1, hg2, ?_, hbr.trans hb4⟩
      unfold IRow
      simpa using hown4
end Go.Proofs.Ytbcokngjcgldpaa
