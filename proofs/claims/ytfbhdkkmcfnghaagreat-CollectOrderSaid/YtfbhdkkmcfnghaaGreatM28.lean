/- Walks of the references' Ints, In, Same (nodes), Roots, Orphans. Conditions: slices' own. -/
import Derived.Test.YtfbhdkkmcfnghaaGreatM27

section
namespace Go.Proofs.YtfbhdkkmcfnghaaGreat
open Go.RowKit
set_option linter.unusedVariables false

/-- A slice of ints that reads as a list. -/
abbrev IR (w : World) (A : Option Addr) (cap : Nat) (L : List Nat) : Prop := SlR w 1 (.slice A L.length cap) (L.map fun n : Nat => [Value.int .i64 (n : Int)])
theorem IRow.ir {w : World} {B : Nat} {A : Option Addr} {cap : Nat} {L : List Nat} (h : IRow w B (.slice A L.length cap) L) : IR w A cap L := by
  refine SlR.of_own h (by simp) fun i x hi j u hu => ?_
  rw [List.getElem?_map] at hi
  obtain ⟨y, hy, rfl⟩ := Option.map_eq_some_iff.1 hi
  have hj : j = 0 := by
    rcases Nat.lt_or_ge j 1 with h | h
    · omega
    · simp [List.getElem?_eq_none (show ([Value.int .i64 (y : Int)] : List Value).length ≤ j by simp; omega)] at hu
  subst hj
  simp at hu
  subst hu
  simp [hy]
theorem IR.at_ {w : World} {A : Option Addr} {cap i : Nat} {L : List Nat} (h : IR w A cap L) (hi : i < L.length) : ∃ b off, A = some ⟨b, off, none⟩ ∧ b < w.heap.size ∧ w.cell? ⟨b, off + i, none⟩ = some (.int .i64 (L[i] : Nat)) := by
  obtain ⟨b, off, hA, hb, hc⟩ := h.open (by simp; omega)
  have := hc i _ (by rw [List.getElem?_map, List.getElem?_eq_getElem hi]; rfl) 0 _ rfl
  rw [Nat.mul_one, Nat.add_zero] at this
  exact ⟨b, off, hA, hb, this⟩

set_option maxHeartbeats 1000000 in
set_option maxRecDepth 100000 in
theorem in_any (L : List Nat) (x : Nat) (A : Option Addr) (cap : Nat) (w : World) (hS : IR w A cap L) :
    Calls Tryz.prog 62 #[.slice A L.length cap, .int .i64 (x : Int)] w fun e w' => e = .returned (.bool (decide (x ∈ L))) ∧ w' = w := by
  have HS := Stow.mk hS
  have hlen := hS.len
  simp only [List.length_map] at hlen
  clear hS
  go_enter Tryz.func62, Tryz.ntmps62
  go_wp2_with fail
  go_loop [5] (fun v => ∃ j : Nat, v = .int .i64 j ∧ j ≤ L.length ∧ Stow (x ∉ L.take j)) (fun v => L.length - (intOf v).toNat)
  case atStart => exact ⟨0, rfl, by omega, ⟨by simp⟩⟩
  case round =>
    obtain ⟨j, rfl, hj, HN⟩ := hrel
    by_cases hlt : j < L.length
    · obtain ⟨b, off, rfl, hb, q⟩ := IR.at_ HS.out hlt
      obtain ⟨y, hy⟩ : ∃ y, L[j] = y := ⟨_, rfl⟩
      rw [hy] at q
      have hji : (j : Int) < L.length := by omega
      by_cases hxy : y = x
      · have HE : Stow (decide (x ∈ L) = true) := ⟨by rw [decide_eq_true_eq, ← hxy, ← hy]; exact List.getElem_mem hlt⟩
        have hq : ((y : Int) == (x : Int)) = true := by rw [hxy]; simp
        clear hy hxy
        go_wp2_with fail
        go_ret
        exact ⟨by rw [HE.out]; rfl, rfl⟩
      · have hq : ((y : Int) == (x : Int)) = false := by rw [beq_eq_false_iff_ne]; omega
        have HNX : Stow (x ∉ L.take (j + 1)) := ⟨by
          rw [List.take_succ_eq_append_getElem hlt, hy]
          intro h
          rcases List.mem_append.1 h with h | h
          · exact HN.out h
          · simp at h; exact hxy h.symm⟩
        clear hy hxy
        go_wp2_with fail
        exact ⟨⟨j + 1, rfl, by omega, HNX⟩, by simp [intOf]; omega⟩
    · obtain rfl : j = L.length := by omega
      have HE : Stow (decide (x ∈ L) = false) := ⟨by have := HN.out; rw [List.take_length] at this; simpa using this⟩
      have hji : ¬ (L.length : Int) < L.length := by omega
      go_wp2_with fail
      go_ret
      exact ⟨by rw [HE.out]; rfl, rfl⟩

set_option maxHeartbeats 2000000 in
set_option maxRecDepth 100000 in
theorem refRoots_any (A : Option Addr) (cap : Nat) (L : List Sp) (w : World) (hS : SpR w A cap L) (hn : L.length ≤ 1000000) :
    Calls Tryz.prog 70 #[.slice A L.length cap] w fun e w' => ∃ v, e = .returned v ∧ IRow w' w.heap.size v (Tr.roots L) ∧ Below w.heap.size w w' := by
  have HS := Stow.mk hS
  clear hS
  go_enter Tryz.func70, Tryz.ntmps70
  go_wp2_with fail
  go_loopw [3, 4] (fun v u wr => ∃ i : Nat, u = .int .i64 (i : Int) ∧ i ≤ L.length ∧ Stow (IRow wr w.heap.size v (Tr.pl L (fun s => s.up == 0) i)) ∧ Below w.heap.size w wr) (fun _ u _ => L.length - (intOf u).toNat)
  case atStart => exact ⟨0, rfl, by omega, ⟨NRow.nil _ _ _ _⟩, Below.self _⟩
  case round =>
    obtain ⟨i, rfl, hi, HR, hbr⟩ := hrel
    have HBR := Stow.mk hbr
    clear hbr
    obtain ⟨Av, cv_, rfl⟩ := own_form HR.out
    by_cases hlt : i < L.length
    · have hSr := HS.out.keep HBR.out
      obtain ⟨b, off, rfl, hblt, _⟩ := hSr.open (by simp; omega)
      have q3 := (span_at hSr hlt).c3
      have hgt := Tr.sp_get hlt
      obtain ⟨s, hs⟩ : ∃ s, L[i] = s := ⟨_, rfl⟩
      rw [hs] at q3 hgt
      have hii : (i : Int) < L.length := by omega
      have hpl := Tr.pl_len L (fun s => s.up == 0) i
      have K8 : Stow (((Tr.pl L (fun s => s.up == 0) i).length + 1) * 8 ≤ 140737488355328) := ⟨by omega⟩
      obtain ⟨r, hr⟩ : ∃ r, (s.up == 0) = r := ⟨_, rfl⟩
      have hri : ((s.up : Int) == 0) = r := by rw [← hr, Bool.eq_iff_iff]; simp
      have hr2 : (fun s : Sp => s.up == 0) (Tr.sp L i) = r := by simp only; rw [hgt]; exact hr
      cases r
      · have HPL := Stow.mk (Tr.pl_no (p := fun s => s.up == 0) hr2)
        clear hr hr2 hgt hs hSr hpl
        go_wp2_with fail
        exact ⟨⟨i + 1, rfl, by omega, ⟨by rw [HPL.out]; exact HR.out⟩, HBR.out⟩, by simp [intOf]; omega⟩
      · have HPL := Stow.mk (Tr.pl_yes (p := fun s => s.up == 0) hr2)
        clear hr hr2 hgt hs hSr hpl
        go_wp2_with (at_builtin; refine wpList_append_int HR.out i rfl (.tmp 17) (.tmp 19) 105 rfl Tryz.underlying105 info_int rfl _ rfl rfl K8.out HBR.out.size ?_; intro A9 c9 w2 hown2 _ hb2 hs2)
        exact ⟨⟨i + 1, rfl, by omega, ⟨by rw [HPL.out]; exact hown2⟩, HBR.out.trans hb2⟩, by simp [intOf]; omega⟩
    · obtain rfl : i = L.length := by omega
      have hni : ¬ (L.length : Int) < L.length := by omega
      go_wp2_with fail
      go_ret
      exact ⟨_, rfl, by rw [show Tr.roots L = Tr.pl L (fun s => s.up == 0) L.length from rfl]; exact HR.out, HBR.out⟩

set_option maxHeartbeats 2000000 in
set_option maxRecDepth 100000 in
theorem refOrphans_any (A : Option Addr) (cap : Nat) (L : List Sp) (w : World) (hS : SpR w A cap L) (hn : L.length ≤ 1000000) :
    Calls Tryz.prog 71 #[.slice A L.length cap] w fun e w' => ∃ v, e = .returned v ∧ IRow w' w.heap.size v (Tr.orphans L) ∧ Below w.heap.size w w' := by
  have HS := Stow.mk hS
  clear hS
  go_enter Tryz.func71, Tryz.ntmps71
  go_wp2_with fail
  go_loopw [3, 4] (fun v u wr => ∃ i : Nat, u = .int .i64 (i : Int) ∧ i ≤ L.length ∧ Stow (IRow wr w.heap.size v (Tr.pl L (Tr.lost_ L) i)) ∧ Below w.heap.size w wr) (fun _ u _ => L.length - (intOf u).toNat)
  case atStart => exact ⟨0, rfl, by omega, ⟨NRow.nil _ _ _ _⟩, Below.self _⟩
  case round =>
    obtain ⟨i, rfl, hi, HR, hbr⟩ := hrel
    have HBR := Stow.mk hbr
    clear hbr
    obtain ⟨Av, cv_, rfl⟩ := own_form HR.out
    by_cases hlt : i < L.length
    · have hSr := HS.out.keep HBR.out
      have HSR := Stow.mk hSr
      obtain ⟨b, off, rfl, hblt, _⟩ := hSr.open (by simp; omega)
      have q3 := (span_at hSr hlt).c3
      have hgt := Tr.sp_get hlt
      obtain ⟨s, hs⟩ : ∃ s, L[i] = s := ⟨_, rfl⟩
      rw [hs] at q3 hgt
      have hii : (i : Int) < L.length := by omega
      have hpl := Tr.pl_len L (Tr.lost_ L) i
      have K8 : Stow (((Tr.pl L (Tr.lost_ L) i).length + 1) * 8 ≤ 140737488355328) := ⟨by omega⟩
      have HGT := Stow.mk hgt
      obtain ⟨r0, hr0⟩ : ∃ r0, (s.up == 0) = r0 := ⟨_, rfl⟩
      have hri : ((s.up : Int) == 0) = r0 := by rw [← hr0, Bool.eq_iff_iff]; simp
      have HR0 := Stow.mk hr0
      clear hgt hs hSr hpl hr0
      go_wp2_with fail
      go_loopw [5, 6] (fun m k wi => ∃ (t : Bool) (j : Nat), m = .bool t ∧ k = .int .i64 (j : Int) ∧ j ≤ L.length ∧ Stow (t = (r0 || (L.take j).any fun x => x.id == s.up)) ∧ ∃ nn, wi = wr.drewN nn) (fun _ k _ => L.length - (intOf k).toNat)
      case atStart => exact ⟨r0, 0, rfl, rfl, by omega, ⟨by simp⟩, 0, rfl⟩
      case round =>
        obtain ⟨t, j, rfl, rfl, hj, HT, nn, rfl⟩ := hrel
        by_cases hjl : j < L.length
        · have q2 := (span_at HSR.out hjl).c2
          obtain ⟨y, hy⟩ : ∃ y, L[j] = y := ⟨_, rfl⟩
          rw [hy] at q2
          have hji : (j : Int) < L.length := by omega
          obtain ⟨c, hc⟩ : ∃ c, (y.id == s.up) = c := ⟨_, rfl⟩
          have hci : ((y.id : Int) == (s.up : Int)) = c := by rw [← hc, Bool.eq_iff_iff]; simp; omega
          have HNX : Stow ((t || c) = (r0 || (L.take (j + 1)).any fun x => x.id == s.up)) := ⟨by
            rw [List.take_succ_eq_append_getElem hjl, List.any_append, hy, HT.out]
            simp [hc, Bool.or_assoc]⟩
          clear hy hc
          cases t
          · go_wp2_with fail
            go_quiet (fail)
            go_wp2_with fail
            exact ⟨⟨c, j + 1, rfl, rfl, by omega, ⟨by have := HNX.out; simpa using this⟩, _, rfl⟩, by simp [intOf]; omega⟩
          · go_wp2_with fail
            go_quiet (fail)
            go_wp2_with fail
            exact ⟨⟨true, j + 1, rfl, rfl, by omega, ⟨by have := HNX.out; simpa using this⟩, _, rfl⟩, by simp [intOf]; omega⟩
        · obtain rfl : j = L.length := by omega
          have hji : ¬ (L.length : Int) < L.length := by omega
          have HLO : Stow (Tr.lost_ L (Tr.sp L i) = !t) := ⟨by
            have h := HT.out
            rw [List.take_length] at h
            rw [h, HGT.out]
            unfold Tr.lost_
            rw [← HR0.out]
            simp [bne]⟩
          cases t
          · have HPL := Stow.mk (Tr.pl_yes HLO.out)
            have HRD := Stow.mk (IRow.drewN HR.out nn)
            have HBD := Stow.mk (Below.drewN' HBR.out nn)
            go_wp2_with (at_builtin; refine wpList_append_int HRD.out i rfl (.tmp 41) (.tmp 43) 105 rfl Tryz.underlying105 info_int rfl _ rfl rfl K8.out HBD.out.size ?_; intro A9 c9 w2 hown2 _ hb2 hs2)
            exact ⟨⟨i + 1, rfl, by omega, ⟨by rw [HPL.out]; exact hown2⟩, HBD.out.trans hb2⟩, by simp [intOf]; omega⟩
          · have HPL := Stow.mk (Tr.pl_no HLO.out)
            go_wp2_with fail
            exact ⟨⟨i + 1, rfl, by omega, ⟨by rw [HPL.out]; exact HR.out.drewN nn⟩, Below.drewN' HBR.out nn⟩, by simp [intOf]; omega⟩
    · obtain rfl : i = L.length := by omega
      have hni : ¬ (L.length : Int) < L.length := by omega
      go_wp2_with fail
      go_ret
      exact ⟨_, rfl, by rw [show Tr.orphans L = Tr.pl L (Tr.lost_ L) L.length from rfl]; exact HR.out, HBR.out⟩
end Go.Proofs.YtfbhdkkmcfnghaaGreat
end
