/- Walk of the reference's Nodes. Condition: a slice's own. -/
import Derived.Test.YthbpcdoddcacdaaTrRefLast
namespace Go.Proofs.Ythbpcdoddcacdaa
open Go.RowKit
set_option linter.unusedVariables false

set_option maxHeartbeats 4000000 in
set_option maxRecDepth 100000 in
theorem refNodes_yes (A : Option Addr) (cap : Nat) (L : List Sp) (n : Nat) (w : World) (hS : SpR w A cap L) (hn : L.length ≤ 1000000) (hl : n < L.length) :
    Calls Try.prog 36 #[.slice A L.length cap, .int .i64 (n : Int)] w fun e w' => ∃ v, e = .returned v ∧ DRow L w' w.heap.size v (Tr.walk L n) ∧ Below w.heap.size w w' := by
  have HK := Stow.mk (refWalk_top A cap L n w hS hn hl)
  have HS := Stow.mk hS
  have hlt0 := (Tr.walk_out L n).lt
  have hd : decide ((n : Int) < 0) = false := by simp
  have hd2 : decide (L.length ≤ n) = false := by simp; omega
  obtain ⟨R, hR⟩ : ∃ R, Tr.walk L n = R := ⟨_, rfl⟩
  have HRL : Stow (R.length ≤ L.length) := ⟨by rw [← hR]; exact Tr.walk_len L n⟩
  rw [hR] at HK hlt0 ⊢
  have HLT := Stow.mk hlt0
  clear hS hR hlt0
  go_enter Try.func36, Try.ntmps36
  go_wp2_with fail
  refine HK.out.mono ?_
  rintro e w1 ⟨v1, v2, rfl, hr1, hr2, hb⟩
  obtain ⟨A1, c1, rfl⟩ := own_form hr1
  obtain ⟨A2, c2, rfl⟩ := own_form hr2
  simp only [List.length_map] at hr1 hr2 ⊢
  have HR1 := Stow.mk hr1
  have HR2 := Stow.mk hr2
  have HB := Stow.mk hb
  clear hr1 hr2 hb
  go_wp2_with fail
  go_loopw [7, 8] (fun v u wr => ∃ i : Nat, u = .int .i64 (i : Int) ∧ i ≤ R.length ∧ Stow (DRow L wr w1.heap.size v (R.take i)) ∧ Below w1.heap.size w1 wr) (fun _ u _ => R.length - (intOf u).toNat)
  case atStart => exact ⟨0, rfl, by omega, ⟨World.ownsRow_nil _ _ _ _⟩, Below.self _⟩
  case round =>
    obtain ⟨i, rfl, hi, HO, hbr⟩ := hrel
    have HBR := Stow.mk hbr
    clear hbr
    have hlq : (R.take i).length = i := by rw [List.length_take]; omega
    have hO := HO.out
    unfold DRow at hO
    rw [hlq] at hO
    obtain ⟨Ao, co, rfl⟩ := own_form hO
    have HOO := Stow.mk hO
    clear hO hlq
    by_cases hlt : i < R.length
    · obtain ⟨g1, rfl, hgl1, _, q0⟩ := IRow.at_ (own_kept HR1.out HBR.out) (i := i) (by simpa using hlt)
      obtain ⟨g2, rfl, hgl2, _, q1⟩ := IRow.at_ (own_kept HR2.out HBR.out) (i := i) (by simpa using hlt)
      rw [List.getElem_map] at q0 q1
      obtain ⟨x, hx⟩ : ∃ x, R[i] = x := ⟨_, rfl⟩
      have hxN : x.1 < L.length := HLT.out x.1 (List.mem_map_of_mem (hx ▸ List.getElem_mem hlt))
      rw [hx] at q0 q1
      have HTK : Stow ((R.take (i + 1)).flatMap (ndc L) = (R.take i).flatMap (ndc L) ++ ndc L x ∧ (R.take (i + 1)).length = i + 1) := ⟨by rw [List.take_succ_eq_append_getElem hlt, hx, List.flatMap_append]; simp, by rw [List.length_take]; omega⟩
      obtain ⟨a, d⟩ := x
      simp only at q0 q1 hxN
      have hSr := HS.out.keep (HB.out.trans (HBR.out.mono HB.out.size))
      obtain ⟨b, off, rfl, _, _⟩ := hSr.open (by simp; omega)
      have hsp := span_at hSr hxN
      obtain ⟨s, hs⟩ : ∃ s, L[a] = s := ⟨_, rfl⟩
      have HND : Stow (ndc L (a, d) = [.int .i64 (d : Nat), .string (bs s.name), .int .i64 s.st, .bool s.sh]) := ⟨by unfold ndc; simp only; rw [Tr.sp_get hxN, hs]⟩
      rw [hs] at hsp
      obtain ⟨hltb, p0, p1, p2, p3, p4, p5, p6, p7, p8, p9, p10⟩ := hsp
      have hii : (i : Int) < R.length := by omega
      have hai : (a : Int) < L.length := by omega
      have hrl := HRL.out
      have hbA := Below.alloc' (Below.self wr) (.cells s.cells.toArray 66)
      have HOA := Stow.mk (own_kept HOO.out hbA)
      have HBA : Stow (Below w1.heap.size w1 (wr.alloc (.cells s.cells.toArray 66))) := ⟨HBR.out.trans (hbA.mono HBR.out.size)⟩
      have K8 : Stow ((i + 1) * 40 ≤ 140737488355328 ∧ i + 1 ≤ maxLen) := ⟨by omega, by unfold maxLen; omega⟩
      have q1a : (wr.alloc (.cells s.cells.toArray 66)).cell? ⟨g2, i, none⟩ = some (.int .i64 (d : Nat)) := (hbA.cell (p := ⟨g2, i, none⟩) hgl2).trans q1
      have hH := Held.made wr s.cells 66
      have z4 := hH.cell (i := 4) rfl
      have z5 := hH.cell (i := 5) rfl
      have z8 := hH.cell (i := 8) rfl
      have hwz := HBR.out.size
      obtain ⟨i0, hi0, hz, hsz, hby⟩ := info_parts info_node
      have HI0 := Stow.mk (And.intro hi0 (And.intro hz (And.intro hsz hby)))
      have HO2 : Stow (((wr.alloc (.cells s.cells.toArray 66)).alloc (.cells #[.int .i64 (d : Nat), .string (bs s.name), .int .i64 s.st, .bool s.sh] 53)).drew.ownsRow w1.heap.size 53 4 (.slice Ao i co) i ((R.take i).flatMap (ndc L))) := ⟨World.ownsRow.drew (World.ownsRow.alloc HOA.out _)⟩
      have HXX : Stow (∀ j u, ([.int .i64 (d : Nat), .string (bs s.name), .int .i64 s.st, .bool s.sh] : List Value)[j]? = some u → ((wr.alloc (.cells s.cells.toArray 66)).alloc (.cells #[.int .i64 (d : Nat), .string (bs s.name), .int .i64 s.st, .bool s.sh] 53)).drew.cell? ((⟨wr.heap.size + 1, 0, none⟩ : Addr).add j) = some u) := ⟨by
        have h := World.news_of_block (cs := #[.int .i64 (d : Nat), .string (bs s.name), .int .i64 s.st, .bool s.sh]) (heap_alloc_new (wr.alloc (.cells s.cells.toArray 66)) (.cells #[.int .i64 (d : Nat), .string (bs s.name), .int .i64 s.st, .bool s.sh] 53))
        intro j u hj
        have h2 := h j u hj
        simpa using h2⟩
      have HX1 : Stow (∀ u ∈ ([.int .i64 (d : Nat), .string (bs s.name), .int .i64 s.st, .bool s.sh] : List Value), u.oneCell' = true) := ⟨by rw [← HND.out]; exact ndc_one L (a, d)⟩
      have HN1 : Stow (i + 1 ≤ maxLen ∧ (i + 1) * 40 ≤ 140737488355328 ∧ w1.heap.size ≤ ((wr.alloc (.cells s.cells.toArray 66)).alloc (.cells #[.int .i64 (d : Nat), .string (bs s.name), .int .i64 s.st, .bool s.sh] 53)).drew.heap.size) := ⟨K8.out.2, K8.out.1, by simp; omega⟩
      have HBG : Stow (Below w1.heap.size w1 ((wr.alloc (.cells s.cells.toArray 66)).alloc (.cells #[.int .i64 (d : Nat), .string (bs s.name), .int .i64 s.st, .bool s.sh] 53)).drew) := ⟨(HBA.out.alloc HBA.out.size _).drew⟩
      clear hx hs hSr hbA hi0 hz hsz hby hH
      go_wp2_with fail
      go_region_law (refine step_append_lies _ rfl (.tmp 37) (.tmp 49) 49 rfl w1.heap.size 53 i0 _ 4 40 Try.underlying49 HI0.out.1 HI0.out.2.1 HI0.out.2.2.1 HI0.out.2.2.2 rfl (by decide) _ i _ rfl HO2.out ⟨wr.heap.size + 1, 0, none⟩ 1 1 [.int .i64 (d : Nat), .string (bs s.name), .int .i64 s.st, .bool s.sh] rfl rfl HXX.out HX1.out (by decide) HN1.out.1 HN1.out.2.1 HN1.out.2.2 _ rfl ?_; intro g' cap' w' hown hgrow hat hlt'; have HOW := Stow.mk hown; have HGR := Stow.mk hgrow; clear hown hgrow hat)
      all_goals go_wp2_with fail
      all_goals exact ⟨⟨i + 1, rfl, by omega, ⟨by unfold DRow; rw [HTK.out.1, HTK.out.2, HND.out]; exact HOW.out⟩, HBG.out.grown HGR.out HN1.out.2.2 (fun k hk => (World.ownsRow.lt HO2.out k hk).1)⟩, by simp [intOf]; omega⟩
    · obtain rfl : i = R.length := by omega
      have hni : ¬ (R.length : Int) < R.length := by omega
      go_wp2_with fail
      go_ret
      refine ⟨_, rfl, ?_, HB.out.trans (HBR.out.mono HB.out.size)⟩
      have := HO.out
      rw [List.take_length] at this
      exact own_lower this HB.out.size
end Go.Proofs.Ythbpcdoddcacdaa
