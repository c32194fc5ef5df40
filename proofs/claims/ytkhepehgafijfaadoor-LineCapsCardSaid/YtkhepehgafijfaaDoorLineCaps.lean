/- Walk of the law LineCaps. Conditions: those of LineValues' walk. -/
import Derived.Test.YtkhepehgafijfaaDoorLineValues
namespace Go.Proofs.YtkhepehgafijfaaDoor
open Go.RowKit
set_option linter.unusedVariables false

set_option maxHeartbeats 2000000 in
set_option maxRecDepth 100000 in
theorem lineCaps_any (L : List Pt) (B : Option Addr) (bcap : Nat) (r0 : Rc) (A : Option Addr) (cap : Nat) (w : World) (hT : SlR w 2 (.slice B L.length bcap) (L.map Pt.cells)) (hS : SlR w 2 (.slice A r0.hs.length cap) (r0.hs.map Hd.cells))
    (hr : r0.reach) (hi : r0.ints) (hL : ∀ p ∈ L, p.2.length ≤ 140737488355328) (hp : Pow10 w) :
    Calls Tryd.prog 5 #[.slice B L.length bcap, .agg #[.string (bs r0.m), .string (bs r0.h), .string (bs r0.p), .slice A r0.hs.length cap, .string (bs r0.b), .string (bs r0.tg), .int .i64 r0.st, .int .i64 r0.ve, .string (bs r0.tr), .int .i64 r0.t0, .int .i64 r0.t1]] w
      fun e w' => e = .returned (.bool true) ∧ Below w.heap.size w w' := by
  have HT := Stow.mk hT
  have HS := Stow.mk hS
  have HR := Stow.mk hr
  have HI := Stow.mk hi
  have HL0 := Stow.mk hL
  have HP := Stow.mk hp
  clear hT hS hr hi hL hp
  obtain ⟨f1, hf1⟩ : ∃ c, fewP L = c := ⟨_, rfl⟩
  obtain ⟨f2, hf2⟩ : ∃ c, fewR r0 = c := ⟨_, rfl⟩
  have HF1 := Stow.mk hf1
  have HF2 := Stow.mk hf2
  clear hf1 hf2
  go_enter Tryd.func5, Tryd.ntmps5
  go_wp2_with fail
  refine (fewP_any L B bcap _ (HT.out.alloc _) HL0.out).mono ?_
  rw [HF1.out]
  rintro e w1 ⟨rfl, hb1⟩
  have HB1 : Stow (Below w.heap.size w w1) := ⟨Below.call (Below.alloc' (Below.self _) _) hb1⟩
  have hH := (Held.made w [.string (bs r0.m), .string (bs r0.h), .string (bs r0.p), .slice A r0.hs.length cap, .string (bs r0.b), .string (bs r0.tg), .int .i64 r0.st, .int .i64 r0.ve, .string (bs r0.tr), .int .i64 r0.t0, .int .i64 r0.t1] 32).kept hb1
  have HH := Stow.mk hH
  have c0 := hH.cell (i := 0) rfl
  have c1 := hH.cell (i := 1) rfl
  have c2 := hH.cell (i := 2) rfl
  have c3 := hH.cell (i := 3) rfl
  have c4 := hH.cell (i := 4) rfl
  have c5 := hH.cell (i := 5) rfl
  have c6 := hH.cell (i := 6) rfl
  have c7 := hH.cell (i := 7) rfl
  have c8 := hH.cell (i := 8) rfl
  have c9 := hH.cell (i := 9) rfl
  have c10 := hH.cell (i := 10) rfl
  clear hb1 hH
  cases f1
  · go_wp2_with fail
    refine (known20_any _ (HP.out.keep HB1.out)).mono ?_
    rintro e w2 ⟨rfl, hb2⟩
    go_wp2_with fail
    go_ret
    exact ⟨rfl, Below.call HB1.out hb2⟩
  go_wp2_with fail
  refine (few20_any r0 A cap _ (HS.out.keep HB1.out) HR.out).mono ?_
  rw [HF2.out]
  rintro e w2 ⟨rfl, hb2⟩
  have HB2 := Stow.mk hb2
  clear hb2 c0 c1 c2 c3 c4 c5 c6 c7 c8 c9 c10
  cases f2
  · go_wp2_with fail
    refine (known20_any _ ((HP.out.keep HB1.out).keep HB2.out)).mono ?_
    rintro e w3 ⟨rfl, hb3⟩
    go_wp2_with fail
    go_ret
    exact ⟨rfl, Below.call (Below.call HB1.out HB2.out) hb3⟩
  have hfw := fewR_few HF2.out
  have HW := Stow.mk hfw.1
  have HF := Stow.mk (fits_of hfw.1 hfw.2 HI.out)
  have hfp := fewP_few HF1.out
  have HL : Stow (∀ p ∈ L, p.2.length ≤ 4096) := ⟨fun p hp => by have := hfp.2 p hp; omega⟩
  have hn : L.length ≤ 1048576 := by omega
  clear hfw hfp
  have HBW : Stow (Below w.heap.size w w2) := ⟨Below.call HB1.out HB2.out⟩
  have hH := HH.out.kept HB2.out
  have c0 := hH.cell (i := 0) rfl
  have c1 := hH.cell (i := 1) rfl
  have c2 := hH.cell (i := 2) rfl
  have c3 := hH.cell (i := 3) rfl
  have c4 := hH.cell (i := 4) rfl
  have c5 := hH.cell (i := 5) rfl
  have c6 := hH.cell (i := 6) rfl
  have c7 := hH.cell (i := 7) rfl
  have c8 := hH.cell (i := 8) rfl
  have c9 := hH.cell (i := 9) rfl
  have c10 := hH.cell (i := 10) rfl
  have HH2 := Stow.mk hH
  clear hH
  go_wp2_with fail
  refine (render_any L B bcap r0 A cap _ (HT.out.keep HBW.out) (HS.out.keep HBW.out) HF.out HW.out HL.out hn (HP.out.keep HBW.out)).mono ?_
  rintro e w3 ⟨rfl, hb3⟩
  have HB3 : Stow (Below w.heap.size w w3) := ⟨Below.call HBW.out hb3⟩
  have HH3 := Stow.mk (HH2.out.kept hb3)
  clear hb3 c0 c1 c2 c3 c4 c5 c6 c7 c8 c9 c10
  have FIN : (allOf r0 L).length ≤ 120 ∧ renderOf r0 L = allOf r0 L ∨ 120 < (allOf r0 L).length ∧ renderOf r0 L = (allOf r0 L).take 119 ++ [126] := by
    unfold renderOf
    split
    · exact .inr ⟨by assumption, rfl⟩
    · exact .inl ⟨by omega, rfl⟩
  obtain ⟨S, hSx⟩ : ∃ S, renderOf r0 L = S := ⟨_, rfl⟩
  rw [hSx] at FIN ⊢
  have HFIN := Stow.mk FIN
  clear FIN hSx
  rcases L with _ | ⟨q0, Lt⟩
  · have HF0 : S = [] := by
      rcases HFIN.out with ⟨_, h⟩ | ⟨h, _⟩
      · exact h
      · simp [allOf] at h
    subst HF0
    go_wp2_with fail
    go_loopw [6, 7] (fun o v wr => o = .string (bs []) ∧ v = .int .i64 0 ∧ Below w.heap.size w wr) (fun _ _ _ => 0)
    case atStart => exact ⟨rfl, rfl, HB3.out⟩
    case round =>
      obtain ⟨rfl, rfl, hbr⟩ := hrel
      have HBR := Stow.mk hbr
      go_wp2_with fail
      refine (known20_any _ (HP.out.keep HBR.out)).mono ?_
      rintro e w4 ⟨rfl, hb4⟩
      go_wp2_with fail
      go_ret
      exact ⟨rfl, Below.call HBR.out hb4⟩
  obtain ⟨b, off, rfl, hblt, _⟩ := HT.out.open (by simp)
  generalize q0 :: Lt = L at *
  go_wp2_with fail
  go_loopw [6, 7] (fun o v wr => ∃ j : Nat, v = .int .i64 j ∧ j ≤ L.length ∧ o = .string (bs (allOf r0 (L.take j))) ∧ Below w.heap.size w wr ∧
    Held wr w.heap.size [.string (bs r0.m), .string (bs r0.h), .string (bs r0.p), .slice A r0.hs.length cap, .string (bs r0.b), .string (bs r0.tg), .int .i64 r0.st, .int .i64 r0.ve, .string (bs r0.tr), .int .i64 r0.t0, .int .i64 r0.t1]) (fun _ v _ => L.length - (intOf v).toNat)
  case atStart => exact ⟨0, rfl, by omega, rfl, HB3.out, HH3.out⟩
  case round =>
    obtain ⟨j, rfl, hj, rfl, hbr, hH⟩ := hrel
    have hal := allOf_len (L := L.take j) HF.out HW.out (fun p hp => HL.out p (List.mem_of_mem_take hp))
    have hal2 : (allOf r0 (L.take j)).length ≤ 17200000000 := by simp only [List.length_take] at hal; omega
    clear hal
    by_cases hlt : j < L.length
    · have hsp := part_at (HT.out.keep hbr) hlt
      have htl := HL.out L[j] (List.getElem_mem hlt)
      have hvl := valueOf_len (k := L[j].1) HF.out HW.out htl
      obtain ⟨s, hs⟩ : ∃ s, L[j] = s := ⟨_, rfl⟩
      have HN : Stow (allOf r0 (L.take (j + 1)) = allOf r0 (L.take j) ++ valueOf s.1 s.2 r0) := ⟨by rw [allOf_next hlt, hs]⟩
      rw [hs] at hsp hvl
      clear hs htl
      obtain ⟨k, t⟩ := s
      obtain ⟨hltb, q0, q1⟩ := hsp
      simp only at q0 q1 HN hvl
      generalize allOf r0 (L.take j) = acc at hal2 HN
      have hltr := hH.lt
      have HH := Stow.mk hH
      have HBR := Stow.mk hbr
      have g0 : ∀ x : Later wr.heap.size wr, x.1.cell? ⟨b, off + j * 2, none⟩ = some (.int .i64 k) := fun x => x.cell q0 hltb
      have g1 : ∀ x : Later wr.heap.size wr, x.1.cell? ⟨b, off + j * 2 + 1, none⟩ = some (.string (bs t)) := fun x => x.cell q1 hltb
      have c0 : ∀ x : Later wr.heap.size wr, x.1.cell? ⟨w.heap.size, 0, none⟩ = _ := fun x => x.cell (hH.cell (i := 0) rfl) hltr
      have c1 : ∀ x : Later wr.heap.size wr, x.1.cell? ⟨w.heap.size, 1, none⟩ = _ := fun x => x.cell (hH.cell (i := 1) rfl) hltr
      have c2 : ∀ x : Later wr.heap.size wr, x.1.cell? ⟨w.heap.size, 2, none⟩ = _ := fun x => x.cell (hH.cell (i := 2) rfl) hltr
      have c3 : ∀ x : Later wr.heap.size wr, x.1.cell? ⟨w.heap.size, 3, none⟩ = _ := fun x => x.cell (hH.cell (i := 3) rfl) hltr
      have c4 : ∀ x : Later wr.heap.size wr, x.1.cell? ⟨w.heap.size, 4, none⟩ = _ := fun x => x.cell (hH.cell (i := 4) rfl) hltr
      have c5 : ∀ x : Later wr.heap.size wr, x.1.cell? ⟨w.heap.size, 5, none⟩ = _ := fun x => x.cell (hH.cell (i := 5) rfl) hltr
      have c6 : ∀ x : Later wr.heap.size wr, x.1.cell? ⟨w.heap.size, 6, none⟩ = _ := fun x => x.cell (hH.cell (i := 6) rfl) hltr
      have c7 : ∀ x : Later wr.heap.size wr, x.1.cell? ⟨w.heap.size, 7, none⟩ = _ := fun x => x.cell (hH.cell (i := 7) rfl) hltr
      have c8 : ∀ x : Later wr.heap.size wr, x.1.cell? ⟨w.heap.size, 8, none⟩ = _ := fun x => x.cell (hH.cell (i := 8) rfl) hltr
      have c9 : ∀ x : Later wr.heap.size wr, x.1.cell? ⟨w.heap.size, 9, none⟩ = _ := fun x => x.cell (hH.cell (i := 9) rfl) hltr
      have c10 : ∀ x : Later wr.heap.size wr, x.1.cell? ⟨w.heap.size, 10, none⟩ = _ := fun x => x.cell (hH.cell (i := 10) rfl) hltr
      have HV : Stow (∀ x : Later wr.heap.size wr, Calls Tryd.prog 15 #[.agg #[.int .i64 k, .string (bs t)], .agg #[.string (bs r0.m), .string (bs r0.h), .string (bs r0.p), .slice A r0.hs.length cap, .string (bs r0.b), .string (bs r0.tg), .int .i64 r0.st, .int .i64 r0.ve, .string (bs r0.tr), .int .i64 r0.t0, .int .i64 r0.t1]] x.1
          fun e w' => e = .returned (.string (bs (valueOf k t r0))) ∧ Below x.1.heap.size x.1 w') := ⟨fun x => lineValue_any k t r0 A cap x.1 (HS.out.keep (HBR.out.trans (x.2.mono HBR.out.size))) HF.out (HP.out.keep (HBR.out.trans (x.2.mono HBR.out.size)))⟩
      clear q0 q1 hH hbr
      go_wp2_with fail
      refine wp_region_later wr.heap.size (by kernel_rfl) (by kernel_rfl) ?_
      repeat (go_big_quiet_step (first | (go_at_call 15; exact Calls.later (Nat.le_refl _) (HV.out _))))
      refine wpQuiet_nil ?_
      rintro ⟨wx, hbx⟩
      clear g0 g1 c0 c1 c2 c3 c4 c5 c6 c7 c8 c9 c10
      go_wp2_with fail
      exact ⟨⟨j + 1, rfl, by omega, by rw [HN.out], HBR.out.trans (hbx.mono HBR.out.size), HH.out.kept hbx⟩, by simp [intOf]; omega⟩
    · obtain rfl : j = L.length := by omega
      rw [List.take_length] at *
      have HBR := Stow.mk hbr
      have HF0 := HFIN.out
      generalize allOf r0 L = al at *
      rcases HF0 with ⟨h1, rfl⟩ | ⟨h1, h2⟩
      · go_wp2_with fail
        refine (known20_any _ (HP.out.keep HBR.out)).mono ?_
        rintro e w4 ⟨rfl, hb4⟩
        go_wp2_with fail
        go_ret
        exact ⟨rfl, Below.call HBR.out hb4⟩
      · obtain ⟨T, hT⟩ : ∃ T, al.take 119 = T := ⟨_, rfl⟩
        have hTl : T.length = 119 := by rw [← hT]; simp; omega
        rw [hT] at h2
        have e1 : S.length = 120 := by rw [h2]; simp [hTl]
        have e2 : List.take 119 S = T := by rw [h2, ← hTl]; simp
        have e3 : S[119]'(by omega) = 126 := by simp only [h2]; rw [List.getElem_append_right (by omega)]; simp [hTl]
        have hSb : 119 < (bs S).size := by rw [bs_size]; omega
        have e4 : (((S[119]'hSb).toNat : Int) == 126) = true := show (((S[119]'(by omega)).toNat : Int) == 126) = true by rw [e3]; rfl
        clear h2 e3
        have LB : Stow (∀ x : Later wr.heap.size wr, Below w.heap.size w x.1) := ⟨fun x => HBR.out.trans (x.2.mono HBR.out.size)⟩
        go_wp2_with fail
        refine wp_region_later wr.heap.size (by kernel_rfl) (by kernel_rfl) ?_
        repeat (go_big_quiet_step (first | (go_at_call 10; exact Calls.later (Nat.le_refl _) (known20_any _ (HP.out.keep (LB.out _))))))
        refine wpQuiet_nil ?_
        rintro ⟨wx, hbx⟩
        go_wp2_with fail
        go_ret
        exact ⟨by first | rfl | simp, Below.call HBR.out hbx⟩
end Go.Proofs.YtkhepehgafijfaaDoor
