/- Walks of prog.parse and prog.Read. Conditions: a line that is not too long; what the library's variables hold. -/
import Derived.Test.YtbnaicgomabigaaDoorPgWrite
import Derived.Test.YtbnaicgomabigaaDoorPgReadLaw
import Derived.Test.YtbnaicgomabigaaDoorPgCut
import Derived.Test.YtbnaicgomabigaaDoorTsLib
namespace Go.Proofs.YtbnaicgomabigaaDoor
open Go.RowKit
set_option linter.unusedVariables false

/-- strconv.ErrSyntax holds an error, or none. -/
def SynIs (w : World) : Prop := ∃ ev, w.cell? ⟨Tryd.laysC172_ren.g 15, 0, none⟩ = some ev ∧ (ev = .nilIface ∨ ∃ te pe, ev = .iface te pe)
theorem SynIs.keep {w w' : World} (h : SynIs w) (hb : Below w.heap.size w w') : SynIs w' := by
  obtain ⟨m, hm, h2⟩ := h
  exact ⟨m, (hb.cell (p := ⟨Tryd.laysC172_ren.g 15, 0, none⟩) (block_lt_of_cell hm)).trans hm, h2⟩

theorem Pg.atoi_itoa {M : Int} (h0 : 100 ≤ M) (h1 : M ≤ 599) : Lib.atoi (Lib.itoa M) = some M := by
  rw [Pg.itoa3 h0 h1]
  have a := Pg.ofNat_dig (show M.natAbs / 100 < 10 by omega)
  have b := Pg.ofNat_dig (show M.natAbs / 10 % 10 < 10 by omega)
  have c := Pg.ofNat_dig (show M.natAbs % 10 < 10 by omega)
  have n45 : (UInt8.ofNat (48 + M.natAbs / 100) == 45) = false := by rw [beq_eq_false_iff_ne]; intro e; rw [e] at a; simp at a; omega
  have n43 : (UInt8.ofNat (48 + M.natAbs / 100) == 43) = false := by rw [beq_eq_false_iff_ne]; intro e; rw [e] at a; simp at a; omega
  have d1 : Lib.digitVal (UInt8.ofNat (48 + M.natAbs / 100)) = some (M.natAbs / 100) := by unfold Lib.digitVal; rw [a, if_pos (by omega)]; congr 1; omega
  have d2 : Lib.digitVal (UInt8.ofNat (48 + M.natAbs / 10 % 10)) = some (M.natAbs / 10 % 10) := by unfold Lib.digitVal; rw [b, if_pos (by omega)]; congr 1; omega
  have d3 : Lib.digitVal (UInt8.ofNat (48 + M.natAbs % 10)) = some (M.natAbs % 10) := by unfold Lib.digitVal; rw [c, if_pos (by omega)]; congr 1; omega
  unfold Lib.atoi
  simp only []
  rw [n45, n43]
  simp only [Bool.false_eq_true, if_false, Lib.decNat, List.isEmpty_cons, Lib.decFrom, d1, d2, d3, Option.map_some]
  congr 1
  omega

/-- strconv.Atoi at three bytes. -/
theorem atoi3_any (l : List UInt8) (hl : l.length = 3) (w : World) (hs : SynIs w) :
    Calls Tryd.prog 79 #[.string (bs l)] w fun e w' => ∃ (N : Int) (v : Value), e = .returned (.tuple #[.int .i64 N, v]) ∧ Pg.NumOf l N ∧ -9223372036854775808 ≤ N ∧ N ≤ 9223372036854775807 ∧ Below w.heap.size w w' := by
  cases h : Lib.atoi l with
  | some n =>
    have hb : -9223372036854775808 ≤ n ∧ n ≤ 9223372036854775807 := by
      have h2 := h
      match l, hl with
      | [x, y, z], _ =>
        have dv : ∀ (b : UInt8) (d : Nat), Lib.digitVal b = some d → d ≤ 9 := by
          intro b d hd
          unfold Lib.digitVal at hd
          split at hd
          · simp at hd; omega
          · cases hd
        unfold Lib.atoi Lib.decNat at h2
        simp only [Lib.decFrom, List.isEmpty_cons, Bool.false_eq_true, if_false] at h2
        cases hx : Lib.digitVal x <;> cases hy : Lib.digitVal y <;> cases hz : Lib.digitVal z <;> simp only [hx, hy, hz] at h2 <;> repeat' split at h2
        all_goals simp at h2
        all_goals (try have := dv _ _ hx)
        all_goals (try have := dv _ _ hy)
        all_goals (try have := dv _ _ hz)
        all_goals omega
    refine (Tryd.strconv_Atoi (bs l) n (by rw [bs_size]; omega) h w).mono ?_
    rintro e w' ⟨rfl, hw⟩
    refine ⟨n, .nilIface, rfl, ?_, hb.1, hb.2, ?_⟩
    · intro M h0 h1 e
      rw [e, Pg.atoi_itoa h0 h1] at h
      exact (Option.some.inj h).symm
    · obtain ⟨t, rfl⟩ := hw
      exact Lib.bytesWorld_below _ _ _
  | none =>
    obtain ⟨ev, hev, h2⟩ := hs
    refine (Any.strconv_Atoi_err Tryd.laysC172 (bs l) (by rw [bs_size]; omega) h ev w hev h2).mono ?_
    rintro e w' ⟨N, rfl, _, _, hb⟩
    refine ⟨0, _, rfl, ?_, by omega, by omega, hb⟩
    intro M h0 h1 e
    rw [e, Pg.atoi_itoa h0 h1] at h
    cases h

theorem cut32_any (l : List UInt8) (w : World) (hl : l.length < 4294967281) (hm : MaxIs w) :
    Calls Tryd.prog 52 #[.string (bs l), .string ⟨#[32]⟩] w fun e w' => ∃ b, e = .returned (.tuple #[.string (bs (Pg.cut l).1), .string (bs (Pg.cut l).2), .bool b]) ∧ Below w.heap.size w w' := by
  obtain ⟨m, hm⟩ := hm
  have h := Tryd.strings_Cut (bs l) (bs [32]) m w (by rw [bs_size]; exact hl) hm
  have e := Pg.cut_lib l
  rw [show (bs l).data.toList = l from rfl, show (bs [32]).data.toList = [32] from rfl, e] at h
  refine h.mono ?_
  rintro e w' ⟨rfl, n, rfl⟩
  by_cases h61 : (32 : UInt8) ∈ l
  · simp only [if_pos h61]
    exact ⟨_, rfl, Below.drewN' (Below.self _) _⟩
  · simp only [if_neg h61]
    have hc : Pg.cut l = (l, []) := Pg.cut_none fun b hb e => h61 (e ▸ hb)
    rw [hc]
    exact ⟨_, rfl, Below.drewN' (Below.self _) _⟩

theorem parse_results (W : World) (g : Nat) (a b c d : Value) (tmps : Array Value) (hH : Held W g [a, b, c, d]) (h2 : tmps[6]?.getD undef = .pointer (some ⟨g, 0, none⟩)) :
    (results Tryd.f54 tmps).run Tryd.prog W = .ok (.agg #[a, b, c, d]) W := by
  have c0 := hH.cell (i := 0) rfl
  have c1 := hH.cell (i := 1) rfl
  have c2 := hH.cell (i := 2) rfl
  have c3 := hH.cell (i := 3) rfl
  simp [results, Tryd.results54, go_sem, h2, c0, c1, c2, c3]

theorem Held.off {w : World} {g g' i : Nat} {cs : List Value} (h : Held w g cs) (hne : g ≠ g') (u : Value) : Held (w.setCell ⟨g', i, none⟩ u) g cs := by
  obtain ⟨t, h⟩ := h
  exact ⟨t, ((Only.set g' w i u).block g (by obtain ⟨hl, _⟩ := Array.getElem?_eq_some_iff.1 h; exact hl) (by simpa using hne)).trans h⟩

/-- Three blocks that were just laid. -/
theorem three_made {w W : World} {A B C : List Value} {ta tb tc : TypeId} (hb : Below (((w.alloc (.cells A.toArray ta)).alloc (.cells B.toArray tb)).alloc (.cells C.toArray tc)).heap.size (((w.alloc (.cells A.toArray ta)).alloc (.cells B.toArray tb)).alloc (.cells C.toArray tc)) W) :
    Held W (w.heap.size + 1) B ∧ Held W (w.heap.size + 2) C ∧ Below w.heap.size w W := by
  have e1 : (w.alloc (.cells A.toArray ta)).heap.size = w.heap.size + 1 := by simp
  have e2 : ((w.alloc (.cells A.toArray ta)).alloc (.cells B.toArray tb)).heap.size = w.heap.size + 2 := by simp
  have h1 := ((Held.made (w.alloc (.cells A.toArray ta)) B tb).kept (Below.alloc' (Below.self _) (.cells C.toArray tc))).kept hb
  have h2 := (Held.made ((w.alloc (.cells A.toArray ta)).alloc (.cells B.toArray tb)) C tc).kept hb
  rw [e1] at h1
  rw [e2] at h2
  exact ⟨h1, h2, Below.call (Below.alloc' (Below.alloc' (Below.alloc' (Below.self _) _) _) _) hb⟩


set_option maxHeartbeats 2000000 in
set_option maxRecDepth 100000 in
theorem pgParse_any (k : Int) (rest : List UInt8) (w : World) (h0 : 1 ≤ k) (h1 : k ≤ 7) (hl : rest.length < 4294967281) (hm : MaxIs w) (hs : SynIs w) :
    Calls Tryd.prog 54 #[.int .i64 k, .agg #[.string (bs (Pg.word k)), .int .i64 (Pg.sa k), .int .i64 (Pg.sb k), .int .i64 (Pg.sn k)], .string (bs rest)] w fun e w' =>
      ∃ N : Int, Pg.NumOf rest N ∧ -9223372036854775808 ≤ N ∧ N ≤ 9223372036854775807 ∧ e = .returned (Pg.parseN k rest N).val ∧ Below w.heap.size w w' := by
  have HM := Stow.mk hm
  have HSY := Stow.mk hs
  clear hm hs
  obtain ⟨x, hx⟩ : ∃ x, Pg.sa k = x := ⟨_, rfl⟩
  obtain ⟨wd, hwd⟩ : ∃ x, Pg.word k = x := ⟨_, rfl⟩
  rw [hx, hwd]
  clear hx hwd
  by_cases h7 : k = 7
  · subst h7
    rw [show Pg.sb 7 = 0 from rfl, show Pg.sn 7 = 4 from rfl]
    by_cases h3 : rest.length = 3
    · have h3i : ((rest.length : Int) == 3) = true := by rw [beq_iff_eq]; omega
      have HT : Stow (∀ W, Below (((w.alloc (.cells #[.string (bs wd), .int .i64 x, .int .i64 0, .int .i64 4] 75)).alloc (.cells #[.int .i64 0, .string ⟨#[]⟩, .string ⟨#[]⟩, .int .i64 0] 23)).alloc (.cells #[.int .i64 7, .string ⟨#[]⟩, .string ⟨#[]⟩, .int .i64 0] 23)).heap.size (((w.alloc (.cells #[.string (bs wd), .int .i64 x, .int .i64 0, .int .i64 4] 75)).alloc (.cells #[.int .i64 0, .string ⟨#[]⟩, .string ⟨#[]⟩, .int .i64 0] 23)).alloc (.cells #[.int .i64 7, .string ⟨#[]⟩, .string ⟨#[]⟩, .int .i64 0] 23)) W →
        Held W (w.heap.size + 1) [.int .i64 0, .string ⟨#[]⟩, .string ⟨#[]⟩, .int .i64 0] ∧ Held W (w.heap.size + 2) [.int .i64 7, .string ⟨#[]⟩, .string ⟨#[]⟩, .int .i64 0] ∧ Below w.heap.size w W) := ⟨fun W hb => three_made (A := [.string (bs wd), .int .i64 x, .int .i64 0, .int .i64 4]) (B := [.int .i64 0, .string ⟨#[]⟩, .string ⟨#[]⟩, .int .i64 0]) (C := [.int .i64 7, .string ⟨#[]⟩, .string ⟨#[]⟩, .int .i64 0]) hb⟩
      go_enter Tryd.func54, Tryd.ntmps54
      go_wp2_with fail
      refine (atoi3_any rest h3 _ (HSY.out.keep (Below.alloc' (Below.alloc' (Below.alloc' (Below.self _) _) _) _))).mono ?_
      rintro e W ⟨N, v, rfl, hN, hN0, hN1, hbx⟩
      have HNN := Stow.mk hN
      obtain ⟨h6, h7, hbW⟩ := HT.out W hbx
      have HBW := Stow.mk hbW
      have H6 := Stow.mk h6
      have H7 := Stow.mk h7
      have a0 := h6.cell (i := 0) rfl
      have a1 := h6.cell (i := 1) rfl
      have a2 := h6.cell (i := 2) rfl
      have a3 := h6.cell (i := 3) rfl
      have c0 := h7.cell (i := 0) rfl
      have c1 := h7.cell (i := 1) rfl
      have c2 := h7.cell (i := 2) rfl
      have c3 := h7.cell (i := 3) rfl
      have f0 := h6.free 0
      have f1 := h6.free 1
      have f2 := h6.free 2
      have f3 := h6.free 3
      have e0 := h7.free 0
      have e1 := h7.free 1
      have e2 := h7.free 2
      have e3 := h7.free 3
      clear h6 h7 hbW hbx
      clear hN
      go_wp2_with fail
      refine bodyPost_ret (parse_results _ (w.heap.size + 1) (.int .i64 7) (.string ⟨#[]⟩) (.string ⟨#[]⟩) (.int .i64 N) _ (((((H6.out.off (g' := w.heap.size + 2) (by omega) _).set 0 _).set 1 _).set 2 _).set 3 _) rfl) rfl ?_
      refine ⟨N, HNN.out, hN0, hN1, rfl, ?_⟩
      exact ((((HBW.out.setCell (p := ⟨w.heap.size + 2, 3, none⟩) (by simp) _).setCell (p := ⟨w.heap.size + 1, 0, none⟩) (by simp) _).setCell (p := ⟨w.heap.size + 1, 1, none⟩) (by simp) _).setCell (p := ⟨w.heap.size + 1, 2, none⟩) (by simp) _).setCell (p := ⟨w.heap.size + 1, 3, none⟩) (by simp) _
    · have h3i : ((rest.length : Int) == 3) = false := by rw [beq_eq_false_iff_ne]; omega
      have HNN : Stow (Pg.NumOf rest 0) := ⟨fun M m0 m1 e => by
        rw [e, Pg.itoa3 m0 m1] at h3
        simp at h3⟩
      have hB : Held (((w.alloc (.cells #[.string (bs wd), .int .i64 x, .int .i64 0, .int .i64 4] 75)).alloc (.cells #[.int .i64 7, .string ⟨#[]⟩, .string ⟨#[]⟩, .int .i64 0] 23)).alloc (.cells #[.int .i64 7, .string ⟨#[]⟩, .string ⟨#[]⟩, .int .i64 0] 23)) (w.heap.size + 1) [.int .i64 7, .string ⟨#[]⟩, .string ⟨#[]⟩, .int .i64 0] := (three_made (A := [.string (bs wd), .int .i64 x, .int .i64 0, .int .i64 4]) (B := [.int .i64 7, .string ⟨#[]⟩, .string ⟨#[]⟩, .int .i64 0]) (C := [.int .i64 7, .string ⟨#[]⟩, .string ⟨#[]⟩, .int .i64 0]) (ta := 75) (tb := 23) (tc := 23) (Below.refl _ _)).1
      have HB := Stow.mk hB
      clear hB
      go_enter Tryd.func54, Tryd.ntmps54
      go_wp2_with fail
      refine bodyPost_ret (parse_results _ (w.heap.size + 1) (.int .i64 7) (.string ⟨#[]⟩) (.string ⟨#[]⟩) (.int .i64 0) _ HB.out rfl) rfl ?_
      exact ⟨0, HNN.out, by omega, by omega, rfl, Below.alloc' (Below.alloc' (Below.alloc' (Below.self _) _) _) _⟩
  have hz : Pg.sn k = 0 := by unfold Pg.sn; rw [if_neg h7]
  rw [hz]
  have HP : ∀ N, Pg.parseN k rest N = Pg.parse k rest := fun N => Pg.parseN_ne h7
  obtain ⟨N, hN⟩ : ∃ N : Int, Pg.NumOf rest N ∧ -9223372036854775808 ≤ N ∧ N ≤ 9223372036854775807 := by
    by_cases hE : ∃ M : Int, 100 ≤ M ∧ M ≤ 599 ∧ rest = Lib.itoa M
    · obtain ⟨M, m0, m1, e⟩ := hE
      refine ⟨M, fun K k0 k1 e2 => ?_, by omega, by omega⟩
      have a := Pg.num_itoa m0 m1
      rw [← e, e2, Pg.num_itoa k0 k1] at a
      exact a.symm
    · exact ⟨0, fun K k0 k1 e2 => absurd ⟨K, k0, k1, e2⟩ hE, by omega, by omega⟩
  have HN := Stow.mk hN
  by_cases h36 : k = 3 ∨ k = 6
  · have HR : Stow (Pg.parseN k rest N = ⟨k, (Pg.cut rest).1, (Pg.cut rest).2, 0⟩) := ⟨by rw [HP]; unfold Pg.parse; rw [if_neg h7, if_pos h36]⟩
    obtain ⟨y, hy⟩ : ∃ y, Pg.sb k = y := ⟨_, rfl⟩
    have hy0 : (y != 0) = true := by rw [bne_iff_ne, ← hy]; unfold Pg.sb; repeat' split
                                     all_goals omega
    rw [hy]
    clear hy hz HP hN h36 h7
    have HT : Stow (∀ W, Below (((w.alloc (.cells #[.string (bs wd), .int .i64 x, .int .i64 y, .int .i64 0] 75)).alloc (.cells #[.int .i64 0, .string ⟨#[]⟩, .string ⟨#[]⟩, .int .i64 0] 23)).alloc (.cells #[.int .i64 k, .string ⟨#[]⟩, .string ⟨#[]⟩, .int .i64 0] 23)).heap.size (((w.alloc (.cells #[.string (bs wd), .int .i64 x, .int .i64 y, .int .i64 0] 75)).alloc (.cells #[.int .i64 0, .string ⟨#[]⟩, .string ⟨#[]⟩, .int .i64 0] 23)).alloc (.cells #[.int .i64 k, .string ⟨#[]⟩, .string ⟨#[]⟩, .int .i64 0] 23)) W →
        Held W (w.heap.size + 1) [.int .i64 0, .string ⟨#[]⟩, .string ⟨#[]⟩, .int .i64 0] ∧ Held W (w.heap.size + 2) [.int .i64 k, .string ⟨#[]⟩, .string ⟨#[]⟩, .int .i64 0] ∧ Below w.heap.size w W) := ⟨fun W hb => three_made (A := [.string (bs wd), .int .i64 x, .int .i64 y, .int .i64 0]) (B := [.int .i64 0, .string ⟨#[]⟩, .string ⟨#[]⟩, .int .i64 0]) (C := [.int .i64 k, .string ⟨#[]⟩, .string ⟨#[]⟩, .int .i64 0]) hb⟩
    go_enter Tryd.func54, Tryd.ntmps54
    go_wp2_with fail
    refine (cut32_any rest _ hl (HM.out.keep (Below.alloc' (Below.alloc' (Below.alloc' (Below.self _) _) _) _))).mono ?_
    rintro e W ⟨bb, rfl, hbx⟩
    obtain ⟨h6, h7, hbW⟩ := HT.out W hbx
    have HBW := Stow.mk hbW
    have H6 := Stow.mk h6
    have H7 := Stow.mk h7
    have a0 := h6.cell (i := 0) rfl
    have a1 := h6.cell (i := 1) rfl
    have a2 := h6.cell (i := 2) rfl
    have a3 := h6.cell (i := 3) rfl
    have c0 := h7.cell (i := 0) rfl
    have c1 := h7.cell (i := 1) rfl
    have c2 := h7.cell (i := 2) rfl
    have c3 := h7.cell (i := 3) rfl
    have f0 := h6.free 0
    have f1 := h6.free 1
    have f2 := h6.free 2
    have f3 := h6.free 3
    have e0 := h7.free 0
    have e1 := h7.free 1
    have e2 := h7.free 2
    have e3 := h7.free 3
    clear h6 h7 hbW hbx
    go_wp2_with fail
    refine bodyPost_ret (parse_results _ (w.heap.size + 1) (.int .i64 k) (.string (bs (Pg.cut rest).1)) (.string (bs (Pg.cut rest).2)) (.int .i64 0) _ ((((((H6.out.off (g' := w.heap.size + 2) (by omega) _).off (g' := w.heap.size + 2) (by omega) _).set 0 _).set 1 _).set 2 _).set 3 _) rfl) rfl ?_
    refine ⟨N, HN.out.1, HN.out.2.1, HN.out.2.2, by rw [HR.out]; rfl, ?_⟩
    exact (((((HBW.out.setCell (p := ⟨w.heap.size + 2, 1, none⟩) (by simp) _).setCell (p := ⟨w.heap.size + 2, 2, none⟩) (by simp) _).setCell (p := ⟨w.heap.size + 1, 0, none⟩) (by simp) _).setCell (p := ⟨w.heap.size + 1, 1, none⟩) (by simp) _).setCell (p := ⟨w.heap.size + 1, 2, none⟩) (by simp) _).setCell (p := ⟨w.heap.size + 1, 3, none⟩) (by simp) _
  · have HR : Stow (Pg.parseN k rest N = ⟨k, rest, [], 0⟩) := ⟨by rw [HP]; unfold Pg.parse; rw [if_neg h7, if_neg h36]⟩
    have hy : Pg.sb k = 0 := by unfold Pg.sb; rw [if_neg (by omega), if_neg (by omega)]
    rw [hy]
    clear hy hz HP hN h36 h7
    go_enter Tryd.func54, Tryd.ntmps54
    go_wp2_with fail
    refine bodyPost_ret (parse_results _ (w.heap.size + 1) (.int .i64 k) (.string (bs rest)) (.string ⟨#[]⟩) (.int .i64 0) _ (three_made (A := [.string (bs wd), .int .i64 x, .int .i64 0, .int .i64 0]) (B := [.int .i64 k, .string (bs rest), .string ⟨#[]⟩, .int .i64 0]) (C := [.int .i64 k, .string (bs rest), .string ⟨#[]⟩, .int .i64 0]) (ta := 75) (tb := 23) (tc := 23) (Below.refl _ _)).1 rfl) rfl ?_
    exact ⟨N, HN.out.1, HN.out.2.1, HN.out.2.2, by rw [HR.out]; rfl, Below.alloc' (Below.alloc' (Below.alloc' (Below.self _) _) _) _⟩
end Go.Proofs.YtbnaicgomabigaaDoor
