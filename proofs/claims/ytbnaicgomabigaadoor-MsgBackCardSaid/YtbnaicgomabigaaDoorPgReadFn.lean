/- Walk of prog.Read. Conditions: a line that is not too long; what the library's variables hold. -/
import Derived.Test.YtbnaicgomabigaaDoorPgRead
namespace Go.Proofs.YtbnaicgomabigaaDoor
open Go.RowKit
set_option linter.unusedVariables false

/-- What the library's variables hold. -/
structure PgEnv (w : World) : Prop where
  max : MaxIs w
  pow : Pow10 w
  syn : SynIs w
theorem PgEnv.keep {w w' : World} (h : PgEnv w) (hb : Below w.heap.size w w') : PgEnv w' := ⟨h.max.keep hb, h.pow.keep hb, h.syn.keep hb⟩

theorem Pg.parseN_fits (k : Int) (rest : List UInt8) (N : Int) (h0 : -9223372036854775808 ≤ N) (h1 : N ≤ 9223372036854775807) :
    (Pg.parseN k rest N).a.length ≤ rest.length ∧ (Pg.parseN k rest N).b.length ≤ rest.length ∧ -9223372036854775808 ≤ (Pg.parseN k rest N).n ∧ (Pg.parseN k rest N).n ≤ 9223372036854775807 := by
  have hc : (Pg.cut rest).1.length ≤ rest.length ∧ (Pg.cut rest).2.length ≤ rest.length := by
    rcases Pg.cut_back rest with ⟨h1, h2⟩ | h
    · constructor
      · rw [← h1]; exact Nat.le_refl _
      · rw [h2]; simp
    · have := congrArg List.length h
      simp at this
      omega
  unfold Pg.parseN
  split
  · simp [h0, h1]
  · unfold Pg.parse
    rename_i h7
    rw [if_neg h7]
    split
    · exact ⟨hc.1, hc.2, by simp, by simp⟩
    · exact ⟨Nat.le_refl _, by simp, by simp, by simp⟩
def Pg.zero : Ob := ⟨0, [], [], 0⟩

theorem read_results (W : World) (g : Nat) (a b c d : Value) (ok : Bool) (tmps : Array Value) (hH : Held W g [a, b, c, d]) (h2 : tmps[2]?.getD undef = .pointer (some ⟨g, 0, none⟩)) (h3 : tmps[3]?.getD undef = .bool ok) :
    (results Tryd.f16 tmps).run Tryd.prog W = .ok (.tuple #[.agg #[a, b, c, d], .bool ok]) W := by
  have c0 := hH.cell (i := 0) rfl
  have c1 := hH.cell (i := 1) rfl
  have c2 := hH.cell (i := 2) rfl
  have c3 := hH.cell (i := 3) rfl
  simp [results, Tryd.results16, go_sem, h2, h3, c0, c1, c2, c3]

set_option maxHeartbeats 4000000 in
set_option maxRecDepth 100000 in
theorem pgRead_any (l : List UInt8) (w : World) (hl : l.length < 2147483647) (hm : PgEnv w) :
    Calls Tryd.prog 16 #[.string (bs l)] w fun e w' => e = .returned (.tuple #[((Pg.read l).getD Pg.zero).val, .bool (Pg.read l).isSome]) ∧ Below w.heap.size w w' := by
  have HM := Stow.mk hm
  clear hm
  obtain ⟨c1, hc1⟩ : ∃ c, (Pg.cut l).1 = c := ⟨_, rfl⟩
  obtain ⟨rest, hrest⟩ : ∃ c, (Pg.cut l).2 = c := ⟨_, rfl⟩
  have hrl : rest.length ≤ l.length := by
    rw [← hrest]
    rcases Pg.cut_back l with ⟨h1, h2⟩ | h
    · rw [h2]; simp
    · have := congrArg List.length h
      simp at this
      omega
  have HC1 := Stow.mk hc1
  have HREST := Stow.mk hrest
  clear hc1 hrest
  have HH : Stow (∀ w1, Below (w.alloc (.cells #[.int .i64 0, .string ⟨#[]⟩, .string ⟨#[]⟩, .int .i64 0] 23)).heap.size (w.alloc (.cells #[.int .i64 0, .string ⟨#[]⟩, .string ⟨#[]⟩, .int .i64 0] 23)) w1 → Held w1 w.heap.size [.int .i64 0, .string ⟨#[]⟩, .string ⟨#[]⟩, .int .i64 0]) := ⟨fun w1 h => (Held.made w [.int .i64 0, .string ⟨#[]⟩, .string ⟨#[]⟩, .int .i64 0] _).kept h⟩
  go_enter Tryd.func16, Tryd.ntmps16
  go_wp2_with fail
  refine (cut32_any l _ (by omega) (HM.out.max.keep (Below.alloc' (Below.self _) _))).mono ?_
  rw [HC1.out, HREST.out]
  rintro e w1 ⟨bb, rfl, hb1⟩
  have HB1 := Stow.mk (Below.call (Below.alloc' (Below.self w) _) hb1)
  have HH1 := Stow.mk (HH.out w1 hb1)
  clear hb1
  go_wp2_with fail
  refine (pgShapes_any _).mono ?_
  rintro e w2 ⟨rfl, hb2⟩
  have HB2 := Stow.mk (Below.call HB1.out hb2)
  have HH2 := Stow.mk (HH1.out.kept hb2)
  clear hb2
  go_wp2_with fail
  go_loopw [19] (fun v wr => ∃ i : Nat, v = .int .i64 (i : Int) ∧ i ≤ 7 ∧ Stow (Pg.Missed l i) ∧ Stow (Held wr w.heap.size [.int .i64 0, .string ⟨#[]⟩, .string ⟨#[]⟩, .int .i64 0]) ∧ Below w.heap.size w wr) (fun v _ => 7 - (intOf v).toNat)
  case atStart => exact ⟨0, rfl, by omega, ⟨Pg.Missed.zero l⟩, HH2, HB2.out⟩
  case round =>
    obtain ⟨i, rfl, hi, HMS, HHR, hbr⟩ := hrel
    have HBR := Stow.mk hbr
    have hHl := HHR.out.lt
    have hne : (wr.heap.size == w.heap.size) = false := by simp; omega
    clear hbr
    by_cases hlt : i < 7
    · have hii : (i : Int) < 7 := by omega
      obtain ⟨k, hk⟩ : ∃ k : Int, 1 + (i : Int) = k := ⟨_, rfl⟩
      have hix := idx_shapes k i (by omega) (by omega) (by omega)
      obtain ⟨x, hx⟩ : ∃ x, Pg.sa k = x := ⟨_, rfl⟩
      obtain ⟨y, hy⟩ : ∃ x, Pg.sb k = x := ⟨_, rfl⟩
      obtain ⟨z, hz⟩ : ∃ x, Pg.sn k = x := ⟨_, rfl⟩
      obtain ⟨wd, hwd⟩ : ∃ x, Pg.word k = x := ⟨_, rfl⟩
      rw [hx, hy, hz, hwd] at hix
      have HX := Stow.mk (And.intro hx (And.intro hy (And.intro hz hwd)))
      clear hx hy hz hwd
      by_cases hw : wd = c1
      · subst hw
        have HS : Stow (∀ W, Below (wr.alloc (.cells #[.string (bs wd), .int .i64 x, .int .i64 y, .int .i64 z] 75)).heap.size (wr.alloc (.cells #[.string (bs wd), .int .i64 x, .int .i64 y, .int .i64 z] 75)) W → Held W w.heap.size [.int .i64 0, .string ⟨#[]⟩, .string ⟨#[]⟩, .int .i64 0] ∧ Below w.heap.size w W) := ⟨fun W hb => ⟨(HHR.out.kept (Below.alloc' (Below.self _) _)).kept hb, (Below.alloc HBR.out HBR.out.size _).trans (hb.mono (by have := HBR.out.size; simp; omega))⟩⟩
        go_wp2_with fail
        have hP := pgParse_any k rest (wr.alloc (.cells #[.string (bs wd), .int .i64 x, .int .i64 y, .int .i64 z] 75)) (by omega) (by omega) (by omega) (HM.out.keep (HS.out _ (Below.refl _ _)).2).max (HM.out.keep (HS.out _ (Below.refl _ _)).2).syn
        rw [HX.out.1, HX.out.2.1, HX.out.2.2.1, HX.out.2.2.2] at hP
        refine hP.mono ?_
        rintro e W ⟨N, hN, hN0, hN1, rfl, hbW⟩
        have hfit := Pg.parseN_fits k rest N hN0 hN1
        have hh := Pg.parseN_hit (line := l) (k := k) (N := N) (by rw [HX.out.2.2.2, HC1.out]) (by omega) (by omega) (by rw [HREST.out]; exact hN)
        rw [HREST.out] at hh
        have hrh : Pg.hit l k → Pg.read l = some (Pg.parseN k rest N) := fun h => by
          rw [hh.2 h, Pg.read_hit (by omega) (by omega) h, HREST.out]
        obtain ⟨o, ho⟩ : ∃ o, Pg.parseN k rest N = o := ⟨_, rfl⟩
        rw [ho] at hfit hh hrh ⊢
        have HHT := Stow.mk hh.1
        have HRH := Stow.mk hrh
        have hPWr := fun (W1 : World) (hB : Below w.heap.size w W1) => pgWrite_any o W1 (by omega) (by omega) hfit.2.2.1 hfit.2.2.2 (HM.out.keep hB).pow
        have HPW := Stow.mk hPWr
        clear ho hh hrh hN hfit hP hPWr
        obtain ⟨hHW, hBW⟩ := HS.out W hbW
        have HHW := Stow.mk hHW
        have HBW := Stow.mk hBW
        clear hHW hBW hbW hix
        obtain ⟨ok, oa, ob, on⟩ := o
        simp only [Ob.val] at HPW ⊢
        have HO : Stow (∀ W2, Below (W.alloc (.cells #[.int .i64 ok, .string (bs oa), .string (bs ob), .int .i64 on] 23)).heap.size (W.alloc (.cells #[.int .i64 ok, .string (bs oa), .string (bs ob), .int .i64 on] 23)) W2 → Held W2 W.heap.size [.int .i64 ok, .string (bs oa), .string (bs ob), .int .i64 on] ∧ Held W2 w.heap.size [.int .i64 0, .string ⟨#[]⟩, .string ⟨#[]⟩, .int .i64 0] ∧ Below w.heap.size w W2) := ⟨fun W2 hb => ⟨(Held.made W [.int .i64 ok, .string (bs oa), .string (bs ob), .int .i64 on] _).kept hb, (HHW.out.kept (Below.alloc' (Below.self _) _)).kept hb, (Below.alloc HBW.out HBW.out.size _).trans (hb.mono (by have := HBW.out.size; simp; omega))⟩⟩
        obtain ⟨cc, hcc⟩ : ∃ c, Pg.check ⟨ok, oa, ob, on⟩ = c := ⟨_, rfl⟩
        obtain ⟨tt, htt⟩ : ∃ c, Pg.write ⟨ok, oa, ob, on⟩ = c := ⟨_, rfl⟩
        have HCC := Stow.mk hcc
        have HTT := Stow.mk htt
        clear hcc htt
        go_wp2_with fail
        refine (HPW.out _ (HO.out _ (Below.refl _ _)).2.2).mono ?_
        rw [HCC.out, HTT.out]
        rintro e W2 ⟨rfl, hb2⟩
        obtain ⟨hO2, hH2, hB2⟩ := HO.out W2 hb2
        have HO2 := Stow.mk hO2
        have HHW2 := Stow.mk hH2
        have HB2 := Stow.mk hB2
        clear hb2 hB2
        by_cases hc0 : cc = 0
        rotate_left
        · have hci : ((cc : Int) == 0) = false := by rw [beq_eq_false_iff_ne]; omega
          have HMN : Stow (Pg.Missed l (i + 1)) := ⟨HMS.out.next fun h => by
            have := (HHT.out.2 (by rw [← hk, Int.add_comm]; exact h)).1
            rw [HCC.out] at this
            exact hc0 this⟩
          clear hO2 hH2
          go_wp2_with fail
          exact ⟨⟨i + 1, rfl, by omega, HMN, HHW2, HB2.out⟩, by simp [intOf]; omega⟩
        subst hc0
        have HTX : Stow (tt = Pg.text ⟨ok, oa, ob, on⟩) := ⟨by rw [← HTT.out]; unfold Pg.write; rw [if_pos HCC.out]⟩
        by_cases ht : tt = l
        rotate_left
        · have hti : (tt == l) = false := by rw [beq_eq_false_iff_ne]; exact ht
          have HMN : Stow (Pg.Missed l (i + 1)) := ⟨HMS.out.next fun h => by
            have := (HHT.out.2 (by rw [← hk, Int.add_comm]; exact h)).2
            rw [← HTX.out] at this
            exact ht this⟩
          clear hO2 hH2
          go_wp2_with fail
          exact ⟨⟨i + 1, rfl, by omega, HMN, HHW2, HB2.out⟩, by simp [intOf]; omega⟩
        subst ht
        have HRD : Stow (Pg.read tt = some ⟨ok, oa, ob, on⟩) := ⟨HRH.out (HHT.out.1 ⟨HCC.out, HTX.out.symm⟩)⟩
        have c0 := hO2.cell (i := 0) rfl
        have c1 := hO2.cell (i := 1) rfl
        have c2 := hO2.cell (i := 2) rfl
        have c3 := hO2.cell (i := 3) rfl
        have a0 := hH2.cell (i := 0) rfl
        have a1 := hH2.cell (i := 1) rfl
        have a2 := hH2.cell (i := 2) rfl
        have a3 := hH2.cell (i := 3) rfl
        have f0 := hH2.free 0
        have f1 := hH2.free 1
        have f2 := hH2.free 2
        have f3 := hH2.free 3
        clear hO2 hH2
        go_wp2_with fail
        refine bodyPost_ret (read_results _ w.heap.size (.int .i64 ok) (.string (bs oa)) (.string (bs ob)) (.int .i64 on) true _ ((((HHW2.out.set 0 _).set 1 _).set 2 _).set 3 _) rfl rfl) rfl ?_
        exact ⟨by rw [HRD.out]; rfl, (((HB2.out.setCell (p := ⟨w.heap.size, 0, none⟩) (Nat.le_refl _) _).setCell (p := ⟨w.heap.size, 1, none⟩) (Nat.le_refl _) _).setCell (p := ⟨w.heap.size, 2, none⟩) (Nat.le_refl _) _).setCell (p := ⟨w.heap.size, 3, none⟩) (Nat.le_refl _) _⟩
      · have hbb : (wd == c1) = false := by rw [beq_eq_false_iff_ne]; exact hw
        have HMN : Stow (Pg.Missed l (i + 1)) := ⟨HMS.out.next (Pg.not_hit (by rw [show ((i : Int) + 1) = k by omega, HX.out.2.2.2, HC1.out]; exact hw))⟩
        go_wp2_with fail
        exact ⟨⟨i + 1, rfl, by omega, HMN, ⟨HHR.out.kept (Below.alloc' (Below.self _) _)⟩, Below.alloc HBR.out HBR.out.size _⟩, by simp [intOf]; omega⟩
    · obtain rfl : i = 7 := by omega
      have HRN : Stow (Pg.read l = none) := ⟨HMS.out.none⟩
      have a0 := HHR.out.cell (i := 0) rfl
      have a1 := HHR.out.cell (i := 1) rfl
      have a2 := HHR.out.cell (i := 2) rfl
      have a3 := HHR.out.cell (i := 3) rfl
      have f0 := HHR.out.free 0
      have f1 := HHR.out.free 1
      have f2 := HHR.out.free 2
      have f3 := HHR.out.free 3
      go_wp2_with fail
      refine bodyPost_ret (read_results _ w.heap.size (.int .i64 0) (.string ⟨#[]⟩) (.string ⟨#[]⟩) (.int .i64 0) false _ ((((HHR.out.set 0 _).set 1 _).set 2 _).set 3 _) rfl rfl) rfl ?_
      exact ⟨by rw [HRN.out]; rfl, (((HBR.out.setCell (p := ⟨w.heap.size, 0, none⟩) (Nat.le_refl _) _).setCell (p := ⟨w.heap.size, 1, none⟩) (Nat.le_refl _) _).setCell (p := ⟨w.heap.size, 2, none⟩) (Nat.le_refl _) _).setCell (p := ⟨w.heap.size, 3, none⟩) (Nat.le_refl _) _⟩
end Go.Proofs.YtbnaicgomabigaaDoor
