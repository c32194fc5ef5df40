/- Walk of conf.Read. Conditions: a text's length; what a variable of the library's holds. -/
import Derived.Test.YtfbhdkkmcfnghaaGreatDoorCfRdAll
import Derived.Test.YtfbhdkkmcfnghaaGreatDoorCfCheck
namespace Go.Proofs.YtfbhdkkmcfnghaaGreatDoor
open Go.RowKit
set_option linter.unusedVariables false
set_option linter.unusedSimpArgs false

theorem Cf.pieces_len (c : UInt8) : ∀ l : List UInt8, (Ts.pieces c l).length ≤ l.length + 1 ∧ ∀ p ∈ Ts.pieces c l, p.length ≤ l.length
  | [] => by simp [Ts.pieces]
  | b :: t => by
    have ih := Cf.pieces_len c t
    unfold Ts.pieces
    split
    · refine ⟨by simp; omega, fun p hp => ?_⟩
      rcases List.mem_cons.1 hp with rfl | hp
      · simp
      · have := ih.2 p hp; simp; omega
    · split
      · refine ⟨by simp, fun p hp => ?_⟩
        simp at hp; subst hp; simp
      · rename_i q qs hq
        rw [hq] at ih
        refine ⟨by simp at ih ⊢; omega, fun p hp => ?_⟩
        rcases List.mem_cons.1 hp with rfl | hp
        · have := ih.2 q (by simp); simp; omega
        · have := ih.2 p (by simp [hp]); simp; omega
theorem Cf.split_bytes (c : UInt8) (l : List UInt8) : Lib.splitB (bs [c]) 0 (Lib.countB (bs l) (bs [c])) (bs l) = (Ts.pieces c l).map bs := by
  refine bs_list ?_
  rw [Lib.splitB_data]
  exact Ts.split_pieces c l
theorem splitN_lib (l : List UInt8) (w : World) (hl : l.length < 4294967281) (hm : MaxIs w) :
    Calls Tryz.prog 66 #[.string (bs l), .string ⟨#[10]⟩] w fun e w' => e = .returned (.slice (some ⟨w.heap.size, 0, none⟩) (Ts.pieces 10 l).length (Ts.pieces 10 l).length) ∧ w' = w.alloc (.cells ((Ts.pieces 10 l).map fun p => Value.string (bs p)).toArray 9) := by
  obtain ⟨m, hm⟩ := hm
  have hn : Lib.countB (bs l) (bs [10]) + 1 = (Ts.pieces 10 l).length := by
    rw [← Lib.splitB_all (bs [10]) (by rw [bs_size]; simp) 0 _ (bs l) rfl, Cf.split_bytes, List.length_map]
  have h := Tryz.strings_Split (bs l) (bs [10]) m w (by rw [bs_size]; exact hl) hm (by rw [bs_size]; simp)
  rw [hn, Cf.split_bytes, List.map_map] at h
  exact h
theorem rdR_results (W : World) (g : Nat) (a b c d : Value) (tmps : Array Value) (hH : Held W g [a, b]) (h2 : tmps[2]?.getD undef = .pointer (some ⟨g, 0, none⟩)) (h3 : tmps[3]?.getD undef = c) (h4 : tmps[4]?.getD undef = d) :
    (results Tryz.f31 tmps).run Tryz.prog W = .ok (.tuple #[.agg #[a, b], c, d]) W := by
  have c0 := hH.cell (i := 0) rfl
  have c1 := hH.cell (i := 1) rfl
  simp [results, Tryz.results31, go_sem, h2, h3, h4, c0, c1]
theorem RdM.rules {N : Nat} {w : World} {g : Nat} {LA A : Option Addr} {lc cap : Nat} {L : List (List UInt8)} {k : Nat} {R : List Rm} {f : List UInt8} (h : RdM N w g LA lc L k (.slice A R.length cap) R f) : RsR w A cap R :=
  ⟨own_of_cells (enc := Rm.cells) (fun _ => rfl) h.row rfl, h.each⟩
theorem Cf.body_le {L : List (List UInt8)} : ∀ (n k : Nat) (rs : List Ru), k ≤ L.length → (Cf.bodyR L n k rs).2.1 ≤ L.length
  | 0, k, rs, h => h
  | n + 1, k, rs, h => by
    have hq : (Pg.cut (L.getD k [])).1 ≠ [] → k < L.length := fun h => by
      refine Decidable.byContradiction fun hn => ?_
      rw [Cf.getD_no hn] at h
      exact h rfl
    by_cases h1 : (Pg.cut (L.getD k [])).1 = Cf.wRule
    · rw [Cf.body_rule h1]
      have hl := Cf.rule_le (hq (by rw [h1]; decide))
      split
      · exact Cf.body_le n _ _ hl.2.1
      · exact hl.2.1
    by_cases h2 : (Pg.cut (L.getD k [])).1 = Cf.wEnd
    · rw [Cf.body_end h2]
      have := hq (by rw [h2]; decide)
      split
      · exact this
      · exact h
    · rw [Cf.body_no h1 h2]; exact h
theorem Cf.lines_le (L : List (List UInt8)) : (Cf.linesR L).2.1 ≤ L.length := by
  unfold Cf.linesR
  refine Cf.body_le _ _ _ ?_
  unfold Cf.fmtR
  split
  · rename_i h
    refine Decidable.byContradiction fun hn => ?_
    rw [Cf.getD_no (by omega)] at h
    cases h.1
  · exact Nat.zero_le _
theorem RdM.rules_turn {N p : Nat} {w w' : World} {g : Nat} {LA A : Option Addr} {lc cap : Nat} {L : List (List UInt8)} {k : Nat} {R : List Rm} {f : List UInt8} (h : RdM N w g LA lc L k (.slice A R.length cap) R f) (ht : Turn (fun i => i = p) w w') (hp : p < g) : RsR w' A cap R :=
  ⟨slrTurn h.rules.row ht (fun ad ha e => by subst ha; have := (World.ownsRow.lt h.row ad.block rfl).1; omega), fun m hm => (h.each m hm).turn ht (fun ad ha e => by have := (h.eachA m hm ad ha).1; omega)⟩
theorem Cf.fmt_len {L : List (List UInt8)} (h : LsOk L) : (Cf.fmtR L).1.length ≤ 4096 := by
  unfold Cf.fmtR
  split
  · rename_i hc
    have hk : 0 < L.length := by
      refine Decidable.byContradiction fun hn => ?_
      rw [Cf.getD_no (by omega)] at hc
      cases hc.1
    have := (Pg.cut_le (L.getD 0 [])).2
    have h2 : (L.getD 0 []).length ≤ 4096 := by rw [Cf.getD_at hk]; exact h.2 _ (List.getElem_mem hk)
    simp only
    omega
  · simp
/-- What conf.Read gives. -/
def ReadOut (t : List UInt8) (w : World) (e : Ending) (w' : World) : Prop :=
  ∃ A cap R, e = .returned (.tuple #[.agg #[.slice A R.length cap, .string (bs (Cf.read t).1.f)], .int .i64 ((Cf.read t).2.1 : Nat), .int .i64 ((Cf.read t).2.2 : Nat)]) ∧ Below w.heap.size w w' ∧ RsR w' A cap R ∧ (Cf.read t).1.rs = R.map Rm.r
theorem RsR.none (w : World) : RsR w none 0 [] := ⟨SlR.nil w 10, by simp⟩
set_option maxHeartbeats 4000000 in
set_option maxRecDepth 100000 in
theorem cfRead_any (t : List UInt8) (w : World) (ht : t.length ≤ 140737488355328) (hm : MaxIs w) : Calls Tryz.prog 31 #[.string (bs t)] w (ReadOut t w) := by
  have hp0 := Held.made w [.slice none 0 0, .string ⟨#[]⟩] 54
  have hb0 := Below.alloc' (Below.self w) (.cells #[.slice none 0 0, .string ⟨#[]⟩] 54)
  have hs0 : (w.alloc (.cells #[.slice none 0 0, .string ⟨#[]⟩] 54)).heap.size = w.heap.size + 1 := by simp
  by_cases hlong : 4096 < t.length
  · have HR : Stow (Cf.read t = (⟨[], []⟩, 0, 6)) := ⟨by unfold Cf.read; rw [if_pos hlong]⟩
    have hli : (4096 : Int) < t.length := by omega
    have f0 := hp0.free 0
    have f1 := hp0.free 1
    have HP := Stow.mk hp0
    have HB := Stow.mk hb0
    clear hp0 hb0 hs0
    go_enter Tryz.func31, Tryz.ntmps31
    go_wp2_with fail
    refine bodyPost_ret (rdR_results _ w.heap.size _ _ _ _ _ HP.out rfl rfl rfl) rfl ?_
    exact ⟨none, 0, [], by rw [HR.out]; rfl, HB.out, RsR.none _, by rw [HR.out]; rfl⟩
  · have hli : ¬ (4096 : Int) < t.length := by omega
    obtain ⟨W0, hW0⟩ : ∃ W, w.alloc (.cells #[.slice none 0 0, .string ⟨#[]⟩] 54) = W := ⟨_, rfl⟩
    rw [show w.alloc (.cells [.slice none 0 0, .string ⟨#[]⟩].toArray 54) = W0 from hW0] at hp0
    rw [hW0] at hb0 hs0
    have hplen := Cf.pieces_len 10 t
    have hpne := Ts.pieces_ne (c := 10) t
    have HSP := splitN_lib t W0 (by omega) (hm.keep hb0)
    have hRD : Cf.read t = if (Cf.linesR (Ts.pieces 10 t).dropLast).2.2 = false ∨ (Ts.pieces 10 t).getLastD [] ≠ [] then (⟨[], []⟩, (Cf.linesR (Ts.pieces 10 t).dropLast).2.1 + 1, 3)
        else if Cf.check ⟨(Cf.linesR (Ts.pieces 10 t).dropLast).1, (Cf.fmtR (Ts.pieces 10 t).dropLast).1⟩ ≠ 0 then (⟨[], []⟩, 0, Cf.check ⟨(Cf.linesR (Ts.pieces 10 t).dropLast).1, (Cf.fmtR (Ts.pieces 10 t).dropLast).1⟩)
        else (⟨(Cf.linesR (Ts.pieces 10 t).dropLast).1, (Cf.fmtR (Ts.pieces 10 t).dropLast).1⟩, 0, 0) := by
      unfold Cf.read
      rw [if_neg hlong]
    obtain ⟨P, hP⟩ : ∃ P, Ts.pieces 10 t = P := ⟨_, rfl⟩
    rw [hP] at HSP hplen hpne hRD
    obtain ⟨m, hm1⟩ : ∃ m, P.length = m + 1 := ⟨P.length - 1, by have := List.length_pos_iff.2 hpne; omega⟩
    obtain ⟨rd, hrd⟩ : ∃ r, Cf.read t = r := ⟨_, rfl⟩
    unfold ReadOut
    rw [hrd] at hRD ⊢
    obtain ⟨L, hL⟩ : ∃ L, P.dropLast = L := ⟨_, rfl⟩
    have hLl : L.length = m := by rw [← hL, List.length_dropLast, hm1]; rfl
    have hLok : LsOk L := ⟨by omega, fun l hl => by
      rw [← hL] at hl
      have := hplen.2 l (List.dropLast_subset P hl)
      omega⟩
    obtain ⟨q, hq⟩ : ∃ q, P.getLastD [] = q := ⟨_, rfl⟩
    have hqm : P[m]? = some q := by
      have e : P.getLast? = P[P.length - 1]? := List.getLast?_eq_getElem?
      rw [hm1, Nat.add_sub_cancel] at e
      rw [← hq, List.getLastD_eq_getLast?, e, List.getElem?_eq_getElem (by omega)]
      rfl
    rw [hL, hq] at hRD
    have hrow := World.ownsRow_lit (base := W0.heap.size) (e := 9) (size := 1) W0 (P.map fun p => Value.string (bs p)).toArray P.length (Nat.le_refl _) (by unfold maxLen; omega) (by simp)
    have hsl0 := slr_own_text (X := P) (n := P.length) (by have h := hrow; rw [List.toList_toArray] at h; exact h) rfl
    rw [hm1] at HSP hsl0
    have hsl := hsl0.take m (by rw [List.length_map]; omega)
    rw [← List.map_take, show P.take m = L by rw [← hL, List.dropLast_eq_take, hm1]; rfl] at hsl
    have HSP' := Stow.mk HSP
    have HX := Stow.mk hW0
    have HP0 := Stow.mk hp0
    have HB0 := Stow.mk hb0
    have HRD := Stow.mk hRD
    have HM := Stow.mk hm
    have HSL0 := Stow.mk hsl0
    have HSL := Stow.mk hsl
    have HQM := Stow.mk hqm
    have HPM := Stow.mk hm1
    have HLL := Stow.mk hLl
    have HLOK := Stow.mk hLok
    have HS0 := Stow.mk hs0
    have hmb : m ≤ 4096 := by omega
    have w0 : IntKind.i64.wrap (m : Int) = (m : Int) := IntWalk.i64_in _ (by omega)
    have hm0 : (0 : Int) ≤ m := by omega
    clear hs0 HSP hW0 hp0 hb0 hRD hm hsl0 hsl hqm hrow hq hL hP hpne hplen hrd hLok hm1
    go_enter Tryz.func31, Tryz.ntmps31
    go_upto_region 1 with fail
    rw [HX.out]
    go_wp2_with fail
    refine HSP'.out.mono ?_
    rintro e w1 ⟨rfl, hw1⟩
    have HB1 : Stow (Below W0.heap.size W0 w1) := ⟨by rw [hw1]; exact Below.alloc' (Below.self W0) _⟩
    have HS1 : Stow (w1.heap.size = W0.heap.size + 1) := ⟨by rw [hw1]; simp⟩
    rw [← hw1] at HSL HSL0
    clear hw1 HSP'
    go_upto_region 5 with fail
    have hr2 := Held.made w1 [.slice (some ⟨W0.heap.size, 0, none⟩) m (m + 1), .int .i64 0, .slice none 0 0, .string ⟨#[]⟩] 112
    have hb2 := Below.alloc' (Below.self w1) (.cells #[.slice (some ⟨W0.heap.size, 0, none⟩) m (m + 1), .int .i64 0, .slice none 0 0, .string ⟨#[]⟩] 112)
    have hs2 : (w1.alloc (.cells #[.slice (some ⟨W0.heap.size, 0, none⟩) m (m + 1), .int .i64 0, .slice none 0 0, .string ⟨#[]⟩] 112)).heap.size = w1.heap.size + 1 := by simp
    obtain ⟨W2, hW2⟩ : ∃ W, w1.alloc (.cells #[.slice (some ⟨W0.heap.size, 0, none⟩) m (m + 1), .int .i64 0, .slice none 0 0, .string ⟨#[]⟩] 112) = W := ⟨_, rfl⟩
    rw [show w1.alloc (.cells [.slice (some ⟨W0.heap.size, 0, none⟩) m (m + 1), .int .i64 0, .slice none 0 0, .string ⟨#[]⟩].toArray 112) = W2 from hW2] at hr2
    rw [hW2] at hb2 hs2 ⊢
    have hgs : w1.heap.size = w.heap.size + 2 := by rw [HS1.out, HS0.out]
    have hRd : RdM W2.heap.size W2 w1.heap.size (some ⟨W0.heap.size, 0, none⟩) (m + 1) L 0 (.slice none 0 0) [] [] := ⟨by rw [hLl]; exact hr2, by rw [hLl]; exact HSL.out.keep hb2, World.ownsRow_nil _ _ _ _, by simp, (fun ad ha => by cases ha; show W0.heap.size < w1.heap.size; have := HS1.out; omega), by simp, (fun i hi => by cases hi), by omega, Nat.le_refl _⟩
    have hBW2 : Below w.heap.size w W2 := Below.call (Below.call HB0.out (HB1.out.mono (by have := HS0.out; omega))) hb2
    have HRC := Stow.mk (rdRead_any hRd HLOK.out (HM.out.keep hBW2) (by omega))
    have HPW2 : Stow (Held W2 w.heap.size [.slice none 0 0, .string ⟨#[]⟩]) := ⟨(HP0.out.kept HB1.out).kept hb2⟩
    have HBW2 := Stow.mk hBW2
    have hqc : W2.cell? ⟨W0.heap.size, m, none⟩ = some (.string (bs q)) := by
      obtain ⟨b, off, hA, hlt, hc⟩ := HSL0.out.open (by rw [List.length_map, HPM.out]; omega)
      simp only [Option.some.injEq, Addr.mk.injEq] at hA
      obtain ⟨rfl, rfl, _⟩ := hA
      have h := hc m [Value.string (bs q)] (by rw [List.getElem?_map, HQM.out]; rfl) 0 _ rfl
      rw [hb2.cell (p := ⟨W0.heap.size, m, none⟩) hlt]
      simpa using h
    have HQC := Stow.mk hqc
    have HGS := Stow.mk hgs
    have hkb := Cf.lines_le L
    rw [hLl] at hkb
    have hfl := Cf.fmt_len HLOK.out
    obtain ⟨O, hO⟩ : ∃ O, Cf.linesR L = O := ⟨_, rfl⟩
    obtain ⟨F, hF⟩ : ∃ F, Cf.fmtR L = F := ⟨_, rfl⟩
    rw [hO] at hkb
    rw [hF] at hfl
    rw [hO, hF] at HRC HRD
    obtain ⟨rs, k, ok⟩ := O
    obtain ⟨f, kf⟩ := F
    simp only at HRC HRD hkb hfl
    clear hr2 hb2 hs2 hW2 hgs hRd hBW2 hqc hO hF HSL HSL0 HQM HPM HX HP0 HB0 HB1 HS1
    go_wp2_with fail
    refine HRC.out.mono ?_
    rintro e w3 ⟨rfl, hb3, vr3, R3, hr3, hm3⟩
    have HB3 : Stow (Below w.heap.size w w3) := ⟨HBW2.out.trans (hb3.mono (by have := HGS.out; omega))⟩
    have HP3 : Stow (Held w3 w.heap.size [.slice none 0 0, .string ⟨#[]⟩]) := ⟨HPW2.out.turn (Turn.of_below' hb3) (by have := HGS.out; omega)⟩
    have HQ3 : Stow (w3.cell? ⟨W0.heap.size, m, none⟩ = some (.string (bs q))) := ⟨by rw [hb3.cell (p := ⟨W0.heap.size, m, none⟩) (by show W0.heap.size < w1.heap.size; have := HGS.out; have := HS0.out; omega)]; exact HQC.out⟩
    have HR3 := Stow.mk hr3
    have HM3 := Stow.mk hm3
    clear hb3 hr3 hm3 HRC HBW2 HPW2 HQC
    have c1 := HR3.out.hd.cell (i := 1) rfl
    have c2 := HR3.out.hd.cell (i := 2) rfl
    have c3 := HR3.out.hd.cell (i := 3) rfl
    have p0 := HP3.out.cell (i := 0) rfl
    have p1 := HP3.out.cell (i := 1) rfl
    have f0 := HP3.out.free 0
    have f1 := HP3.out.free 1
    cases ok with
    | false =>
      have HRE : Stow (rd = (⟨[], []⟩, k + 1, 3)) := ⟨by rw [HRD.out, if_pos (.inl rfl)]⟩
      have hk1 : (k : Int) + 1 ≤ 9223372036854775807 := by omega
      have hne : w1.heap.size ≠ w.heap.size := by have := HGS.out; omega
      have cz : ((w3.setCell ⟨w.heap.size, 0, none⟩ (.slice none 0 0)).setCell ⟨w.heap.size, 1, none⟩ (.string ⟨#[]⟩)).cell? ⟨w1.heap.size, 1, none⟩ = some (.int .i64 (k : Int)) := ((HR3.out.hd.offO (Only.set w.heap.size w3 0 (.slice none 0 0)) hne).offO (Only.set w.heap.size _ 1 (.string ⟨#[]⟩)) hne).cell (i := 1) rfl
      go_upto_region 6 with fail
      go_region
      all_goals
        go_wp2_with fail
        refine bodyPost_ret (rdR_results _ w.heap.size _ _ _ _ _ (by first | exact HP3.out | exact (HP3.out.set 0 (.slice none 0 0)).set 1 (.string ⟨#[]⟩)) rfl rfl rfl) rfl ?_
        refine ⟨none, 0, [], by rw [HRE.out]; rfl, by first | exact HB3.out | exact Below.drew ((HB3.out.setCell (p := ⟨w.heap.size, 0, none⟩) (Nat.le_refl _) _).setCell (p := ⟨w.heap.size, 1, none⟩) (Nat.le_refl _) _), RsR.none _, by rw [HRE.out]; rfl⟩
    | true =>
      rcases q with _ | ⟨qc, qt⟩
      · have HRE : Stow (rd = if Cf.check ⟨rs, f⟩ ≠ 0 then (⟨[], []⟩, 0, Cf.check ⟨rs, f⟩) else (⟨rs, f⟩, 0, 0)) := ⟨by rw [HRD.out, if_neg (by simp)]⟩
        obtain ⟨A, cap, rfl⟩ := own_form HR3.out.row
        have HCK := Stow.mk (cfCheck_any ⟨rs, f⟩ A cap R3 w3 HR3.out.rules HM3.out.symm (by simp only; omega))
        obtain ⟨er, her⟩ : ∃ e, Cf.check ⟨rs, f⟩ = e := ⟨_, rfl⟩
        rw [her] at HCK HRE
        simp only at HCK
        have hq3 := HQ3.out
        clear her
        by_cases h0 : er = 0
        · subst h0
          have HRE2 : Stow (rd = (⟨rs, f⟩, 0, 0)) := ⟨by rw [HRE.out, if_neg (by simp)]⟩
          go_wp2_with fail
          refine HCK.out.mono ?_
          rintro e w4 ⟨rfl, hb4⟩
          have HR4 := Stow.mk (HR3.out.keep hb4)
          have HP4 := Stow.mk (HP3.out.kept hb4)
          have HB4 : Stow (Below w.heap.size w w4) := ⟨Below.call HB3.out hb4⟩
          clear hb4 c1 c2 c3 p0 p1 f0 f1 hq3
          have c2 := HR4.out.hd.cell (i := 2) rfl
          have c3 := HR4.out.hd.cell (i := 3) rfl
          have p0 := HP4.out.cell (i := 0) rfl
          have p1 := HP4.out.cell (i := 1) rfl
          have f0 := HP4.out.free 0
          have f1 := HP4.out.free 1
          go_wp2_with fail
          refine bodyPost_ret (rdR_results _ w.heap.size _ _ _ _ _ ((HP4.out.set 0 (.slice A R3.length cap)).set 1 (.string (bs f))) rfl rfl rfl) rfl ?_
          refine ⟨A, cap, R3, by rw [HRE2.out]; rfl, (HB4.out.setCell (p := ⟨w.heap.size, 0, none⟩) (Nat.le_refl _) _).setCell (p := ⟨w.heap.size, 1, none⟩) (Nat.le_refl _) _, ?_, by rw [HRE2.out]; exact HM3.out.symm⟩
          exact HR4.out.rules_turn (p := w.heap.size) ((Turn.setC w4 w.heap.size 0 _).trans (Turn.setC _ w.heap.size 1 _) (fun i hi => .inl hi)) (by have := HGS.out; omega)
        · have HRE2 : Stow (rd = (⟨[], []⟩, 0, er)) := ⟨by rw [HRE.out, if_pos h0]⟩
          have hez : ((er : Int) == 0) = false := by simp; omega
          have hez2 : ((er : Int) != 0) = true := by simp; omega
          go_wp2_with fail
          refine HCK.out.mono ?_
          rintro e w4 ⟨rfl, hb4⟩
          have HP4 := Stow.mk (HP3.out.kept hb4)
          have HB4 : Stow (Below w.heap.size w w4) := ⟨Below.call HB3.out hb4⟩
          clear hb4 c1 c2 c3 p0 p1 f0 f1 hq3
          have p0 := HP4.out.cell (i := 0) rfl
          have p1 := HP4.out.cell (i := 1) rfl
          have f0 := HP4.out.free 0
          have f1 := HP4.out.free 1
          go_wp2_with fail
          refine bodyPost_ret (rdR_results _ w.heap.size _ _ _ _ _ (by first | exact HP4.out | exact (HP4.out.set 0 (.slice none 0 0)).set 1 (.string ⟨#[]⟩)) rfl rfl rfl) rfl ?_
          exact ⟨none, 0, [], by rw [HRE2.out]; rfl, by first | exact HB4.out | exact ((HB4.out.setCell (p := ⟨w.heap.size, 0, none⟩) (Nat.le_refl _) _).setCell (p := ⟨w.heap.size, 1, none⟩) (Nat.le_refl _) _), RsR.none _, by rw [HRE2.out]; rfl⟩
      · have HRE : Stow (rd = (⟨[], []⟩, k + 1, 3)) := ⟨by rw [HRD.out, if_pos (.inr (by simp))]⟩
        have hq3 := HQ3.out
        have hk1 : (k : Int) + 1 ≤ 9223372036854775807 := by omega
        have hne : w1.heap.size ≠ w.heap.size := by have := HGS.out; omega
        have cz : ((w3.setCell ⟨w.heap.size, 0, none⟩ (.slice none 0 0)).setCell ⟨w.heap.size, 1, none⟩ (.string ⟨#[]⟩)).cell? ⟨w1.heap.size, 1, none⟩ = some (.int .i64 (k : Int)) := ((HR3.out.hd.offO (Only.set w.heap.size w3 0 (.slice none 0 0)) hne).offO (Only.set w.heap.size _ 1 (.string ⟨#[]⟩)) hne).cell (i := 1) rfl
        go_upto_region 6 with fail
        go_region
        all_goals
          go_wp2_with fail
          refine bodyPost_ret (rdR_results _ w.heap.size _ _ _ _ _ (by first | exact HP3.out | exact (HP3.out.set 0 (.slice none 0 0)).set 1 (.string ⟨#[]⟩)) rfl rfl rfl) rfl ?_
          refine ⟨none, 0, [], by rw [HRE.out]; rfl, by first | exact HB3.out | exact Below.drew ((HB3.out.setCell (p := ⟨w.heap.size, 0, none⟩) (Nat.le_refl _) _).setCell (p := ⟨w.heap.size, 1, none⟩) (Nat.le_refl _) _), RsR.none _, by rw [HRE.out]; rfl⟩
end Go.Proofs.YtfbhdkkmcfnghaaGreatDoor
