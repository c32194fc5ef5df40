/- Walk of the config reader's option. Conditions: the reader's memory, the rule's memory; what a variable of the library's holds. -/
import Derived.Test.YtfbhdkkmcfnghaaGreatDoorCfRdPred
namespace Go.Proofs.YtfbhdkkmcfnghaaGreatDoor
open Go.RowKit
set_option linter.unusedVariables false
set_option linter.unusedSimpArgs false

theorem XuM.turned {w w' : World} {bx : Nat} {x x' : Ru} {vp : Value} (h : XuM w bx x vp) (ht : Turn (fun k => k = bx) w w') (hd : Held w' bx (x'.cs vp)) (hps : x'.ps = x.ps) (htg : x'.tg.length ≤ 4096) (hmi : x'.mi.length ≤ 4096) : XuM w' bx x' vp := by
  have hr := own_turn h.row ht (fun i hi e => by have := (World.ownsRow.lt h.row i hi).1; omega)
  refine ⟨hd, by rw [hps]; exact hr, by rw [hps]; exact h.fits, htg, hmi, hd.lt⟩
namespace Cf
def setA (x : Ru) : Option (Nat × Nat) → Ru
  | some (n, m) => { x with ap := n, st := m }
  | none => x
def setD (x : Ru) : Option (Nat × Nat) → Ru
  | some (n, m) => { x with dp := n, dt := m }
  | none => x
def setM (x : Ru) (b : List UInt8) : Bool → Ru
  | true => { x with mp := (numN (Pg.cut b).1 : Nat), mi := (Pg.cut b).2 }
  | false => x
theorem opt_1 {x : Ru} {l : List UInt8} (h : (Pg.cut l).1 = wAbort) : opt x l = (1, (pair (Pg.cut l).2).isSome, setA x (pair (Pg.cut l).2)) := by
  unfold opt
  simp only
  rw [if_pos h]
  rcases pair (Pg.cut l).2 with _ | ⟨n, m⟩ <;> rfl
theorem opt_2 {x : Ru} {l : List UInt8} (h : (Pg.cut l).1 = wDelay) : opt x l = (2, (pair (Pg.cut l).2).isSome, setD x (pair (Pg.cut l).2)) := by
  unfold opt
  simp only
  rw [if_neg (by rw [h]; decide), if_pos h]
  rcases pair (Pg.cut l).2 with _ | ⟨n, m⟩ <;> rfl
theorem opt_3 {x : Ru} {l : List UInt8} (h : (Pg.cut l).1 = wMirror) : opt x l = (3, (two (Pg.cut l).2).isSome, setM x (Pg.cut l).2 (two (Pg.cut l).2).isSome) := by
  unfold opt
  simp only
  rw [if_neg (by rw [h]; decide), if_neg (by rw [h]; decide), if_pos h]
  cases hh : (two (Pg.cut l).2).isSome with
  | true => rw [two_eq _ hh]; rfl
  | false =>
    cases ht : two (Pg.cut l).2 with
    | none => rfl
    | some p => rw [ht] at hh; cases hh
theorem opt_4 {x : Ru} {l : List UInt8} (h : (Pg.cut l).1 = wSample) : opt x l = (4, (num (Pg.cut l).2).isSome, { x with sm := (numN (Pg.cut l).2 : Nat) }) := by
  unfold opt numN
  simp only
  rw [if_neg (by rw [h]; decide), if_neg (by rw [h]; decide), if_neg (by rw [h]; decide), if_pos h]
  cases num (Pg.cut l).2 <;> rfl
theorem opt_0 {x : Ru} {l : List UInt8} (h1 : (Pg.cut l).1 ≠ wAbort) (h2 : (Pg.cut l).1 ≠ wDelay) (h3 : (Pg.cut l).1 ≠ wMirror) (h4 : (Pg.cut l).1 ≠ wSample) : opt x l = (0, false, x) := by
  unfold opt
  simp only
  rw [if_neg h1, if_neg h2, if_neg h3, if_neg h4]
theorem setA_cs (x : Ru) (vp : Value) (p : Option (Nat × Nat)) : setTwo (x.cs vp) 3 p = (setA x p).cs vp ∧ (setA x p).ps = x.ps ∧ (setA x p).tg = x.tg ∧ (setA x p).mi = x.mi := by
  rcases p with _ | ⟨n, m⟩ <;> exact ⟨rfl, rfl, rfl, rfl⟩
theorem setD_cs (x : Ru) (vp : Value) (p : Option (Nat × Nat)) : setTwo (x.cs vp) 5 p = (setD x p).cs vp ∧ (setD x p).ps = x.ps ∧ (setD x p).tg = x.tg ∧ (setD x p).mi = x.mi := by
  rcases p with _ | ⟨n, m⟩ <;> exact ⟨rfl, rfl, rfl, rfl⟩
end Cf
set_option maxHeartbeats 4000000 in
set_option maxRecDepth 100000 in
theorem rdOpt_any {N : Nat} {w : World} {g : Nat} {LA : Option Addr} {lc : Nat} {L : List (List UInt8)} {k : Nat} {vr : Value} {R : List Rm} {f : List UInt8} {bx : Nat} {x : Ru} {vp : Value} (h : RdM N w g LA lc L k vr R f) (hx : XuM w bx x vp) (hN : N ≤ bx) (hL : LsOk L) (hm : MaxIs w) :
    Calls Tryz.prog 165 #[.pointer (some ⟨g, 0, none⟩), .pointer (some ⟨bx, 0, none⟩)] w fun e w' => e = .returned (.tuple #[.int .i64 ((Cf.opt x (L.getD k [])).1 : Nat), .bool (Cf.opt x (L.getD k [])).2.1]) ∧ Below bx w w' ∧ XuM w' bx (Cf.opt x (L.getD k [])).2.2 vp := by
  have HWD := Stow.mk (rdWord_any h hL hm)
  have hlen : (L.getD k []).length ≤ 4096 := by
    by_cases hk : k < L.length
    · rw [Cf.getD_at hk]; exact hL.2 _ (List.getElem_mem hk)
    · rw [Cf.getD_no hk]; simp
  obtain ⟨l, hl⟩ : ∃ l, L.getD k [] = l := ⟨_, rfl⟩
  rw [hl] at HWD hlen ⊢
  have hcl := Pg.cut_le l
  have h1 := Cf.opt_1 (x := x) (l := l)
  have h2 := Cf.opt_2 (x := x) (l := l)
  have h3 := Cf.opt_3 (x := x) (l := l)
  have h4 := Cf.opt_4 (x := x) (l := l)
  have h0 := Cf.opt_0 (x := x) (l := l)
  obtain ⟨o, ho⟩ : ∃ o, Cf.opt x l = o := ⟨_, rfl⟩
  obtain ⟨a, ha⟩ : ∃ a, (Pg.cut l).1 = a := ⟨_, rfl⟩
  obtain ⟨b, hb⟩ : ∃ b, (Pg.cut l).2 = b := ⟨_, rfl⟩
  rw [ho, ha, hb] at h1 h2 h3 h4
  rw [ho, ha] at h0
  rw [ha, hb] at HWD
  rw [ho]
  have hbl : b.length ≤ 4096 := by rw [← hb]; omega
  have hcb := Pg.cut_le b
  have HX := Stow.mk hx
  have HM := Stow.mk hm
  have hlt := hx.lt
  clear ho ha hb hl hcl hx hm
  by_cases e1 : a = Cf.wAbort
  · have ho := h1 e1
    subst ho
    have g_e1 : (a == [97, 98, 111, 114, 116]) = true := by rw [e1]; rfl
    have HCS := Stow.mk (Cf.setA_cs x vp (Cf.pair b))
    clear h0 h1 h2 h3 h4 e1
    go_enter Tryz.func165, Tryz.ntmps165
    go_wp2_with fail
    refine HWD.out.mono ?_
    rintro e w1 ⟨rfl, hb1⟩
    have HX1 := Stow.mk (HX.out.keep hb1)
    have HB1 := Stow.mk hb1
    have HP := Stow.mk (cfPair_any b bx 3 (x.cs vp) w1.drew (HX1.out.hd.kept (Below.drew (Below.self w1))) (by simp [Ru.cs]) hbl (HM.out.keep (hb1.trans ((Below.drew (Below.self w1)).mono hb1.size))))
    clear hb1 HWD
    go_upto_region 4 with fail
    go_region_with (go_at_call 195; refine HP.out.mono ?_; rintro e w2 ⟨rfl, hd2, ht2⟩; have HD2 := Stow.mk hd2; have HT2 := Stow.mk ht2; clear hd2 ht2)
    all_goals
      have hxx := (HX1.out.keep (Below.drew (Below.self w1))).turned HT2.out (by rw [← HCS.out.1]; exact HD2.out) HCS.out.2.1 (by rw [HCS.out.2.2.1]; exact HX1.out.tg) (by rw [HCS.out.2.2.2]; exact HX1.out.mi)
      have HXX := Stow.mk hxx
      have HBB : Stow (Below bx w w2) := ⟨(HB1.out.mono (by omega)).trans (((Below.drew (Below.refl bx w1))).trans (HT2.out.below (fun i hi => by omega) (by have := HB1.out.size; show bx ≤ w1.heap.size; omega)))⟩
      clear hxx
      go_wp2_with fail
      go_ret2
      exact ⟨rfl, HBB.out, HXX.out⟩
  have n_e1 : (a == [97, 98, 111, 114, 116]) = false := by rw [beq_eq_false_iff_ne]; exact e1
  by_cases e2 : a = Cf.wDelay
  · have ho := h2 e2
    subst ho
    have g_e2 : (a == [100, 101, 108, 97, 121]) = true := by rw [e2]; rfl
    have HCS := Stow.mk (Cf.setD_cs x vp (Cf.pair b))
    clear h0 h1 h2 h3 h4 e2
    go_enter Tryz.func165, Tryz.ntmps165
    go_wp2_with fail
    refine HWD.out.mono ?_
    rintro e w1 ⟨rfl, hb1⟩
    have HX1 := Stow.mk (HX.out.keep hb1)
    have HB1 := Stow.mk hb1
    have HP := Stow.mk (cfPair_any b bx 5 (x.cs vp) w1.drew (HX1.out.hd.kept (Below.drew (Below.self w1))) (by simp [Ru.cs]) hbl (HM.out.keep (hb1.trans ((Below.drew (Below.self w1)).mono hb1.size))))
    clear hb1 HWD
    go_upto_region 6 with fail
    go_region_with (go_at_call 195; refine HP.out.mono ?_; rintro e w2 ⟨rfl, hd2, ht2⟩; have HD2 := Stow.mk hd2; have HT2 := Stow.mk ht2; clear hd2 ht2)
    all_goals
      have hxx := (HX1.out.keep (Below.drew (Below.self w1))).turned HT2.out (by rw [← HCS.out.1]; exact HD2.out) HCS.out.2.1 (by rw [HCS.out.2.2.1]; exact HX1.out.tg) (by rw [HCS.out.2.2.2]; exact HX1.out.mi)
      have HXX := Stow.mk hxx
      have HBB : Stow (Below bx w w2) := ⟨(HB1.out.mono (by omega)).trans (((Below.drew (Below.refl bx w1))).trans (HT2.out.below (fun i hi => by omega) (by have := HB1.out.size; show bx ≤ w1.heap.size; omega)))⟩
      clear hxx
      go_wp2_with fail
      go_ret2
      exact ⟨rfl, HBB.out, HXX.out⟩
  have n_e2 : (a == [100, 101, 108, 97, 121]) = false := by rw [beq_eq_false_iff_ne]; exact e2
  by_cases e3 : a = Cf.wMirror
  · have ho := h3 e3
    subst ho
    have g_e3 : (a == [109, 105, 114, 114, 111, 114]) = true := by rw [e3]; rfl
    clear h0 h1 h2 h3 h4 e1 e2 e3
    obtain ⟨tw, htw⟩ : ∃ c, (Cf.two b).isSome = c := ⟨_, rfl⟩
    have HTW := Stow.mk (fun W (hb : Below w.heap.size w W) => cfTwo_any b W hbl (HM.out.keep hb))
    rw [htw] at HTW ⊢
    clear htw
    go_enter Tryz.func165, Tryz.ntmps165
    go_wp2_with fail
    refine HWD.out.mono ?_
    rintro e w1 ⟨rfl, hb1⟩
    have HB1 := Stow.mk hb1
    clear hb1 HWD
    go_wp2_with fail
    refine (HTW.out w1 HB1.out).mono ?_
    rintro e w2 ⟨rfl, hb2⟩
    have HB2 := Stow.mk (Below.call HB1.out hb2)
    have HX2 := Stow.mk (HX.out.keep HB2.out)
    clear hb2
    cases tw with
    | false =>
      go_wp2_with fail
      go_ret2
      exact ⟨rfl, HB2.out.mono (by omega), HX2.out⟩
    | true =>
      have c7 := HX2.out.hd.cell (i := 7) rfl
      have c8 := HX2.out.hd.cell (i := 8) rfl
      have f7 := HX2.out.hd.free 7
      have f8 := HX2.out.hd.free 8
      go_wp2_with fail
      go_ret2
      have hB : Below bx w w2 := HB2.out.mono (by omega)
      refine ⟨rfl, (hB.setCell (p := ⟨bx, 7, none⟩) (Nat.le_refl _) _).setCell (p := ⟨bx, 8, none⟩) (Nat.le_refl _) _, ?_⟩
      exact HX2.out.turned ((Turn.setC w2 bx 7 _).trans (Turn.setC _ bx 8 _) (fun i hi => .inl hi)) ((HX2.out.hd.set 7 _).set 8 _) rfl HX2.out.tg (by show (Pg.cut b).2.length ≤ 4096; omega)
  have n_e3 : (a == [109, 105, 114, 114, 111, 114]) = false := by rw [beq_eq_false_iff_ne]; exact e3
  by_cases e4 : a = Cf.wSample
  · have ho := h4 e4
    subst ho
    have g_e4 : (a == [115, 97, 109, 112, 108, 101]) = true := by rw [e4]; rfl
    clear h0 h1 h2 h3 h4 e1 e2 e3 e4
    have HNB := Stow.mk (fun W => number_any b W (by omega))
    obtain ⟨ns, hns⟩ : ∃ c, (Cf.num b).isSome = c := ⟨_, rfl⟩
    unfold Cf.numN
    obtain ⟨n, hn⟩ : ∃ n, (Cf.num b).getD 0 = n := ⟨_, rfl⟩
    rw [hns, hn] at HNB ⊢
    clear hns hn
    go_enter Tryz.func165, Tryz.ntmps165
    go_wp2_with fail
    refine HWD.out.mono ?_
    rintro e w1 ⟨rfl, hb1⟩
    have HB1 := Stow.mk hb1
    have HX2 := Stow.mk (HX.out.keep HB1.out)
    clear hb1 HWD
    go_wp2_with fail
    refine (HNB.out w1).mono ?_
    rintro e w2 ⟨rfl, rfl⟩
    have c9 := HX2.out.hd.cell (i := 9) rfl
    have f9 := HX2.out.hd.free 9
    go_wp2_with fail
    go_ret2
    have hB : Below bx w w2 := HB1.out.mono (by omega)
    refine ⟨rfl, hB.setCell (p := ⟨bx, 9, none⟩) (Nat.le_refl _) _, ?_⟩
    exact HX2.out.turned (Turn.setC w2 bx 9 _) (HX2.out.hd.set 9 _) rfl HX2.out.tg HX2.out.mi
  have n_e4 : (a == [115, 97, 109, 112, 108, 101]) = false := by rw [beq_eq_false_iff_ne]; exact e4
  have ho := h0 e1 e2 e3 e4
  subst ho
  clear h0 h1 h2 h3 h4 e1 e2 e3 e4
  go_enter Tryz.func165, Tryz.ntmps165
  go_wp2_with fail
  refine HWD.out.mono ?_
  rintro e w1 ⟨rfl, hb1⟩
  have HB1 := Stow.mk hb1
  clear hb1 HWD
  go_wp2_with fail
  go_ret2
  exact ⟨rfl, HB1.out.mono (by omega), HX.out.keep HB1.out⟩
end Go.Proofs.YtfbhdkkmcfnghaaGreatDoor
