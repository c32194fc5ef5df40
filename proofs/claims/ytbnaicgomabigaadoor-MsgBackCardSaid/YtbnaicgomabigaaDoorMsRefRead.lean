/- Walks of the reference's Read and ReadBack of texts. Condition: a text that is not too long. -/
import Derived.Test.YtbnaicgomabigaaDoorMsRead
import Derived.Test.YtbnaicgomabigaaDoorPgRefRead
namespace Go.Proofs.YtbnaicgomabigaaDoor
open Go.RowKit
set_option linter.unusedVariables false

theorem rqr_results (W : World) (g : Nat) (a b c d f : Value) (n : Int) (tmps : Array Value) (hH : Held W g [a, b, c, d, f]) (h2 : tmps[2]?.getD undef = .pointer (some ⟨g, 0, none⟩)) (h3 : tmps[3]?.getD undef = .int .i64 n) :
    (results Tryd.f42 tmps).run Tryd.prog W = .ok (.tuple #[.agg #[a, b, c, d, f], .int .i64 n]) W := by
  have c0 := hH.cell (i := 0) rfl
  have c1 := hH.cell (i := 1) rfl
  have c2 := hH.cell (i := 2) rfl
  have c3 := hH.cell (i := 3) rfl
  have c4 := hH.cell (i := 4) rfl
  simp [results, Tryd.results42, go_sem, h2, h3, c0, c1, c2, c3, c4]
theorem rsr_results (W : World) (g : Nat) (a b c : Value) (n : Int) (tmps : Array Value) (hH : Held W g [a, b, c]) (h2 : tmps[2]?.getD undef = .pointer (some ⟨g, 0, none⟩)) (h3 : tmps[3]?.getD undef = .int .i64 n) :
    (results Tryd.f44 tmps).run Tryd.prog W = .ok (.tuple #[.agg #[a, b, c], .int .i64 n]) W := by
  have c0 := hH.cell (i := 0) rfl
  have c1 := hH.cell (i := 1) rfl
  have c2 := hH.cell (i := 2) rfl
  simp [results, Tryd.results44, go_sem, h2, h3, c0, c1, c2]

theorem Ms.getD_len {c : UInt8} {l : List UInt8} : ((Ms.cutAt c l).getD ([], [])).1.length ≤ l.length ∧ ((Ms.cutAt c l).getD ([], [])).2.length ≤ l.length := by
  cases h : Ms.cutAt c l with
  | none => simp
  | some ar =>
    obtain ⟨a, r⟩ := ar
    have := Ms.cutAt_len h
    simp only [Option.getD_some]
    omega


set_option maxHeartbeats 4000000 in
set_option maxRecDepth 100000 in
theorem msRefRead_any (s : List UInt8) (w : World) (hs : s.length < 2147483647) : Calls Tryd.prog 42 #[.string (bs s)] w (RqOf w (Ms.read s)) := by
  have HX : Stow (∀ W, Below (w.alloc (.cells #[.string ⟨#[]⟩, .string ⟨#[]⟩, .string ⟨#[]⟩, .slice none 0 0, .string ⟨#[]⟩] 58)).heap.size (w.alloc (.cells #[.string ⟨#[]⟩, .string ⟨#[]⟩, .string ⟨#[]⟩, .slice none 0 0, .string ⟨#[]⟩] 58)) W → Held W w.heap.size [.string ⟨#[]⟩, .string ⟨#[]⟩, .string ⟨#[]⟩, .slice none 0 0, .string ⟨#[]⟩] ∧ Below w.heap.size w W) := ⟨fun W hb => ⟨(Held.made w [.string ⟨#[]⟩, .string ⟨#[]⟩, .string ⟨#[]⟩, .slice none 0 0, .string ⟨#[]⟩] _).kept hb, Below.call (Below.alloc' (Below.self _) _) hb⟩⟩
  have hR := Ms.refRead_eq s
  unfold Ms.refRead at hR
  have hl1 := Ms.getD_len (c := 10) (l := s)
  have K1 := fun W => refCut1_any 10 s W (by omega)
  obtain ⟨ln, hln⟩ : ∃ x, ((Ms.cutAt 10 s).getD ([], [])).1 = x := ⟨_, rfl⟩
  obtain ⟨bd, hbd⟩ : ∃ x, ((Ms.cutAt 10 s).getD ([], [])).2 = x := ⟨_, rfl⟩
  obtain ⟨x1, hx1⟩ : ∃ x, (Ms.cutAt 10 s).isSome = x := ⟨_, rfl⟩
  rw [hln, hbd] at hl1
  simp only [hln, hbd, hx1] at K1 hR
  have hl2 := Ms.getD_len (c := 32) (l := ln)
  have K2 := fun W => refCut1_any 32 ln W (by omega)
  obtain ⟨m, hmm⟩ : ∃ x, ((Ms.cutAt 32 ln).getD ([], [])).1 = x := ⟨_, rfl⟩
  obtain ⟨mo, hmo⟩ : ∃ x, ((Ms.cutAt 32 ln).getD ([], [])).2 = x := ⟨_, rfl⟩
  obtain ⟨x2, hx2⟩ : ∃ x, (Ms.cutAt 32 ln).isSome = x := ⟨_, rfl⟩
  rw [hmm, hmo] at hl2
  simp only [hmm, hmo, hx2] at K2 hR
  have hl3 := Ms.getD_len (c := 32) (l := mo)
  have K3 := fun W => refCut1_any 32 mo W (by omega)
  obtain ⟨h, hhh⟩ : ∃ x, ((Ms.cutAt 32 mo).getD ([], [])).1 = x := ⟨_, rfl⟩
  obtain ⟨p, hpp⟩ : ∃ x, ((Ms.cutAt 32 mo).getD ([], [])).2 = x := ⟨_, rfl⟩
  obtain ⟨x3, hx3⟩ : ∃ x, (Ms.cutAt 32 mo).isSome = x := ⟨_, rfl⟩
  rw [hhh, hpp] at hl3
  simp only [hhh, hpp, hx3] at K3 hR
  have HK1 := Stow.mk K1
  have HK2 := Stow.mk K2
  have HK3 := Stow.mk K3
  have HR := Stow.mk hR
  obtain ⟨hl11, hl12⟩ := hl1
  obtain ⟨hl21, hl22⟩ := hl2
  obtain ⟨hl31, hl32⟩ := hl3
  clear K1 K2 K3 hR hln hbd hx1 hmm hmo hx2 hhh hpp hx3
  go_enter Tryd.func42, Tryd.ntmps42
  go_wp2_with fail
  refine (HK1.out _).mono ?_
  rintro e w1 ⟨rfl, hb1⟩
  obtain ⟨hH1, hB1⟩ := HX.out w1 hb1
  have HH1 := Stow.mk hH1
  have HB1 := Stow.mk hB1
  clear hb1 hH1 hB1
  go_wp2_with fail
  refine (HK2.out _).mono ?_
  rintro e w2 ⟨rfl, hb2⟩
  have HH2 := Stow.mk (HH1.out.kept hb2)
  have HB2 := Stow.mk (Below.call HB1.out hb2)
  clear hb2
  go_wp2_with fail
  refine (HK3.out _).mono ?_
  rintro e w3 ⟨rfl, hb3⟩
  have HH3 := Stow.mk (HH2.out.kept hb3)
  have HB3 := Stow.mk (Below.call HB2.out hb3)
  have hgl := HH3.out.lt
  clear hb3
  go_wp2_with fail
  refine (msRefHeads_any bd _ (by omega)).mono ?_
  rintro e w4 (⟨hp, rfl, hb4⟩ | ⟨L, b, A, cap, hp, rfl, hrow, hb4⟩)
  · have HRN : Stow (Ms.read s = none) := ⟨by rw [← HR.out, hp]⟩
    have HH4 := Stow.mk (HH3.out.kept hb4)
    have HB4 := Stow.mk (Below.call HB3.out hb4)
    clear hb4 hp
    obtain ⟨cc, hcc⟩ : ∃ c, Ms.check ⟨m, h, p, [], []⟩ = c := ⟨_, rfl⟩
    obtain ⟨tt, htt⟩ : ∃ c, Ms.write ⟨m, h, p, [], []⟩ = c := ⟨_, rfl⟩
    have KW := fun W => msRefWrite_any ⟨m, h, p, [], []⟩ none 0 W ⟨SlR.nil _ _, by simp⟩ ⟨by simp only; omega, by simp only; omega, by simp only; omega, by simp⟩
    rw [hcc, htt] at KW
    have HKW := Stow.mk KW
    clear KW hcc htt
    unfold Rq.val at HKW
    simp only [List.length_nil] at HKW
    go_wp2_with fail
    refine (HKW.out _).mono ?_
    rintro e w5 ⟨rfl, hb5⟩
    have HH5 := Stow.mk ((HH4.out.kept (Below.alloc' (Below.self _) _)).kept hb5)
    have HB5 := Stow.mk (Below.call (Below.alloc' HB4.out _) hb5)
    clear hb5
    have a0 := (Stow.out HH5).cell (i := 0) rfl
    have a1 := (Stow.out HH5).cell (i := 1) rfl
    have a2 := (Stow.out HH5).cell (i := 2) rfl
    have a3 := (Stow.out HH5).cell (i := 3) rfl
    have a4 := (Stow.out HH5).cell (i := 4) rfl
    have f0 := (Stow.out HH5).free 0
    have f1 := (Stow.out HH5).free 1
    have f2 := (Stow.out HH5).free 2
    have f3 := (Stow.out HH5).free 3
    have f4 := (Stow.out HH5).free 4
    go_wp2_with fail
    refine bodyPost_ret (rqr_results _ w.heap.size (.string ⟨#[]⟩) (.string ⟨#[]⟩) (.string ⟨#[]⟩) (.slice none 0 0) (.string ⟨#[]⟩) 3 _ ((((((Stow.out HH5).set 0 _).set 1 _).set 2 _).set 3 _).set 4 _) rfl rfl) rfl ?_
    exact ⟨none, 0, by rw [Stow.out HRN]; rfl, by rw [Stow.out HRN]; exact SlR.nil _ _, below_set5 (Stow.out HB5) (Nat.le_refl _) _ _ _ _ _⟩
  · have HRS : Stow (Ms.read s = if Ms.check ⟨m, h, p, L, b⟩ = 0 ∧ Ms.text ⟨m, h, p, L, b⟩ = s then some ⟨m, h, p, L, b⟩ else none) := ⟨by rw [← HR.out, hp]⟩
    have HH4 := Stow.mk (HH3.out.kept hb4)
    have HB4 := Stow.mk (Below.call HB3.out hb4)
    have hlen := Ms.heads_len hp
    have HROW4 : Stow (HRow w4 (w.heap.size + 1) (.slice A L.length cap) L) := ⟨hrow.base (by omega)⟩
    have HHD : Stow (HdR w4 A cap L) := ⟨⟨hrow.slr, fun x hx => by have := hlen.2 x hx; omega⟩⟩
    obtain ⟨hlb, _⟩ := hlen
    have HQ := rq_box w4 m h p A L.length cap b
    obtain ⟨cc, hcc⟩ : ∃ c, Ms.check ⟨m, h, p, L, b⟩ = c := ⟨_, rfl⟩
    obtain ⟨tt, htt⟩ : ∃ c, Ms.write ⟨m, h, p, L, b⟩ = c := ⟨_, rfl⟩
    have KW := fun W h1 => msRefWrite_any ⟨m, h, p, L, b⟩ A cap W h1 ⟨by simp only; omega, by simp only; omega, by simp only; omega, by simp only; omega⟩
    rw [hcc, htt] at KW
    have HTX : Stow (cc = 0 → Ms.text ⟨m, h, p, L, b⟩ = tt) := ⟨fun e => by rw [← htt]; unfold Ms.write; rw [if_pos (by rw [hcc]; exact e)]⟩
    rw [hcc] at HRS
    have HKW := Stow.mk KW
    clear KW hcc htt hb4 hp hrow
    unfold Rq.val at HKW
    simp only at HKW
    go_wp2_with fail
    refine (HKW.out _ (HHD.out.alloc _)).mono ?_
    rintro e w5 ⟨rfl, hb5⟩
    obtain ⟨hQ5, hB5⟩ := HQ.out w5 hb5
    have HH5 := Stow.mk (HH4.out.kept hB5)
    have HB5 := Stow.mk (Below.call HB4.out hB5)
    have HROW5 := Stow.mk (HROW4.out.kept hB5)
    clear hb5 hB5
    by_cases hc0 : cc = 0
    rotate_left
    · have hci : ((cc : Int) != 0) = true := by rw [bne_iff_ne]; omega
      have HRN : Stow (Ms.read s = none) := ⟨by rw [HRS.out, if_neg (fun h => hc0 h.1)]⟩
      clear hQ5
      have a0 := (Stow.out HH5).cell (i := 0) rfl
      have a1 := (Stow.out HH5).cell (i := 1) rfl
      have a2 := (Stow.out HH5).cell (i := 2) rfl
      have a3 := (Stow.out HH5).cell (i := 3) rfl
      have a4 := (Stow.out HH5).cell (i := 4) rfl
      have f0 := (Stow.out HH5).free 0
      have f1 := (Stow.out HH5).free 1
      have f2 := (Stow.out HH5).free 2
      have f3 := (Stow.out HH5).free 3
      have f4 := (Stow.out HH5).free 4
      go_wp2_with fail
      refine bodyPost_ret (rqr_results _ w.heap.size (.string ⟨#[]⟩) (.string ⟨#[]⟩) (.string ⟨#[]⟩) (.slice none 0 0) (.string ⟨#[]⟩) 3 _ ((((((Stow.out HH5).set 0 _).set 1 _).set 2 _).set 3 _).set 4 _) rfl rfl) rfl ?_
      exact ⟨none, 0, by rw [Stow.out HRN]; rfl, by rw [Stow.out HRN]; exact SlR.nil _ _, below_set5 (Stow.out HB5) (Nat.le_refl _) _ _ _ _ _⟩
    have hci : ((cc : Int) != 0) = false := by rw [hc0]; rfl
    by_cases ht : tt = s
    rotate_left
    · have hti : (tt == s) = false := by rw [beq_eq_false_iff_ne]; exact ht
      have HRN : Stow (Ms.read s = none) := ⟨by rw [HRS.out, if_neg (fun h => ht (by rw [← HTX.out hc0]; exact h.2))]⟩
      clear hQ5 ht hc0
      have a0 := (Stow.out HH5).cell (i := 0) rfl
      have a1 := (Stow.out HH5).cell (i := 1) rfl
      have a2 := (Stow.out HH5).cell (i := 2) rfl
      have a3 := (Stow.out HH5).cell (i := 3) rfl
      have a4 := (Stow.out HH5).cell (i := 4) rfl
      have f0 := (Stow.out HH5).free 0
      have f1 := (Stow.out HH5).free 1
      have f2 := (Stow.out HH5).free 2
      have f3 := (Stow.out HH5).free 3
      have f4 := (Stow.out HH5).free 4
      go_wp2_with fail
      refine bodyPost_ret (rqr_results _ w.heap.size (.string ⟨#[]⟩) (.string ⟨#[]⟩) (.string ⟨#[]⟩) (.slice none 0 0) (.string ⟨#[]⟩) 3 _ ((((((Stow.out HH5).set 0 _).set 1 _).set 2 _).set 3 _).set 4 _) rfl rfl) rfl ?_
      exact ⟨none, 0, by rw [Stow.out HRN]; rfl, by rw [Stow.out HRN]; exact SlR.nil _ _, below_set5 (Stow.out HB5) (Nat.le_refl _) _ _ _ _ _⟩
    have hti : (tt == s) = true := by rw [beq_iff_eq]; exact ht
    have HRG : Stow (Ms.read s = some ⟨m, h, p, L, b⟩) := ⟨by rw [HRS.out, if_pos ⟨hc0, by rw [HTX.out hc0]; exact ht⟩]⟩
    have q0 := hQ5.cell (i := 0) rfl
    have q1 := hQ5.cell (i := 1) rfl
    have q2 := hQ5.cell (i := 2) rfl
    have q3 := hQ5.cell (i := 3) rfl
    have q4 := hQ5.cell (i := 4) rfl
    clear hQ5 ht hc0
    have a0 := (Stow.out HH5).cell (i := 0) rfl
    have a1 := (Stow.out HH5).cell (i := 1) rfl
    have a2 := (Stow.out HH5).cell (i := 2) rfl
    have a3 := (Stow.out HH5).cell (i := 3) rfl
    have a4 := (Stow.out HH5).cell (i := 4) rfl
    have f0 := (Stow.out HH5).free 0
    have f1 := (Stow.out HH5).free 1
    have f2 := (Stow.out HH5).free 2
    have f3 := (Stow.out HH5).free 3
    have f4 := (Stow.out HH5).free 4
    go_wp2_with fail
    refine bodyPost_ret (rqr_results _ w.heap.size (.string (bs m)) (.string (bs h)) (.string (bs p)) (.slice A L.length cap) (.string (bs b)) 0 _ (((((HH5.out.set 0 _).set 1 _).set 2 _).set 3 _).set 4 _) rfl rfl) rfl ?_
    exact ⟨A, cap, by rw [HRG.out]; rfl, by rw [HRG.out]; exact (HROW5.out.only (only_set5 _ _ _ _ _) (by omega)).slr, below_set5 HB5.out (Nat.le_refl _) _ _ _ _ _⟩


set_option maxHeartbeats 4000000 in
set_option maxRecDepth 100000 in
theorem msRefReadBack_any (s : List UInt8) (w : World) (hs : s.length < 2147483647) : Calls Tryd.prog 44 #[.string (bs s)] w (RsOf w (Ms.readBack s)) := by
  have HX : Stow (∀ W, Below (w.alloc (.cells #[.int .i64 0, .slice none 0 0, .string ⟨#[]⟩] 63)).heap.size (w.alloc (.cells #[.int .i64 0, .slice none 0 0, .string ⟨#[]⟩] 63)) W → Held W w.heap.size [.int .i64 0, .slice none 0 0, .string ⟨#[]⟩] ∧ Below w.heap.size w W) := ⟨fun W hb => ⟨(Held.made w [.int .i64 0, .slice none 0 0, .string ⟨#[]⟩] _).kept hb, Below.call (Below.alloc' (Below.self _) _) hb⟩⟩
  have hR := Ms.refReadBack_eq s
  unfold Ms.refReadBack at hR
  have hl1 := Ms.getD_len (c := 10) (l := s)
  have K1 := fun W => refCut1_any 10 s W (by omega)
  obtain ⟨ln, hln⟩ : ∃ x, ((Ms.cutAt 10 s).getD ([], [])).1 = x := ⟨_, rfl⟩
  obtain ⟨bd, hbd⟩ : ∃ x, ((Ms.cutAt 10 s).getD ([], [])).2 = x := ⟨_, rfl⟩
  obtain ⟨x1, hx1⟩ : ∃ x, (Ms.cutAt 10 s).isSome = x := ⟨_, rfl⟩
  rw [hln, hbd] at hl1
  simp only [hln, hbd, hx1] at K1 hR
  have HK1 := Stow.mk K1
  have HR := Stow.mk hR
  obtain ⟨hl11, hl12⟩ := hl1
  have HALL : Stow (∀ j, j ≤ 3 → (j = 3 ∨ j = ln.length) → Pg.refN ln j = Pg.refNum ln) := ⟨fun j h3 h => Pg.refN_all h h3⟩
  clear K1 hR hln hbd hx1
  go_enter Tryd.func44, Tryd.ntmps44
  go_wp2_with fail
  refine (HK1.out _).mono ?_
  rintro e w1 ⟨rfl, hb1⟩
  obtain ⟨hH1, hB1⟩ := HX.out w1 hb1
  have HH1 := Stow.mk hH1
  have HB1 := Stow.mk hB1
  clear hb1 hH1 hB1
  go_wp2_with fail
  go_loopw [7, 8] (fun nv v wr => ∃ j : Nat, nv = .int .i64 (Pg.refN ln j) ∧ v = .int .i64 (j : Int) ∧ j ≤ 3 ∧ j ≤ ln.length ∧ Stow (Held wr w.heap.size [.int .i64 0, .slice none 0 0, .string ⟨#[]⟩]) ∧ Below w.heap.size w wr) (fun _ v _ => 3 - (intOf v).toNat)
  case atStart => exact ⟨0, by rw [Pg.refN_zero], rfl, by omega, by omega, HH1, HB1.out⟩
  case round =>
    obtain ⟨j, rfl, rfl, hj3, hjl, HHR, hbr⟩ := hrel
    have hrb := Pg.refN_bound ln j (by omega)
    by_cases hjn : j < 3 ∧ j < ln.length
    · obtain ⟨g3, gl⟩ := hjn
      have hlb : j < (bs ln).size := gl
      have hNX := Pg.refN_next gl
      obtain ⟨u, hu⟩ : ∃ u, (ln[j]'hlb).toNat = u := ⟨_, rfl⟩
      have hu2 : u < 256 := by rw [← hu]; exact UInt8.toNat_lt _
      rw [show (ln[j]'gl).toNat = u from hu] at hNX
      have HM2 := Stow.mk hNX
      obtain ⟨M, hM⟩ : ∃ M, Pg.refN ln j = M := ⟨_, rfl⟩
      rw [hM] at hrb HM2 ⊢
      obtain ⟨hb1, hb2⟩ := hrb
      clear hNX hM
      have gi : (j : Int) < ln.length := by omega
      have gi3 : (j : Int) < 3 := by omega
      have e1 : IntKind.i64.wrap (10 * M) = 10 * M := IntWalk.i64_in _ (by omega)
      have e2 : IntKind.i64.wrap (10 * M + (u : Int)) = 10 * M + (u : Int) := IntWalk.i64_in _ (by omega)
      have e3 : IntKind.i64.wrap (10 * M + (u : Int) - 48) = 10 * M + (u : Int) - 48 := IntWalk.i64_in _ (by omega)
      go_wp2_with fail
      exact ⟨⟨j + 1, by rw [HM2.out], rfl, by omega, by omega, HHR, hbr⟩, by simp [intOf]; omega⟩
    · have hend : j = 3 ∨ j = ln.length := by omega
      by_cases gl : j < ln.length
      · have gi : (j : Int) < ln.length := by omega
        have gi3 : decide ((j : Int) < 3) = false := by simp; omega
        have HH3 := HHR
        have HB3 : Stow (Below w.heap.size w wr) := ⟨hbr⟩
        clear hbr
        have HNE : Stow (Pg.refN ln j = Pg.refNum ln) := ⟨HALL.out j hj3 hend⟩
        rw [HNE.out] at hrb ⊢
        clear HNE
        generalize Pg.refNum ln = NN at *
        go_wp2_with fail
        refine (msRefHeads_any bd _ (by omega)).mono ?_
        rintro e w4 (⟨hp, rfl, hb4⟩ | ⟨L, b, A, cap, hp, rfl, hrow, hb4⟩)
        · have HRN : Stow (Ms.readBack s = none) := ⟨by rw [← HR.out, hp]⟩
          have HH4 := Stow.mk (HH3.out.kept hb4)
          have HB4 := Stow.mk (Below.call HB3.out hb4)
          clear hb4 hp
          obtain ⟨cc, hcc⟩ : ∃ c, Ms.checkBack ⟨NN, [], []⟩ = c := ⟨_, rfl⟩
          obtain ⟨tt, htt⟩ : ∃ c, Ms.writeBack ⟨NN, [], []⟩ = c := ⟨_, rfl⟩
          have KW := fun W => msRefWriteBack_any ⟨NN, [], []⟩ none 0 W ⟨SlR.nil _ _, by simp⟩ (by simp)
          rw [hcc, htt] at KW
          have HKW := Stow.mk KW
          clear KW hcc htt
          unfold Rs.val at HKW
          simp only [List.length_nil] at HKW
          go_wp2_with fail
          refine (HKW.out _).mono ?_
          rintro e w5 ⟨rfl, hb5⟩
          have HH5 := Stow.mk ((HH4.out.kept (Below.alloc' (Below.self _) _)).kept hb5)
          have HB5 := Stow.mk (Below.call (Below.alloc' HB4.out _) hb5)
          clear hb5
          have a0 := (Stow.out HH5).cell (i := 0) rfl
          have a1 := (Stow.out HH5).cell (i := 1) rfl
          have a2 := (Stow.out HH5).cell (i := 2) rfl
          have f0 := (Stow.out HH5).free 0
          have f1 := (Stow.out HH5).free 1
          have f2 := (Stow.out HH5).free 2
          go_wp2_with fail
          refine bodyPost_ret (rsr_results _ w.heap.size (.int .i64 0) (.slice none 0 0) (.string ⟨#[]⟩) 3 _ ((((Stow.out HH5).set 0 _).set 1 _).set 2 _) rfl rfl) rfl ?_
          exact ⟨none, 0, by rw [Stow.out HRN]; rfl, by rw [Stow.out HRN]; exact SlR.nil _ _, below_set3 (Stow.out HB5) (Nat.le_refl _) _ _ _⟩
        · have HRS : Stow (Ms.readBack s = if Ms.checkBack ⟨NN, L, b⟩ = 0 ∧ Ms.textBack ⟨NN, L, b⟩ = s then some ⟨NN, L, b⟩ else none) := ⟨by rw [← HR.out, hp]⟩
          have HH4 := Stow.mk (HH3.out.kept hb4)
          have HB4 := Stow.mk (Below.call HB3.out hb4)
          have hgl := HH3.out.lt
          have hlen := Ms.heads_len hp
          have HROW4 : Stow (HRow w4 (w.heap.size + 1) (.slice A L.length cap) L) := ⟨hrow.base (by omega)⟩
          have HHD : Stow (HdR w4 A cap L) := ⟨⟨hrow.slr, fun x hx => by have := hlen.2 x hx; omega⟩⟩
          obtain ⟨hlb, _⟩ := hlen
          have HQ := rs_box w4 NN A L.length cap b
          obtain ⟨cc, hcc⟩ : ∃ c, Ms.checkBack ⟨NN, L, b⟩ = c := ⟨_, rfl⟩
          obtain ⟨tt, htt⟩ : ∃ c, Ms.writeBack ⟨NN, L, b⟩ = c := ⟨_, rfl⟩
          have KW := fun W h1 => msRefWriteBack_any ⟨NN, L, b⟩ A cap W h1 (by simp only; omega)
          rw [hcc, htt] at KW
          have HTX : Stow (cc = 0 → Ms.textBack ⟨NN, L, b⟩ = tt) := ⟨fun e => by rw [← htt]; unfold Ms.writeBack; rw [if_pos (by rw [hcc]; exact e)]⟩
          rw [hcc] at HRS
          have HKW := Stow.mk KW
          clear KW hcc htt hb4 hp hrow
          unfold Rs.val at HKW
          simp only at HKW
          go_wp2_with fail
          refine (HKW.out _ (HHD.out.alloc _)).mono ?_
          rintro e w5 ⟨rfl, hb5⟩
          obtain ⟨hQ5, hB5⟩ := HQ.out w5 hb5
          have HH5 := Stow.mk (HH4.out.kept hB5)
          have HB5 := Stow.mk (Below.call HB4.out hB5)
          have HROW5 := Stow.mk (HROW4.out.kept hB5)
          clear hb5 hB5
          by_cases hc0 : cc = 0
          rotate_left
          · have hci : ((cc : Int) != 0) = true := by rw [bne_iff_ne]; omega
            have HRN : Stow (Ms.readBack s = none) := ⟨by rw [HRS.out, if_neg (fun h => hc0 h.1)]⟩
            clear hQ5
            have a0 := (Stow.out HH5).cell (i := 0) rfl
            have a1 := (Stow.out HH5).cell (i := 1) rfl
            have a2 := (Stow.out HH5).cell (i := 2) rfl
            have f0 := (Stow.out HH5).free 0
            have f1 := (Stow.out HH5).free 1
            have f2 := (Stow.out HH5).free 2
            go_wp2_with fail
            refine bodyPost_ret (rsr_results _ w.heap.size (.int .i64 0) (.slice none 0 0) (.string ⟨#[]⟩) 3 _ ((((Stow.out HH5).set 0 _).set 1 _).set 2 _) rfl rfl) rfl ?_
            exact ⟨none, 0, by rw [Stow.out HRN]; rfl, by rw [Stow.out HRN]; exact SlR.nil _ _, below_set3 (Stow.out HB5) (Nat.le_refl _) _ _ _⟩
          have hci : ((cc : Int) != 0) = false := by rw [hc0]; rfl
          by_cases ht : tt = s
          rotate_left
          · have hti : (tt == s) = false := by rw [beq_eq_false_iff_ne]; exact ht
            have HRN : Stow (Ms.readBack s = none) := ⟨by rw [HRS.out, if_neg (fun h => ht (by rw [← HTX.out hc0]; exact h.2))]⟩
            clear hQ5 ht hc0
            have a0 := (Stow.out HH5).cell (i := 0) rfl
            have a1 := (Stow.out HH5).cell (i := 1) rfl
            have a2 := (Stow.out HH5).cell (i := 2) rfl
            have f0 := (Stow.out HH5).free 0
            have f1 := (Stow.out HH5).free 1
            have f2 := (Stow.out HH5).free 2
            go_wp2_with fail
            refine bodyPost_ret (rsr_results _ w.heap.size (.int .i64 0) (.slice none 0 0) (.string ⟨#[]⟩) 3 _ ((((Stow.out HH5).set 0 _).set 1 _).set 2 _) rfl rfl) rfl ?_
            exact ⟨none, 0, by rw [Stow.out HRN]; rfl, by rw [Stow.out HRN]; exact SlR.nil _ _, below_set3 (Stow.out HB5) (Nat.le_refl _) _ _ _⟩
          have hti : (tt == s) = true := by rw [beq_iff_eq]; exact ht
          have HRG : Stow (Ms.readBack s = some ⟨NN, L, b⟩) := ⟨by rw [HRS.out, if_pos ⟨hc0, by rw [HTX.out hc0]; exact ht⟩]⟩
          have q0 := hQ5.cell (i := 0) rfl
          have q1 := hQ5.cell (i := 1) rfl
          have q2 := hQ5.cell (i := 2) rfl
          clear hQ5 ht hc0
          have a0 := (Stow.out HH5).cell (i := 0) rfl
          have a1 := (Stow.out HH5).cell (i := 1) rfl
          have a2 := (Stow.out HH5).cell (i := 2) rfl
          have f0 := (Stow.out HH5).free 0
          have f1 := (Stow.out HH5).free 1
          have f2 := (Stow.out HH5).free 2
          go_wp2_with fail
          refine bodyPost_ret (rsr_results _ w.heap.size (.int .i64 NN) (.slice A L.length cap) (.string (bs b)) 0 _ (((HH5.out.set 0 _).set 1 _).set 2 _) rfl rfl) rfl ?_
          exact ⟨A, cap, by rw [HRG.out]; rfl, by rw [HRG.out]; exact (HROW5.out.only (only_set3 _ _ _) (by omega)).slr, below_set3 HB5.out (Nat.le_refl _) _ _ _⟩
      · have gi : decide ((j : Int) < ln.length) = false := by simp; omega
        have gi4 : ¬ j < ln.length := gl
        have HH3 := HHR
        have HB3 : Stow (Below w.heap.size w wr) := ⟨hbr⟩
        clear hbr
        have HNE : Stow (Pg.refN ln j = Pg.refNum ln) := ⟨HALL.out j hj3 hend⟩
        rw [HNE.out] at hrb ⊢
        clear HNE
        generalize Pg.refNum ln = NN at *
        go_wp2_with fail
        refine (msRefHeads_any bd _ (by omega)).mono ?_
        rintro e w4 (⟨hp, rfl, hb4⟩ | ⟨L, b, A, cap, hp, rfl, hrow, hb4⟩)
        · have HRN : Stow (Ms.readBack s = none) := ⟨by rw [← HR.out, hp]⟩
          have HH4 := Stow.mk (HH3.out.kept hb4)
          have HB4 := Stow.mk (Below.call HB3.out hb4)
          clear hb4 hp
          obtain ⟨cc, hcc⟩ : ∃ c, Ms.checkBack ⟨NN, [], []⟩ = c := ⟨_, rfl⟩
          obtain ⟨tt, htt⟩ : ∃ c, Ms.writeBack ⟨NN, [], []⟩ = c := ⟨_, rfl⟩
          have KW := fun W => msRefWriteBack_any ⟨NN, [], []⟩ none 0 W ⟨SlR.nil _ _, by simp⟩ (by simp)
          rw [hcc, htt] at KW
          have HKW := Stow.mk KW
          clear KW hcc htt
          unfold Rs.val at HKW
          simp only [List.length_nil] at HKW
          go_wp2_with fail
          refine (HKW.out _).mono ?_
          rintro e w5 ⟨rfl, hb5⟩
          have HH5 := Stow.mk ((HH4.out.kept (Below.alloc' (Below.self _) _)).kept hb5)
          have HB5 := Stow.mk (Below.call (Below.alloc' HB4.out _) hb5)
          clear hb5
          have a0 := (Stow.out HH5).cell (i := 0) rfl
          have a1 := (Stow.out HH5).cell (i := 1) rfl
          have a2 := (Stow.out HH5).cell (i := 2) rfl
          have f0 := (Stow.out HH5).free 0
          have f1 := (Stow.out HH5).free 1
          have f2 := (Stow.out HH5).free 2
          go_wp2_with fail
          refine bodyPost_ret (rsr_results _ w.heap.size (.int .i64 0) (.slice none 0 0) (.string ⟨#[]⟩) 3 _ ((((Stow.out HH5).set 0 _).set 1 _).set 2 _) rfl rfl) rfl ?_
          exact ⟨none, 0, by rw [Stow.out HRN]; rfl, by rw [Stow.out HRN]; exact SlR.nil _ _, below_set3 (Stow.out HB5) (Nat.le_refl _) _ _ _⟩
        · have HRS : Stow (Ms.readBack s = if Ms.checkBack ⟨NN, L, b⟩ = 0 ∧ Ms.textBack ⟨NN, L, b⟩ = s then some ⟨NN, L, b⟩ else none) := ⟨by rw [← HR.out, hp]⟩
          have HH4 := Stow.mk (HH3.out.kept hb4)
          have HB4 := Stow.mk (Below.call HB3.out hb4)
          have hgl := HH3.out.lt
          have hlen := Ms.heads_len hp
          have HROW4 : Stow (HRow w4 (w.heap.size + 1) (.slice A L.length cap) L) := ⟨hrow.base (by omega)⟩
          have HHD : Stow (HdR w4 A cap L) := ⟨⟨hrow.slr, fun x hx => by have := hlen.2 x hx; omega⟩⟩
          obtain ⟨hlb, _⟩ := hlen
          have HQ := rs_box w4 NN A L.length cap b
          obtain ⟨cc, hcc⟩ : ∃ c, Ms.checkBack ⟨NN, L, b⟩ = c := ⟨_, rfl⟩
          obtain ⟨tt, htt⟩ : ∃ c, Ms.writeBack ⟨NN, L, b⟩ = c := ⟨_, rfl⟩
          have KW := fun W h1 => msRefWriteBack_any ⟨NN, L, b⟩ A cap W h1 (by simp only; omega)
          rw [hcc, htt] at KW
          have HTX : Stow (cc = 0 → Ms.textBack ⟨NN, L, b⟩ = tt) := ⟨fun e => by rw [← htt]; unfold Ms.writeBack; rw [if_pos (by rw [hcc]; exact e)]⟩
          rw [hcc] at HRS
          have HKW := Stow.mk KW
          clear KW hcc htt hb4 hp hrow
          unfold Rs.val at HKW
          simp only at HKW
          go_wp2_with fail
          refine (HKW.out _ (HHD.out.alloc _)).mono ?_
          rintro e w5 ⟨rfl, hb5⟩
          obtain ⟨hQ5, hB5⟩ := HQ.out w5 hb5
          have HH5 := Stow.mk (HH4.out.kept hB5)
          have HB5 := Stow.mk (Below.call HB4.out hB5)
          have HROW5 := Stow.mk (HROW4.out.kept hB5)
          clear hb5 hB5
          by_cases hc0 : cc = 0
          rotate_left
          · have hci : ((cc : Int) != 0) = true := by rw [bne_iff_ne]; omega
            have HRN : Stow (Ms.readBack s = none) := ⟨by rw [HRS.out, if_neg (fun h => hc0 h.1)]⟩
            clear hQ5
            have a0 := (Stow.out HH5).cell (i := 0) rfl
            have a1 := (Stow.out HH5).cell (i := 1) rfl
            have a2 := (Stow.out HH5).cell (i := 2) rfl
            have f0 := (Stow.out HH5).free 0
            have f1 := (Stow.out HH5).free 1
            have f2 := (Stow.out HH5).free 2
            go_wp2_with fail
            refine bodyPost_ret (rsr_results _ w.heap.size (.int .i64 0) (.slice none 0 0) (.string ⟨#[]⟩) 3 _ ((((Stow.out HH5).set 0 _).set 1 _).set 2 _) rfl rfl) rfl ?_
            exact ⟨none, 0, by rw [Stow.out HRN]; rfl, by rw [Stow.out HRN]; exact SlR.nil _ _, below_set3 (Stow.out HB5) (Nat.le_refl _) _ _ _⟩
          have hci : ((cc : Int) != 0) = false := by rw [hc0]; rfl
          by_cases ht : tt = s
          rotate_left
          · have hti : (tt == s) = false := by rw [beq_eq_false_iff_ne]; exact ht
            have HRN : Stow (Ms.readBack s = none) := ⟨by rw [HRS.out, if_neg (fun h => ht (by rw [← HTX.out hc0]; exact h.2))]⟩
            clear hQ5 ht hc0
            have a0 := (Stow.out HH5).cell (i := 0) rfl
            have a1 := (Stow.out HH5).cell (i := 1) rfl
            have a2 := (Stow.out HH5).cell (i := 2) rfl
            have f0 := (Stow.out HH5).free 0
            have f1 := (Stow.out HH5).free 1
            have f2 := (Stow.out HH5).free 2
            go_wp2_with fail
            refine bodyPost_ret (rsr_results _ w.heap.size (.int .i64 0) (.slice none 0 0) (.string ⟨#[]⟩) 3 _ ((((Stow.out HH5).set 0 _).set 1 _).set 2 _) rfl rfl) rfl ?_
            exact ⟨none, 0, by rw [Stow.out HRN]; rfl, by rw [Stow.out HRN]; exact SlR.nil _ _, below_set3 (Stow.out HB5) (Nat.le_refl _) _ _ _⟩
          have hti : (tt == s) = true := by rw [beq_iff_eq]; exact ht
          have HRG : Stow (Ms.readBack s = some ⟨NN, L, b⟩) := ⟨by rw [HRS.out, if_pos ⟨hc0, by rw [HTX.out hc0]; exact ht⟩]⟩
          have q0 := hQ5.cell (i := 0) rfl
          have q1 := hQ5.cell (i := 1) rfl
          have q2 := hQ5.cell (i := 2) rfl
          clear hQ5 ht hc0
          have a0 := (Stow.out HH5).cell (i := 0) rfl
          have a1 := (Stow.out HH5).cell (i := 1) rfl
          have a2 := (Stow.out HH5).cell (i := 2) rfl
          have f0 := (Stow.out HH5).free 0
          have f1 := (Stow.out HH5).free 1
          have f2 := (Stow.out HH5).free 2
          go_wp2_with fail
          refine bodyPost_ret (rsr_results _ w.heap.size (.int .i64 NN) (.slice A L.length cap) (.string (bs b)) 0 _ (((HH5.out.set 0 _).set 1 _).set 2 _) rfl rfl) rfl ?_
          exact ⟨A, cap, by rw [HRG.out]; rfl, by rw [HRG.out]; exact (HROW5.out.only (only_set3 _ _ _) (by omega)).slr, below_set3 HB5.out (Nat.le_refl _) _ _ _⟩
end Go.Proofs.YtbnaicgomabigaaDoor
