/- Walks of msg.Read and ReadBack. Conditions: a text that is not too long; what the library's variables hold. -/
import Derived.Test.YtbnaicgomabigaaDoorMsSame
namespace Go.Proofs.YtbnaicgomabigaaDoor
open Go.RowKit
set_option linter.unusedVariables false

def Rq.zero : Rq := ⟨[], [], [], [], []⟩
def Rs.zero : Rs := ⟨0, [], []⟩
/-- The ending of Read. -/
def RqOf (w : World) (o : Option Rq) (e : Ending) (w' : World) : Prop :=
  ∃ A cap, e = .returned (.tuple #[(o.getD Rq.zero).val A cap, .int .i64 (if o.isSome then 0 else 3)]) ∧ SlR w' 2 (.slice A (o.getD Rq.zero).hs.length cap) ((o.getD Rq.zero).hs.map Hd.cells) ∧ Below w.heap.size w w'
/-- The ending of ReadBack. -/
def RsOf (w : World) (o : Option Rs) (e : Ending) (w' : World) : Prop :=
  ∃ A cap, e = .returned (.tuple #[(o.getD Rs.zero).val A cap, .int .i64 (if o.isSome then 0 else 3)]) ∧ SlR w' 2 (.slice A (o.getD Rs.zero).hs.length cap) ((o.getD Rs.zero).hs.map Hd.cells) ∧ Below w.heap.size w w'

theorem Ms.split_bytes (c : UInt8) (l : List UInt8) : Lib.splitB (bs [c]) 0 (Lib.countB (bs l) (bs [c])) (bs l) = (Ts.pieces c l).map bs := by
  refine bs_list ?_
  rw [Lib.splitB_data]
  exact Ts.split_pieces c l
theorem split1_any (c : UInt8) (l : List UInt8) (w : World) (hl : l.length < 4294967281) (hm : MaxIs w) :
    Calls Tryd.prog 75 #[.string (bs l), .string (bs [c])] w fun e w' => e = .returned (.slice (some ⟨w.heap.size, 0, none⟩) (Ts.pieces c l).length (Ts.pieces c l).length) ∧ w' = w.alloc (.cells ((Ts.pieces c l).map fun p => Value.string (bs p)).toArray 9) := by
  obtain ⟨m, hm⟩ := hm
  have hn : Lib.countB (bs l) (bs [c]) + 1 = (Ts.pieces c l).length := by
    rw [← Lib.splitB_all (bs [c]) (by rw [bs_size]; simp) 0 _ (bs l) rfl, Ms.split_bytes, List.length_map]
  have h := Tryd.strings_Split (bs l) (bs [c]) m w (by rw [bs_size]; exact hl) hm (by rw [bs_size]; simp)
  rw [hn, Ms.split_bytes, List.map_map] at h
  exact h

theorem rq_results (W : World) (g : Nat) (a b c d f : Value) (n : Int) (tmps : Array Value) (hH : Held W g [a, b, c, d, f]) (h2 : tmps[2]?.getD undef = .pointer (some ⟨g, 0, none⟩)) (h3 : tmps[3]?.getD undef = .int .i64 n) :
    (results Tryd.f41 tmps).run Tryd.prog W = .ok (.tuple #[.agg #[a, b, c, d, f], .int .i64 n]) W := by
  have c0 := hH.cell (i := 0) rfl
  have c1 := hH.cell (i := 1) rfl
  have c2 := hH.cell (i := 2) rfl
  have c3 := hH.cell (i := 3) rfl
  have c4 := hH.cell (i := 4) rfl
  simp [results, Tryd.results41, go_sem, h2, h3, c0, c1, c2, c3, c4]
theorem rs_results (W : World) (g : Nat) (a b c : Value) (n : Int) (tmps : Array Value) (hH : Held W g [a, b, c]) (h2 : tmps[2]?.getD undef = .pointer (some ⟨g, 0, none⟩)) (h3 : tmps[3]?.getD undef = .int .i64 n) :
    (results Tryd.f43 tmps).run Tryd.prog W = .ok (.tuple #[.agg #[a, b, c], .int .i64 n]) W := by
  have c0 := hH.cell (i := 0) rfl
  have c1 := hH.cell (i := 1) rfl
  have c2 := hH.cell (i := 2) rfl
  simp [results, Tryd.results43, go_sem, h2, h3, c0, c1, c2]

theorem below_set5 {w W : World} {g : Nat} (h : Below w.heap.size w W) (hg : w.heap.size ≤ g) (a b c d f : Value) : Below w.heap.size w (((((W.setCell ⟨g, 0, none⟩ a).setCell ⟨g, 1, none⟩ b).setCell ⟨g, 2, none⟩ c).setCell ⟨g, 3, none⟩ d).setCell ⟨g, 4, none⟩ f) :=
  ((((h.setCell (p := ⟨g, 0, none⟩) hg _).setCell (p := ⟨g, 1, none⟩) hg _).setCell (p := ⟨g, 2, none⟩) hg _).setCell (p := ⟨g, 3, none⟩) hg _).setCell (p := ⟨g, 4, none⟩) hg _
theorem below_set3 {w W : World} {g : Nat} (h : Below w.heap.size w W) (hg : w.heap.size ≤ g) (a b c : Value) : Below w.heap.size w (((W.setCell ⟨g, 0, none⟩ a).setCell ⟨g, 1, none⟩ b).setCell ⟨g, 2, none⟩ c) :=
  ((h.setCell (p := ⟨g, 0, none⟩) hg _).setCell (p := ⟨g, 1, none⟩) hg _).setCell (p := ⟨g, 2, none⟩) hg _
/-- A slice's cells lie elsewhere. -/
theorem SlR.off {w w' : World} {c g B : Nat} {v : Value} {L : List (List Value)} {e : TypeId} {n : Nat} {xs : List Value} (h : w.ownsRow B e c v n xs) (hL : L.length = n) (hx : ∀ i x, L[i]? = some x → ∀ j u, x[j]? = some u → xs[i * c + j]? = some u) (ho : Only g w w') (hg : g < B) : SlR w' c v L := by
  refine SlR.of_own (World.ownsRow.kept h ho ?_) hL hx
  cases hv : v.ownBlock with
  | none => exact .inl rfl
  | some k =>
    have h1 := (World.ownsRow.lt h k hv).1
    exact .inr (by intro e; have h2 := Option.some.inj e; omega)
theorem only_set5 {W : World} {g : Nat} (a b c d f : Value) : Only g W (((((W.setCell ⟨g, 0, none⟩ a).setCell ⟨g, 1, none⟩ b).setCell ⟨g, 2, none⟩ c).setCell ⟨g, 3, none⟩ d).setCell ⟨g, 4, none⟩ f) :=
  ((((Only.set g W 0 a).trans (Only.set g _ 1 b)).trans (Only.set g _ 2 c)).trans (Only.set g _ 3 d)).trans (Only.set g _ 4 f)
theorem only_set3 {W : World} {g : Nat} (a b c : Value) : Only g W (((W.setCell ⟨g, 0, none⟩ a).setCell ⟨g, 1, none⟩ b).setCell ⟨g, 2, none⟩ c) :=
  ((Only.set g W 0 a).trans (Only.set g _ 1 b)).trans (Only.set g _ 2 c)


set_option maxHeartbeats 4000000 in
set_option maxRecDepth 100000 in
theorem msRead_any (s : List UInt8) (w : World) (hs : s.length < 2147483647) (hm : PgEnv w) : Calls Tryd.prog 41 #[.string (bs s)] w (RqOf w (Ms.read s)) := by
  have HM := Stow.mk hm
  clear hm
  have HX : Stow (∀ W, Below (w.alloc (.cells #[.string ⟨#[]⟩, .string ⟨#[]⟩, .string ⟨#[]⟩, .slice none 0 0, .string ⟨#[]⟩] 58)).heap.size (w.alloc (.cells #[.string ⟨#[]⟩, .string ⟨#[]⟩, .string ⟨#[]⟩, .slice none 0 0, .string ⟨#[]⟩] 58)) W → Held W w.heap.size [.string ⟨#[]⟩, .string ⟨#[]⟩, .string ⟨#[]⟩, .slice none 0 0, .string ⟨#[]⟩] ∧ Below w.heap.size w W) := ⟨fun W hb => ⟨(Held.made w [.string ⟨#[]⟩, .string ⟨#[]⟩, .string ⟨#[]⟩, .slice none 0 0, .string ⟨#[]⟩] _).kept hb, Below.call (Below.alloc' (Below.self _) _) hb⟩⟩
  have HRP := Stow.mk (Ms.read_parts s)
  go_enter Tryd.func41, Tryd.ntmps41
  go_wp2_with fail
  refine (msParts_any s _ hs (HM.out.keep (HX.out _ (Below.refl _ _)).2).max).mono ?_
  rintro e w1 (⟨hp, rfl, hb1⟩ | ⟨f, L, b, A, cap, hp, rfl, hrow, hb1⟩)
  · rw [hp] at HRP
    obtain ⟨hH1, hB1⟩ := HX.out w1 hb1
    have HH1 := Stow.mk hH1
    have HB1 := Stow.mk hB1
    clear hb1 hH1 hB1 hp
    go_wp2_with fail
    refine (split1_any 32 [] _ (by decide) (HM.out.keep HB1.out).max).mono ?_
    rintro e w2 ⟨rfl, hw2⟩
    have hb2 : Below w1.heap.size w1 w2 := by rw [hw2]; exact Below.alloc' (Below.self _) _
    have HH2 := Stow.mk (HH1.out.kept hb2)
    have HB2 := Stow.mk (Below.call HB1.out hb2)
    clear hw2 hb2
    have a0 := (Stow.out HH2).cell (i := 0) rfl
    have a1 := (Stow.out HH2).cell (i := 1) rfl
    have a2 := (Stow.out HH2).cell (i := 2) rfl
    have a3 := (Stow.out HH2).cell (i := 3) rfl
    have a4 := (Stow.out HH2).cell (i := 4) rfl
    have f0 := (Stow.out HH2).free 0
    have f1 := (Stow.out HH2).free 1
    have f2 := (Stow.out HH2).free 2
    have f3 := (Stow.out HH2).free 3
    have f4 := (Stow.out HH2).free 4
    go_wp2_with fail
    refine bodyPost_ret (rq_results _ w.heap.size (.string ⟨#[]⟩) (.string ⟨#[]⟩) (.string ⟨#[]⟩) (.slice none 0 0) (.string ⟨#[]⟩) 3 _ ((((((Stow.out HH2).set 0 _).set 1 _).set 2 _).set 3 _).set 4 _) rfl rfl) rfl ?_
    exact ⟨none, 0, by rw [Stow.out HRP]; rfl, by rw [Stow.out HRP]; exact SlR.nil _ _, below_set5 (Stow.out HB2) (Nat.le_refl _) _ _ _ _ _⟩
  · rw [hp] at HRP
    have hlen := Ms.parts_len hp
    obtain ⟨hH1, hB1⟩ := HX.out w1 hb1
    have HH1 := Stow.mk hH1
    have HB1 := Stow.mk hB1
    have hgl := hH1.lt
    have HROW : Stow (HRow w1 (w.heap.size + 1) (.slice A L.length cap) L) := ⟨by simpa using hrow⟩
    have HLEN := Stow.mk hlen
    obtain ⟨hf1, hb0, _⟩ := hlen
    clear hb1 hH1 hB1 hp hrow
    go_wp2_with fail
    refine (split1_any 32 f _ (by omega) (HM.out.keep HB1.out).max).mono ?_
    rintro e w2 ⟨rfl, hw2⟩
    have hb2 : Below w1.heap.size w1 w2 := by rw [hw2]; exact Below.alloc' (Below.self _) _
    have HH2 := Stow.mk (HH1.out.kept hb2)
    have HB2 := Stow.mk (Below.call HB1.out hb2)
    have HROW2 := Stow.mk (HROW.out.kept hb2)
    obtain ⟨P3, hP3⟩ : ∃ P, Ts.pieces 32 f = P := ⟨_, rfl⟩
    rw [hP3] at hw2 ⊢
    simp only [hP3] at HRP
    by_cases h3 : P3.length = 3
    rotate_left
    · have h3i : ((P3.length : Int) != 3) = true := by rw [bne_iff_ne]; omega
      have HRN : Stow (Ms.read s = none) := ⟨by
        rw [HRP.out]
        split
        · simp at h3
        · rfl⟩
      clear hw2 hb2 hP3
      have a0 := (Stow.out HH2).cell (i := 0) rfl
      have a1 := (Stow.out HH2).cell (i := 1) rfl
      have a2 := (Stow.out HH2).cell (i := 2) rfl
      have a3 := (Stow.out HH2).cell (i := 3) rfl
      have a4 := (Stow.out HH2).cell (i := 4) rfl
      have f0 := (Stow.out HH2).free 0
      have f1 := (Stow.out HH2).free 1
      have f2 := (Stow.out HH2).free 2
      have f3 := (Stow.out HH2).free 3
      have f4 := (Stow.out HH2).free 4
      go_wp2_with fail
      refine bodyPost_ret (rq_results _ w.heap.size (.string ⟨#[]⟩) (.string ⟨#[]⟩) (.string ⟨#[]⟩) (.slice none 0 0) (.string ⟨#[]⟩) 3 _ ((((((Stow.out HH2).set 0 _).set 1 _).set 2 _).set 3 _).set 4 _) rfl rfl) rfl ?_
      exact ⟨none, 0, by rw [Stow.out HRN]; rfl, by rw [Stow.out HRN]; exact SlR.nil _ _, below_set5 (Stow.out HB2) (Nat.le_refl _) _ _ _ _ _⟩
    obtain ⟨m, h, p, rfl⟩ : ∃ m h p, P3 = [m, h, p] := by
      match P3, h3 with
      | [m, h, p], _ => exact ⟨m, h, p, rfl⟩
    have hpl := congrArg List.length (Ms.pieces_three hP3).1
    simp only [List.length_append, List.length_cons] at hpl
    have hm1 : m.length ≤ f.length := by omega
    have hh1 : h.length ≤ f.length := by omega
    have hp1 : p.length ≤ f.length := by omega
    have hw2c : Held w2 w1.heap.size [.string (bs m), .string (bs h), .string (bs p)] := by rw [hw2]; exact Held.made w1 [.string (bs m), .string (bs h), .string (bs p)] _
    have hne1 : (w2.heap.size == w1.heap.size) = false := by have := hw2c.lt; simp; omega
    have b0 := hw2c.cell (i := 0) rfl
    have b1 := hw2c.cell (i := 1) rfl
    have b2 := hw2c.cell (i := 2) rfl
    have hz2 := hw2c.kept (Below.alloc' (Below.self w2) (.cells #[.string ⟨#[]⟩, .string ⟨#[]⟩, .string ⟨#[]⟩, .slice none 0 0, .string ⟨#[]⟩] 58))
    have d0 := hz2.cell (i := 0) rfl
    have d1 := hz2.cell (i := 1) rfl
    have d2 := hz2.cell (i := 2) rfl
    clear hz2
    clear hw2 hb2 hP3 h3 hpl hw2c
    simp only at HRP
    have HQF : Stow (Rq.fits ⟨m, h, p, L, b⟩) := ⟨⟨by simp only; omega, by simp only; omega, by simp only; omega, by simp only; omega⟩⟩
    have HHD : Stow (HdR w2 A cap L) := ⟨⟨HROW2.out.slr, fun x hx => by have := HLEN.out.2.2 x hx; omega⟩⟩
    obtain ⟨cc, hcc⟩ : ∃ c, Ms.check ⟨m, h, p, L, b⟩ = c := ⟨_, rfl⟩
    have KC := fun W h1 => msCheck_any ⟨m, h, p, L, b⟩ A cap W h1 HQF.out
    rw [hcc] at KC
    rw [hcc] at HRP
    have HKC := Stow.mk KC
    have hne : (w2.heap.size == w.heap.size) = false := by have := HH2.out.lt; simp; omega
    clear hcc KC
    unfold Rq.val at HKC
    simp only at HKC
    go_wp2_with fail
    go_region
    have HQ := rq_box w2 m h p A L.length cap b
    go_wp2_with fail
    refine (HKC.out _ (by first | exact HHD.out.alloc _ | exact (HHD.out.keep (Below.drew (Below.self _))).alloc _)).mono ?_
    rintro e w3 ⟨rfl, hb3⟩
    obtain ⟨hQ3, hB3⟩ := HQ.out w3 (Below.call (Below.drew (Below.self _)) hb3)
    have HH3 := Stow.mk (HH2.out.kept hB3)
    have HB3 := Stow.mk (Below.call HB2.out hB3)
    have HROW3 := Stow.mk (HROW2.out.kept hB3)
    clear hb3 hB3 b0 b1 b2 d0 d1 d2 hne hne1
    by_cases hc0 : cc = 0
    · subst hc0
      have HRS : Stow (Ms.read s = some ⟨m, h, p, L, b⟩) := ⟨by rw [HRP.out]; simp⟩
      have q0 := hQ3.cell (i := 0) rfl
      have q1 := hQ3.cell (i := 1) rfl
      have q2 := hQ3.cell (i := 2) rfl
      have q3 := hQ3.cell (i := 3) rfl
      have q4 := hQ3.cell (i := 4) rfl
      clear hQ3
      have a0 := (Stow.out HH3).cell (i := 0) rfl
      have a1 := (Stow.out HH3).cell (i := 1) rfl
      have a2 := (Stow.out HH3).cell (i := 2) rfl
      have a3 := (Stow.out HH3).cell (i := 3) rfl
      have a4 := (Stow.out HH3).cell (i := 4) rfl
      have f0 := (Stow.out HH3).free 0
      have f1 := (Stow.out HH3).free 1
      have f2 := (Stow.out HH3).free 2
      have f3 := (Stow.out HH3).free 3
      have f4 := (Stow.out HH3).free 4
      go_wp2_with fail
      refine bodyPost_ret (rq_results _ w.heap.size (.string (bs m)) (.string (bs h)) (.string (bs p)) (.slice A L.length cap) (.string (bs b)) 0 _ (((((HH3.out.set 0 _).set 1 _).set 2 _).set 3 _).set 4 _) rfl rfl) rfl ?_
      exact ⟨A, cap, by rw [HRS.out]; rfl, by rw [HRS.out]; exact (HROW3.out.only (only_set5 _ _ _ _ _) (by omega)).slr, below_set5 HB3.out (Nat.le_refl _) _ _ _ _ _⟩
    · have hci : ((cc : Int) != 0) = true := by rw [bne_iff_ne]; omega
      have HRN : Stow (Ms.read s = none) := ⟨by rw [HRP.out]; simp [hc0]⟩
      clear hQ3
      have a0 := (Stow.out HH3).cell (i := 0) rfl
      have a1 := (Stow.out HH3).cell (i := 1) rfl
      have a2 := (Stow.out HH3).cell (i := 2) rfl
      have a3 := (Stow.out HH3).cell (i := 3) rfl
      have a4 := (Stow.out HH3).cell (i := 4) rfl
      have f0 := (Stow.out HH3).free 0
      have f1 := (Stow.out HH3).free 1
      have f2 := (Stow.out HH3).free 2
      have f3 := (Stow.out HH3).free 3
      have f4 := (Stow.out HH3).free 4
      go_wp2_with fail
      refine bodyPost_ret (rq_results _ w.heap.size (.string ⟨#[]⟩) (.string ⟨#[]⟩) (.string ⟨#[]⟩) (.slice none 0 0) (.string ⟨#[]⟩) 3 _ ((((((Stow.out HH3).set 0 _).set 1 _).set 2 _).set 3 _).set 4 _) rfl rfl) rfl ?_
      exact ⟨none, 0, by rw [Stow.out HRN]; rfl, by rw [Stow.out HRN]; exact SlR.nil _ _, below_set5 (Stow.out HB3) (Nat.le_refl _) _ _ _ _ _⟩


set_option maxHeartbeats 4000000 in
set_option maxRecDepth 100000 in
theorem msReadBack_any (s : List UInt8) (w : World) (hs : s.length < 2147483647) (hm : PgEnv w) : Calls Tryd.prog 43 #[.string (bs s)] w (RsOf w (Ms.readBack s)) := by
  have HM := Stow.mk hm
  clear hm
  have HX : Stow (∀ W, Below (w.alloc (.cells #[.int .i64 0, .slice none 0 0, .string ⟨#[]⟩] 63)).heap.size (w.alloc (.cells #[.int .i64 0, .slice none 0 0, .string ⟨#[]⟩] 63)) W → Held W w.heap.size [.int .i64 0, .slice none 0 0, .string ⟨#[]⟩] ∧ Below w.heap.size w W) := ⟨fun W hb => ⟨(Held.made w [.int .i64 0, .slice none 0 0, .string ⟨#[]⟩] _).kept hb, Below.call (Below.alloc' (Below.self _) _) hb⟩⟩
  have HRP := Stow.mk (Ms.readBack_parts s)
  go_enter Tryd.func43, Tryd.ntmps43
  go_wp2_with fail
  refine (msParts_any s _ hs (HM.out.keep (HX.out _ (Below.refl _ _)).2).max).mono ?_
  rintro e w1 (⟨hp, rfl, hb1⟩ | ⟨f, L, b, A, cap, hp, rfl, hrow, hb1⟩)
  · rw [hp] at HRP
    obtain ⟨hH1, hB1⟩ := HX.out w1 hb1
    have HH1 := Stow.mk hH1
    have HB1 := Stow.mk hB1
    clear hb1 hH1 hB1 hp
    have a0 := (Stow.out HH1).cell (i := 0) rfl
    have a1 := (Stow.out HH1).cell (i := 1) rfl
    have a2 := (Stow.out HH1).cell (i := 2) rfl
    have f0 := (Stow.out HH1).free 0
    have f1 := (Stow.out HH1).free 1
    have f2 := (Stow.out HH1).free 2
    go_wp2_with fail
    refine bodyPost_ret (rs_results _ w.heap.size (.int .i64 0) (.slice none 0 0) (.string ⟨#[]⟩) 3 _ ((((Stow.out HH1).set 0 _).set 1 _).set 2 _) rfl rfl) rfl ?_
    exact ⟨none, 0, by rw [Stow.out HRP]; rfl, by rw [Stow.out HRP]; exact SlR.nil _ _, below_set3 (Stow.out HB1) (Nat.le_refl _) _ _ _⟩
  · rw [hp] at HRP
    simp only at HRP
    have hlen := Ms.parts_len hp
    obtain ⟨hH1, hB1⟩ := HX.out w1 hb1
    have HH1 := Stow.mk hH1
    have HB1 := Stow.mk hB1
    have hgl := hH1.lt
    have HROW : Stow (HRow w1 (w.heap.size + 1) (.slice A L.length cap) L) := ⟨by simpa using hrow⟩
    have HLEN := Stow.mk hlen
    obtain ⟨hf1, hb0, _⟩ := hlen
    clear hb1 hH1 hB1 hp hrow
    by_cases h3 : f.length = 3
    rotate_left
    · have h3i : ((f.length : Int) != 3) = true := by rw [bne_iff_ne]; omega
      have HRN : Stow (Ms.readBack s = none) := ⟨by rw [HRP.out, if_neg (fun h => h3 h.1)]⟩
      have a0 := (Stow.out HH1).cell (i := 0) rfl
      have a1 := (Stow.out HH1).cell (i := 1) rfl
      have a2 := (Stow.out HH1).cell (i := 2) rfl
      have f0 := (Stow.out HH1).free 0
      have f1 := (Stow.out HH1).free 1
      have f2 := (Stow.out HH1).free 2
      go_wp2_with fail
      refine bodyPost_ret (rs_results _ w.heap.size (.int .i64 0) (.slice none 0 0) (.string ⟨#[]⟩) 3 _ ((((Stow.out HH1).set 0 _).set 1 _).set 2 _) rfl rfl) rfl ?_
      exact ⟨none, 0, by rw [Stow.out HRN]; rfl, by rw [Stow.out HRN]; exact SlR.nil _ _, below_set3 (Stow.out HB1) (Nat.le_refl _) _ _ _⟩
    have h3i : ((f.length : Int) != 3) = false := by rw [h3]; rfl
    obtain ⟨c, hc⟩ : ∃ c, Ms.eachB 48 57 f = c := ⟨_, rfl⟩
    have KE := fun W => msEach_any f 48 57 48 57 rfl rfl W (by omega)
    rw [hc] at KE HRP
    have HKE := Stow.mk KE
    have HEC := Stow.mk hc
    have H3 := Stow.mk h3
    clear KE hc h3
    cases c
    · have HRN : Stow (Ms.readBack s = none) := ⟨by rw [HRP.out, if_neg (by simp)]⟩
      go_wp2_with fail
      refine (HKE.out _).mono ?_
      rintro e w2 ⟨rfl, rfl⟩
      have a0 := (Stow.out HH1).cell (i := 0) rfl
      have a1 := (Stow.out HH1).cell (i := 1) rfl
      have a2 := (Stow.out HH1).cell (i := 2) rfl
      have f0 := (Stow.out HH1).free 0
      have f1 := (Stow.out HH1).free 1
      have f2 := (Stow.out HH1).free 2
      go_wp2_with fail
      refine bodyPost_ret (rs_results _ w.heap.size (.int .i64 0) (.slice none 0 0) (.string ⟨#[]⟩) 3 _ ((((Stow.out HH1).set 0 _).set 1 _).set 2 _) rfl rfl) rfl ?_
      exact ⟨none, 0, by rw [Stow.out HRN]; rfl, by rw [Stow.out HRN]; exact SlR.nil _ _, below_set3 (Stow.out HB1) (Nat.le_refl _) _ _ _⟩
    have KA : Stow (∀ W, Calls Tryd.prog 79 #[.string (bs f)] W fun e w' => e = .returned (.tuple #[.int .i64 (Pg.num f), .nilIface]) ∧ Below W.heap.size W w') := ⟨fun W => by
      refine (Tryd.strconv_Atoi (bs f) (Pg.num f) (by rw [bs_size, H3.out]; omega) (Ms.atoi_num H3.out HEC.out) W).mono ?_
      rintro e w' ⟨rfl, t, rfl⟩
      exact ⟨rfl, Lib.bytesWorld_below _ _ _⟩⟩
    obtain ⟨N, hN⟩ : ∃ N, Pg.num f = N := ⟨_, rfl⟩
    rw [hN] at KA HRP
    clear hN
    obtain ⟨cc, hcc⟩ : ∃ c, Ms.checkBack ⟨N, L, b⟩ = c := ⟨_, rfl⟩
    have KC := fun W h1 => msCheckBack_any ⟨N, L, b⟩ A cap W h1 (by simp only; omega)
    rw [hcc] at KC HRP
    have HKC := Stow.mk KC
    clear KC hcc
    unfold Rs.val at HKC
    simp only at HKC
    have h3l := H3.out
    go_wp2_with fail
    refine (HKE.out _).mono ?_
    rintro e w2 ⟨rfl, rfl⟩
    go_wp2_with fail
    refine (KA.out _).mono ?_
    rintro e w2 ⟨rfl, hb2⟩
    have HH2 := Stow.mk (HH1.out.kept hb2)
    have HB2 := Stow.mk (Below.call HB1.out hb2)
    have HROW2 := Stow.mk (HROW.out.kept hb2)
    have HHD : Stow (HdR w2 A cap L) := ⟨⟨HROW2.out.slr, fun x hx => by have := HLEN.out.2.2 x hx; omega⟩⟩
    have HQ := rs_box w2 N A L.length cap b
    clear hb2
    go_wp2_with fail
    refine (HKC.out _ (HHD.out.alloc _)).mono ?_
    rintro e w3 ⟨rfl, hb3⟩
    obtain ⟨hQ3, hB3⟩ := HQ.out w3 hb3
    have HH3 := Stow.mk (HH2.out.kept hB3)
    have HB3 := Stow.mk (Below.call HB2.out hB3)
    have HROW3 := Stow.mk (HROW2.out.kept hB3)
    clear hb3 hB3
    by_cases hc0 : cc = 0
    · subst hc0
      have HRS : Stow (Ms.readBack s = some ⟨N, L, b⟩) := ⟨by rw [HRP.out, if_pos (by simp [H3.out])]⟩
      have q0 := hQ3.cell (i := 0) rfl
      have q1 := hQ3.cell (i := 1) rfl
      have q2 := hQ3.cell (i := 2) rfl
      clear hQ3
      have a0 := (Stow.out HH3).cell (i := 0) rfl
      have a1 := (Stow.out HH3).cell (i := 1) rfl
      have a2 := (Stow.out HH3).cell (i := 2) rfl
      have f0 := (Stow.out HH3).free 0
      have f1 := (Stow.out HH3).free 1
      have f2 := (Stow.out HH3).free 2
      go_wp2_with fail
      refine bodyPost_ret (rs_results _ w.heap.size (.int .i64 N) (.slice A L.length cap) (.string (bs b)) 0 _ (((HH3.out.set 0 _).set 1 _).set 2 _) rfl rfl) rfl ?_
      exact ⟨A, cap, by rw [HRS.out]; rfl, by rw [HRS.out]; exact (HROW3.out.only (only_set3 _ _ _) (by omega)).slr, below_set3 HB3.out (Nat.le_refl _) _ _ _⟩
    · have hci : ((cc : Int) != 0) = true := by rw [bne_iff_ne]; omega
      have HRN : Stow (Ms.readBack s = none) := ⟨by rw [HRP.out, if_neg (fun h => hc0 h.2.2)]⟩
      clear hQ3
      have a0 := (Stow.out HH3).cell (i := 0) rfl
      have a1 := (Stow.out HH3).cell (i := 1) rfl
      have a2 := (Stow.out HH3).cell (i := 2) rfl
      have f0 := (Stow.out HH3).free 0
      have f1 := (Stow.out HH3).free 1
      have f2 := (Stow.out HH3).free 2
      go_wp2_with fail
      refine bodyPost_ret (rs_results _ w.heap.size (.int .i64 0) (.slice none 0 0) (.string ⟨#[]⟩) 3 _ ((((Stow.out HH3).set 0 _).set 1 _).set 2 _) rfl rfl) rfl ?_
      exact ⟨none, 0, by rw [Stow.out HRN]; rfl, by rw [Stow.out HRN]; exact SlR.nil _ _, below_set3 (Stow.out HB3) (Nat.le_refl _) _ _ _⟩
end Go.Proofs.YtbnaicgomabigaaDoor
