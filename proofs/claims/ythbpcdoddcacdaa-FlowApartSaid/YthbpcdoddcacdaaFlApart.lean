/- Walk of the statement on flows and books that are apart. Conditions: the flow's memory, a slice's own; texts no longer than a bound. -/
import Derived.Test.YthbpcdoddcacdaaFlApLib
import Derived.Test.YthbpcdoddcacdaaDataZ
namespace Go.Proofs.Ythbpcdoddcacdaa
open Go.RowKit Cells
set_option linter.unusedVariables false

/-- What a bound asks of a frame's texts. -/
def Fr.bulk (c : Fr) : Prop := (∀ o ∈ c.ops, o.a.length ≤ reachBytes ∧ o.b.length ≤ reachBytes) ∧ (∀ h ∈ c.hs, h.2.length ≤ reachBytes) ∧ c.b.length ≤ reachBytes
theorem apRun (A : Option Addr) (cap n : Nat) (L : List Fm) (hops : Int) (W : World) (h : FlR W A cap L) (hnL : L.length = n) (hn : n ≤ 12) (hfew : ∀ x ∈ L, x.c.few) (hbu : ∀ x ∈ L, x.c.bulk) (g : Nat) (F : Nat → Prop) (S : Bk.St) (c : Nat) (sh : Bool)
    (hk : BKs W F g S c) (hF : ∀ k, F k → k < W.heap.size) (hc : c ≤ 60) (hv : S.Vals reachBytes) (LO : List Fr) (WO : Wn) (S' : Bk.St) (e1 : (runL (L.map Fm.c) (some S) sh).1 = LO) (e2 : (runL (L.map Fm.c) (some S) sh).2.1 = WO) (e3 : (runL (L.map Fm.c) (some S) sh).2.2 = some S') :
    Calls Try.prog 58 #[.agg #[.slice A n cap, .int .i64 hops], .pointer (some ⟨g, 0, none⟩), .bool sh] W fun e w' => ∃ A' cap' L' wc F', e = .returned (.tuple #[.agg #[.slice A' LO.length cap', .int .i64 hops], .agg wc.toArray]) ∧ L'.map Fm.c = LO ∧ FlD W.heap.size w' A' cap' L' ∧ WR W.heap.size w' wc WO ∧
      BKs w' F' g S' (c + 1001) ∧ (∀ k, F' k → F k ∨ W.heap.size ≤ k) ∧ Turn F W w' := by
  refine (flRun_any W A cap n L hops (some ⟨g, 0, none⟩) F (some S) c reachBytes sh h hnL (by omega) (fun x hx => (hfew x hx).small) (.inr ⟨g, S, rfl, rfl, hk⟩) hF (by omega) (fun x hx => ⟨by decide, (hbu x hx).1, (hbu x hx).2.1, (hbu x hx).2.2, (hfew x hx).2.2, fun S0 hS => by cases hS; exact hv⟩)).mono ?_
  rintro e w' ⟨A', cap', L', wc, F', he, hL, hD, hw, hb, hF', hT⟩
  rw [e1] at he hL
  rw [e2] at hw
  rw [e3] at hb
  refine ⟨A', cap', L', wc, F', he, hL, hD, hw, ?_, hF', hT⟩
  rcases hb with ⟨h1, _⟩ | ⟨g', S0, h1, h2, h3⟩
  · cases h1
  · cases h1
    cases h2
    exact h3
theorem Held.turn {w w' : World} {g : Nat} {F : Nat → Prop} {cs : List Value} (h : Held w g cs) (ht : Turn F w w') (hF : ¬ F g) : Held w' g cs := by
  have hl := h.lt
  obtain ⟨t, h0⟩ := h
  exact ⟨t, by rw [ht.block g hl hF]; exact h0⟩
theorem Sep.rot {B : Nat} {w : World} {x y z : BkE} (h : Sep B w [x, y, z]) : Sep B w [z, x, y] := h.perm (List.perm_append_comm (l₁ := [x, y]) (l₂ := [z]))
theorem Sep.four {B : Nat} {w : World} {x y z u : BkE} (h : Sep B w [x, y, z, u]) : BKs w x.F x.g x.S x.c ∧ BKs w y.F y.g y.S y.c ∧ BKs w z.F z.g z.S z.c ∧ BKs w u.F u.g u.S u.c :=
  ⟨(h.1 x (by simp)).1, (h.1 y (by simp)).1, (h.1 z (by simp)).1, (h.1 u (by simp)).1⟩
theorem flSame_len (L L' : List Fm) (LO : List Fr) (A A' : Option Addr) (cap cap' : Nat) (hops : Int) (w : World) (hc : L.map Fm.c = LO) (hc' : L'.map Fm.c = LO) (h : FlR w A cap L) (h' : FlR w A' cap' L') :
    Calls Try.prog 19 #[.agg #[.slice A LO.length cap, .int .i64 hops], .agg #[.slice A' LO.length cap', .int .i64 hops]] w fun e w' => e = .returned (.bool true) ∧ Below w.heap.size w w' := by
  have e1 : LO.length = L.length := by rw [← hc]; simp
  have := flSame_any L L' A A' cap cap' hops w (hc.trans hc'.symm) h h'
  rw [← e1] at this
  exact this
set_option maxHeartbeats 4000000 in
set_option maxRecDepth 100000 in
theorem apart37 (A : Option Addr) (cap n : Nat) (L : List Fm) (hops : Int) (Ae : Option Addr) (ce : Nat) (E : List Mv4) (w : World) (h : FlR w A cap L) (hnL : L.length = n) (hf : ∀ y ∈ L, y.c.fits) (hbu : ∀ y ∈ L, y.c.bulk)
    (hS : SlR w 4 (.slice Ae E.length ce) (E.map Mv4.cells)) (hE : ∀ x ∈ E, x.ok) (hEv : ∀ x ∈ E, x.v.length ≤ reachBytes) :
    Calls Try.prog 13 #[flv A n cap hops, .slice Ae E.length ce] w fun e w' => e = .returned (.bool true) ∧ Below w.heap.size w w' := by
  have HT := Stow.mk (Held.made w [.slice A n cap, .int .i64 hops] 24)
  have HB := Stow.mk (Below.alloc' (Below.self w) (.cells #[.slice A n cap, .int .i64 hops] 24))
  obtain ⟨W0, hW0⟩ : ∃ W, w.alloc (.cells #[.slice A n cap, .int .i64 hops] 24) = W := ⟨_, rfl⟩
  rw [show w.alloc (.cells [.slice A n cap, .int .i64 hops].toArray 24) = W0 from hW0] at HT
  rw [hW0] at HB
  have HFL := Stow.mk h
  have HNL := Stow.mk hnL
  have HFI := Stow.mk hf
  have HBU := Stow.mk hbu
  have HS := Stow.mk hS
  have HE := Stow.mk hE
  have HEV := Stow.mk hEv
  have HW0 := Stow.mk hW0
  have HFW := Stow.mk (flFew_any A cap n L hops W0 (h.keep HB.out) hf hnL)
  clear h hnL hf hbu hS hE hEv hW0
  go_enter Try.func13, Try.ntmps13
  go_upto_region 1 with fail
  generalize hW : World.alloc w _ = W
  obtain rfl : W = W0 := hW.symm.trans HW0.out
  clear hW HW0
  have q0 := HT.out.cell (i := 0) rfl
  have q1 := HT.out.cell (i := 1) rfl
  go_wp2_with fail
  refine HFW.out.mono ?_
  rintro e w1 ⟨r, rfl, hr, hb1⟩
  have HT := Stow.mk (HT.out.kept hb1)
  have HB := Stow.mk (HB.out.trans (hb1.mono HB.out.size))
  have HR := Stow.mk hr
  clear q0 q1 hb1 hr HFW
  cases r
  · go_wp2_with fail
    refine (known37_any _).mono ?_
    rintro e wk ⟨rfl, hbk⟩
    have HBK := Stow.mk (HB.out.trans (hbk.mono HB.out.size))
    clear hbk
    go_wp2_with fail
    go_ret
    exact ⟨rfl, HBK.out⟩
  by_cases h60 : 60 < E.length
  · have d1 : decide ((60 : Int) < E.length) = true := by simp; omega
    have d1' : decide (60 < E.length) = true := by simpa using h60
    go_wp2_with fail
    refine (known37_any _).mono ?_
    rintro e wk ⟨rfl, hbk⟩
    have HBK := Stow.mk (HB.out.trans (hbk.mono HB.out.size))
    clear hbk
    go_wp2_with fail
    go_ret
    exact ⟨rfl, HBK.out⟩
  have d1 : decide ((60 : Int) < E.length) = false := by simp; omega
  have d1' : decide (60 < E.length) = false := by simpa using h60
  have HEL := Stow.mk (show E.length ≤ 60 by omega)
  clear h60
  go_upto_region 4 with fail
  clear d1 d1'
  have HOX := Stow.mk (fun i (hi : i < E.length) => ownL_next hi)
  go_wp2_with fail
  go_loopw [5, 6] (fun v u wr => ∃ i : Nat, u = .int .i64 (i : Int) ∧ i ≤ E.length ∧ Stow (wr.ownsRow w1.heap.size 94 4 v (ownL (E.take i)).length ((ownL (E.take i)).flatMap Mv4.cells)) ∧ Stow (Below w1.heap.size w1 wr)) (fun _ u _ => E.length - (intOf u).toNat)
  case atStart => exact ⟨0, rfl, by omega, ⟨World.ownsRow_nil _ _ _ _⟩, ⟨Below.self _⟩⟩
  case round =>
    obtain ⟨i, rfl, hi, HO, HBR⟩ := hrel
    obtain ⟨Ao, co, rfl⟩ := own_form HO.out
    by_cases hlt : i < E.length
    · have hSW := SlR.keep HS.out (HB.out.trans (HBR.out.mono HB.out.size))
      obtain ⟨b, off, rfl, hblt, _⟩ := HS.out.open (by simp; omega)
      have HLO := Stow.mk (hSW.cells (i := i) (x := E[i].cells) (by rw [List.getElem?_map, List.getElem?_eq_getElem hlt]; rfl)).2
      have hnx := HOX.out i hlt
      have hol := ownL_len E i
      obtain ⟨x, hx⟩ : ∃ x, E[i] = x := ⟨_, rfl⟩
      rw [hx] at HLO hnx
      obtain ⟨xn, xs, xk, xv⟩ := x
      have HNX := Stow.mk hnx
      have q1 := HLO.out 1 (.bool xs) rfl
      have hii : (i : Int) < E.length := by omega
      have hi0 : (0 : Int) ≤ i := by omega
      have hel := HEL.out
      have K8 : Stow (((ownL (E.take i)).length + 1) * 48 ≤ 140737488355328 ∧ (ownL (E.take i)).length + 1 ≤ maxLen) := ⟨by omega, by unfold maxLen; omega⟩
      clear hx hnx hSW
      cases xs
      · have HX1 : Stow (∀ u ∈ ([.int .i64 xn, .bool false, .string (bs xk), .string (bs xv)] : List Value), u.oneCell' = true) := ⟨by intro u hu; simp at hu; rcases hu with rfl | rfl | rfl | rfl <;> rfl⟩
        go_wp2_with (first
          | (refine wpList_load_mid rfl 94 (.tmp 44) rfl b (off + i * 4) rfl [.int .i64 xn, .bool false, .string (bs xk), .string (bs xv)] _ HLO.out Try.underlying94 rfl (by kernel_rfl) ?_)
          | (at_builtin; refine wpList_append_elem_form wr [.int .i64 xn, .bool false, .string (bs xk), .string (bs xv)] _ rfl (.tmp 41) (.tmp 46) 93 rfl w1.heap.size 94 _ 4 48 Try.underlying93 info_ent37 _ _ _ HO.out rfl _ rfl rfl rfl (by decide) rfl HX1.out K8.out.1 K8.out.2 HBR.out.size ?_; intro A4 c4 w4 h4 hg4 hb4 hs4))
        refine ⟨⟨i + 1, by simp, by omega, ⟨?_⟩, ⟨HBR.out.trans hb4⟩⟩, by simp [intOf]; omega⟩
        rw [HNX.out]
        simp only [List.flatMap_append, List.length_append]
        exact h4
      · have HNY : Stow (ownL (E.take (i + 1)) = ownL (E.take i)) := ⟨by rw [HNX.out]; simp⟩
        go_wp2_with fail
        exact ⟨⟨i + 1, by simp, by omega, ⟨by rw [HNY.out]; exact HO.out⟩, HBR⟩, by simp [intOf]; omega⟩
    · obtain rfl : i = E.length := by omega
      obtain ⟨O, hO⟩ : ∃ O, ownL (E.take E.length) = O := ⟨_, rfl⟩
      rw [hO] at HO
      rw [hO]
      rw [List.take_length] at hO
      have hOl : O.length ≤ 60 := by rw [← hO]; exact Nat.le_trans (List.length_filter_le _ _) HEL.out
      have hOm : ∀ x ∈ O, x ∈ E := fun x hx => by rw [← hO] at hx; exact (List.mem_filter.1 hx).1
      have HSO := Stow.mk (own_of_cells (enc := Mv4.cells) (c := 4) (fun _ => rfl) HO.out rfl)
      obtain ⟨hn12, hfew⟩ := HR.out (by simp)
      have hal := play_own 4 E (Bk.new 4) (Bk.new 4) (Bk.Al.refl false _)
      rw [show (E.filter fun m => !m.s) = O from hO] at hal
      have hvE := play_vals 4 E (Bk.new 4) (new_vals 4 reachBytes) HEV.out
      have hvO := play_vals 4 O (Bk.new 4) (new_vals 4 reachBytes) fun x hx => HEV.out x (hOm x hx)
      have hsE := (Bk.play_short 4 E HE.out).1
      have hsO := (Bk.play_short 4 O fun x hx => HE.out x (hOm x hx)).1
      have hWl := HB.out.trans (HBR.out.mono HB.out.size)
      have HBE := Stow.mk (fun W (hb : Below wr.heap.size wr W) => both_any Ae ce E W (HS.out.keep (hWl.trans (hb.mono hWl.size))) HE.out HEL.out)
      have HBO := Stow.mk (fun W (hb : Below wr.heap.size wr W) => both_any Ao co O W (HSO.out.keep hb) (fun x hx => HE.out x (hOm x hx)) hOl)
      obtain ⟨SE, hSE⟩ : ∃ S, Bk.play 4 E = S := ⟨_, rfl⟩
      obtain ⟨SO, hSO⟩ : ∃ S, Bk.play 4 O = S := ⟨_, rfl⟩
      rw [show E.foldl (fun S m => (S.put m.n m.s m.k m.v).1) (Bk.new 4) = SE from hSE, show O.foldl (fun S m => (S.put m.n m.s m.k m.v).1) (Bk.new 4) = SO from hSO] at hal
      rw [show E.foldl (fun S m => (S.put m.n m.s m.k m.v).1) (Bk.new 4) = SE from hSE] at hvE
      rw [show O.foldl (fun S m => (S.put m.n m.s m.k m.v).1) (Bk.new 4) = SO from hSO] at hvO
      rw [hSE] at HBE hsE
      rw [hSO] at HBO hsO
      have hopl : ∀ x ∈ L.map Fm.c, ∀ o ∈ x.ops, o.a.length ≤ maxLen := fun x hx o ho => by
        obtain ⟨y, hy, rfl⟩ := List.mem_map.1 hx
        have := ((HBU.out y hy).1 o ho).1
        exact Nat.le_trans this (by decide)
      obtain ⟨e1, e2, SA, SB, ea, eb, al1, al2⟩ := runL_alike (sh := false) (L.map Fm.c) hal
      obtain ⟨-, -, SC, -, ec, -, -, al3⟩ := runL_alike (sh := true) (L.map Fm.c) (Bk.Al.refl true SE)
      have hsA : SA.Short := by obtain ⟨S', h1, h2⟩ := runL_short (sh := false) (L.map Fm.c) hsE hopl; rw [ea] at h1; cases h1; exact h2
      have hsB : SB.Short := by obtain ⟨S', h1, h2⟩ := runL_short (sh := false) (L.map Fm.c) hsO hopl; rw [eb] at h1; cases h1; exact h2
      have hsC : SC.Short := by obtain ⟨S', h1, h2⟩ := runL_short (sh := true) (L.map Fm.c) hsE hopl; rw [ec] at h1; cases h1; exact h2
      obtain ⟨LO, hLO⟩ : ∃ x, (runL (L.map Fm.c) (some SE) false).1 = x := ⟨_, rfl⟩
      obtain ⟨WO, hWO⟩ : ∃ x, (runL (L.map Fm.c) (some SE) false).2.1 = x := ⟨_, rfl⟩
      rw [hLO] at e1
      rw [hWO] at e2
      have HRA := Stow.mk (fun W (hb : Below wr.heap.size wr W) g F c hk hF hc => apRun A cap n L hops W (HFL.out.keep (hWl.trans (hb.mono hWl.size))) HNL.out hn12 hfew HBU.out g F SE c false hk hF hc hvE LO WO SA hLO hWO ea)
      have HRB := Stow.mk (fun W (hb : Below wr.heap.size wr W) g F c hk hF hc => apRun A cap n L hops W (HFL.out.keep (hWl.trans (hb.mono hWl.size))) HNL.out hn12 hfew HBU.out g F SO c false hk hF hc hvO LO WO SB e1.symm e2.symm eb)
      have HRC := Stow.mk (fun W (hb : Below wr.heap.size wr W) g F c hk hF hc => apRun A cap n L hops W (HFL.out.keep (hWl.trans (hb.mono hWl.size))) HNL.out hn12 hfew HBU.out g F SE c true hk hF hc hvE _ _ SC rfl rfl ec)
      have HQ := Stow.mk (fun W (hb : Below wr.heap.size wr W) => HT.out.kept (HBR.out.trans (hb.mono HBR.out.size)))
      have HAL := Stow.mk (And.intro al1 (And.intro al2 al3))
      have HSH := Stow.mk (And.intro hsE (And.intro hsA (And.intro hsB hsC)))
      have HWL := Stow.mk hWl
      have HOL := Stow.mk hOl
      obtain ⟨wl, hwl⟩ : ∃ W, wr = W := ⟨_, rfl⟩
      have HWZ := Stow.mk (Below.self wl)
      have HSP := Stow.mk (Sep.nil wl.heap.size wl)
      have hel := HEL.out
      rw [hwl] at HWL HQ HRA HRB HRC HBE HBO
      rw [hwl]
      clear hO hOm hfew hal hvE hvO hsE hsO hopl hWl e1 e2 ea eb ec al1 al2 al3 hsA hsB hsC hLO hWO hSE hSO HO HSO HOX HBR HR HB HT HS HE HEV HFL HFI HBU hi hlt hn12 hwl
      have hii : ¬ ((E.length : Int) < E.length) := by omega
      go_upto_region 9 with fail
      clear hii
      go_wp2_with fail
      refine (HBE.out wl HWZ.out).mono ?_
      rintro e w9 ⟨g9, A9, c9, F9, rfl, hK9, hF9, hb9⟩
      have ba := Below.alloc' (Below.self w9) (.cells #[.int .i64 (SE.nodes : Nat), .slice A9 (2 * SE.nodes) c9, .int .i64 (SE.lost : Nat)] 73)
      have HSP := Stow.mk ((HSP.out.add hb9 HWZ.out.size hF9 hK9).keep ba)
      have HBW9 := Stow.mk (hb9.trans (ba.mono hb9.size))
      have HWZ := Stow.mk (HWZ.out.trans (HBW9.out.mono HWZ.out.size))
      have HFK9 := Stow.mk hF9
      obtain ⟨W9, hW9⟩ : ∃ W, w9.alloc (.cells #[.int .i64 (SE.nodes : Nat), .slice A9 (2 * SE.nodes) c9, .int .i64 (SE.lost : Nat)] 73) = W := ⟨_, rfl⟩
      rw [hW9] at HSP HWZ HBW9
      have HWS := Stow.mk hW9
      clear ba hb9 hK9 hF9 hW9
      go_upto_region 10 with fail
      rw [HWS.out]
      clear HWS
      go_wp2_with fail
      refine (HBO.out W9 HWZ.out).mono ?_
      rintro e w10 ⟨g10, A10, c10, F10, rfl, hK10, hF10, hb10⟩
      have ba := Below.alloc' (Below.self w10) (.cells #[.int .i64 (SO.nodes : Nat), .slice A10 (2 * SO.nodes) c10, .int .i64 (SO.lost : Nat)] 73)
      have HSP := Stow.mk ((HSP.out.add hb10 HWZ.out.size hF10 hK10).keep ba)
      have HBW10 := Stow.mk (hb10.trans (ba.mono hb10.size))
      have HWZ := Stow.mk (HWZ.out.trans (HBW10.out.mono HWZ.out.size))
      have HFK10 := Stow.mk hF10
      obtain ⟨W10, hW10⟩ : ∃ W, w10.alloc (.cells #[.int .i64 (SO.nodes : Nat), .slice A10 (2 * SO.nodes) c10, .int .i64 (SO.lost : Nat)] 73) = W := ⟨_, rfl⟩
      rw [hW10] at HSP HWZ HBW10
      have HWS := Stow.mk hW10
      clear ba hb10 hK10 hF10 hW10
      go_upto_region 11 with fail
      rw [HWS.out]
      clear HWS
      go_wp2_with fail
      refine (HBE.out W10 HWZ.out).mono ?_
      rintro e w11 ⟨g11, A11, c11, F11, rfl, hK11, hF11, hb11⟩
      have ba := Below.alloc' (Below.self w11) (.cells #[.int .i64 (SE.nodes : Nat), .slice A11 (2 * SE.nodes) c11, .int .i64 (SE.lost : Nat)] 73)
      have HSP := Stow.mk ((HSP.out.add hb11 HWZ.out.size hF11 hK11).keep ba)
      have HBW11 := Stow.mk (hb11.trans (ba.mono hb11.size))
      have HWZ := Stow.mk (HWZ.out.trans (HBW11.out.mono HWZ.out.size))
      have HFK11 := Stow.mk hF11
      obtain ⟨W11, hW11⟩ : ∃ W, w11.alloc (.cells #[.int .i64 (SE.nodes : Nat), .slice A11 (2 * SE.nodes) c11, .int .i64 (SE.lost : Nat)] 73) = W := ⟨_, rfl⟩
      rw [hW11] at HSP HWZ HBW11
      have HWS := Stow.mk hW11
      clear ba hb11 hK11 hF11 hW11
      go_upto_region 12 with fail
      rw [HWS.out]
      clear HWS
      have HSP := Stow.mk HSP.out.rot
      have HF10 := Stow.mk (show ∀ k, F10 k → k < W11.heap.size from fun k hk => ((HSP.out.1 ⟨F10, g10, SO, O.length⟩ (by simp)).2 k hk).2)
      have HRUN := Stow.mk (HRA.out W11 HWZ.out g9 F9 E.length (HSP.out.1 ⟨F9, g9, SE, E.length⟩ (by simp)).1 (fun k hk => ((HSP.out.1 ⟨F9, g9, SE, E.length⟩ (by simp)).2 k hk).2) hel)
      have hqc := HQ.out W11 HWZ.out
      have q0 := hqc.cell (i := 0) rfl
      have q1 := hqc.cell (i := 1) rfl
      clear hqc
      go_wp2_with fail
      refine HRUN.out.mono ?_
      rintro e w12 ⟨A12, c12, L12, wc12, F12, rfl, hL12, hD12, hw12, hK12, hF12, hT12⟩
      clear q0 q1
      have HF9 := Stow.mk (fun k hk => ((HSP.out.1 ⟨F9, g9, SE, E.length⟩ (by simp)).2 k hk).1)
      have HSP := Stow.mk (HSP.out.head hK12 hF12 hT12 HWZ.out.size)
      have HWZ := Stow.mk (HWZ.out.trans (hT12.below HF9.out HWZ.out.size))
      have hs12 := hT12.size
      obtain ⟨hth, hq1, hq2, hbx⟩ := runbox w12 A12 LO.length c12 hops wc12 hw12.len.1
      have HTH := Stow.mk hth
      have HLN := Stow.mk hw12.len
      have HV13 := Stow.mk hq1
      have HV14 := Stow.mk hq2
      have HSP := Stow.mk (HSP.out.keep hbx)
      have HWZ := Stow.mk (HWZ.out.trans (hbx.mono HWZ.out.size))
      have HBX := Stow.mk hbx
      obtain ⟨W12, hW12⟩ : ∃ W, ((w12.alloc (.cells #[.slice A12 LO.length c12, .int .i64 hops] 24)).alloc (.cells want0.toArray 98)).setCells (w12.heap.size + 1) 0 wc12 = W := ⟨_, rfl⟩
      rw [hW12] at HV13 HV14 HSP HWZ HBX
      have HWS := Stow.mk hW12
      clear hth hq1 hq2 hbx hW12
      go_upto_region 13 with (refine wpList_store_hx rfl 98 (.tmp 14) (.tmp 68) rfl rfl (w12.heap.size + 1) 0 wc12 rfl rfl HTH.out (by rw [HLN.out.1]; kernel_rfl) HLN.out.2 ?_)
      generalize hWg : World.setCells _ _ _ _ = Wx
      obtain rfl : W12 = Wx := HWS.out.symm.trans hWg
      clear hWg HWS HTH HLN
      have HD12 := Stow.mk (hD12.keep HBX.out)
      have HW12 := Stow.mk (hw12.keep HBX.out)
      have HL12 := Stow.mk hL12
      clear hK12 hF12 hT12 hD12 hw12 hL12 HF9 HRUN HBX
      have HSP := Stow.mk HSP.out.rot
      have HRUN := Stow.mk (HRB.out W12 HWZ.out g10 F10 O.length (HSP.out.1 ⟨F10, g10, SO, O.length⟩ (by simp)).1 (fun k hk => ((HSP.out.1 ⟨F10, g10, SO, O.length⟩ (by simp)).2 k hk).2) HOL.out)
      have hqc := HQ.out W12 HWZ.out
      have q0 := hqc.cell (i := 0) rfl
      have q1 := hqc.cell (i := 1) rfl
      clear hqc
      go_wp2_with fail
      refine HRUN.out.mono ?_
      rintro e w13 ⟨A13, c13, L13, wc13, F13, rfl, hL13, hD13, hw13, hK13, hF13, hT13⟩
      clear q0 q1
      have HFB := Stow.mk (fun k hk => ((HSP.out.1 ⟨F10, g10, SO, O.length⟩ (by simp)).2 k hk).1)
      have HSP := Stow.mk (HSP.out.head hK13 hF13 hT13 HWZ.out.size)
      have HWZ := Stow.mk (HWZ.out.trans (hT13.below HFB.out HWZ.out.size))
      have HD12 := Stow.mk (HD12.out.turn hT13 HF10.out)
      have HW12 := Stow.mk (HW12.out.turn hT13 HF10.out)
      have HV13 := Stow.mk (HV13.out.turn hT13 (fun hf => by have := HF10.out _ hf; omega))
      have HV14 := Stow.mk (HV14.out.turn hT13 (fun hf => by have := HF10.out _ hf; omega))
      obtain ⟨hth, hq1, hq2, hbx⟩ := runbox w13 A13 LO.length c13 hops wc13 hw13.len.1
      have HTH := Stow.mk hth
      have HLN := Stow.mk hw13.len
      have HV15 := Stow.mk hq1
      have HV16 := Stow.mk hq2
      have HSP := Stow.mk (HSP.out.keep hbx)
      have HWZ := Stow.mk (HWZ.out.trans (hbx.mono HWZ.out.size))
      have HBX := Stow.mk hbx
      obtain ⟨W13, hW13⟩ : ∃ W, ((w13.alloc (.cells #[.slice A13 LO.length c13, .int .i64 hops] 24)).alloc (.cells want0.toArray 98)).setCells (w13.heap.size + 1) 0 wc13 = W := ⟨_, rfl⟩
      rw [hW13] at HV15 HV16 HSP HWZ HBX
      have HWS := Stow.mk hW13
      clear hth hq1 hq2 hbx hW13
      go_upto_region 14 with (refine wpList_store_hx rfl 98 (.tmp 16) (.tmp 74) rfl rfl (w13.heap.size + 1) 0 wc13 rfl rfl HTH.out (by rw [HLN.out.1]; kernel_rfl) HLN.out.2 ?_)
      generalize hWg : World.setCells _ _ _ _ = Wx
      obtain rfl : W13 = Wx := HWS.out.symm.trans hWg
      clear hWg HWS HTH HLN
      have HD12 := Stow.mk (HD12.out.keep HBX.out)
      have HW12 := Stow.mk (HW12.out.keep HBX.out)
      have HV13 := Stow.mk (HV13.out.kept HBX.out)
      have HV14 := Stow.mk (HV14.out.kept HBX.out)
      have HD13 := Stow.mk (hD13.keep HBX.out)
      have HW13 := Stow.mk (hw13.keep HBX.out)
      have HL13 := Stow.mk hL13
      clear hK13 hF13 hT13 hD13 hw13 hL13 HFB HRUN HBX hs12
      go_wp2_with fail
      refine (HBE.out W13 HWZ.out).mono ?_
      rintro e w14 ⟨g14, A14, c14, F14, rfl, hK14, hF14, hb14⟩
      have ba := Below.alloc' (Below.self w14) (.cells #[.int .i64 (SE.nodes : Nat), .slice A14 (2 * SE.nodes) c14, .int .i64 (SE.lost : Nat)] 73)
      have HSP := Stow.mk ((HSP.out.add hb14 HWZ.out.size hF14 hK14).keep ba)
      have HBW14 := Stow.mk (hb14.trans (ba.mono hb14.size))
      have HWZ := Stow.mk (HWZ.out.trans (HBW14.out.mono HWZ.out.size))
      have HFK14 := Stow.mk hF14
      obtain ⟨W14, hW14⟩ : ∃ W, w14.alloc (.cells #[.int .i64 (SE.nodes : Nat), .slice A14 (2 * SE.nodes) c14, .int .i64 (SE.lost : Nat)] 73) = W := ⟨_, rfl⟩
      rw [hW14] at HSP HWZ HBW14
      have HWS := Stow.mk hW14
      clear ba hb14 hK14 hF14 hW14
      go_upto_region 15 with fail
      rw [HWS.out]
      clear HWS
      have HRUN := Stow.mk (HRC.out W14 HWZ.out g14 F14 E.length (HSP.out.1 ⟨F14, g14, SE, E.length⟩ (by simp)).1 (fun k hk => ((HSP.out.1 ⟨F14, g14, SE, E.length⟩ (by simp)).2 k hk).2) hel)
      have hqc := HQ.out W14 HWZ.out
      have q0 := hqc.cell (i := 0) rfl
      have q1 := hqc.cell (i := 1) rfl
      clear hqc
      go_wp2_with fail
      refine HRUN.out.mono ?_
      rintro e w15 ⟨A15, c15, L15, wc15, F15, rfl, hL15, hD15, hw15, hK15, hF15, hT15⟩
      clear q0 q1
      have HFB := Stow.mk (fun k hk => ((HSP.out.1 ⟨F14, g14, SE, E.length⟩ (by simp)).2 k hk).1)
      have HSP := Stow.mk (HSP.out.head hK15 hF15 hT15 HWZ.out.size)
      have HWZ := Stow.mk (HWZ.out.trans (hT15.below HFB.out HWZ.out.size))
      have HBY := Stow.mk (HBW14.out.trans (hT15.below (fun k hk => (HFK14.out k hk).1) HBW14.out.size))
      have HD12 := Stow.mk (HD12.out.keep HBY.out)
      have HW12 := Stow.mk (HW12.out.keep HBY.out)
      have HD13 := Stow.mk (HD13.out.keep HBY.out)
      have HW13 := Stow.mk (HW13.out.keep HBY.out)
      have HV13 := Stow.mk (HV13.out.kept HBY.out)
      have HV14 := Stow.mk (HV14.out.kept HBY.out)
      have HV15 := Stow.mk (HV15.out.kept HBY.out)
      have HV16 := Stow.mk (HV16.out.kept HBY.out)
      obtain ⟨hkc, hkb, hka, hke⟩ := HSP.out.four
      have HKA := Stow.mk hka
      have HKB := Stow.mk hkb
      have HKC := Stow.mk hkc
      have HKE := Stow.mk hke
      clear hka hkb hkc hke
      clear hK15 hF15 hT15 hD15 hw15 hL15 HFB HRUN HBY HBW14 HFK14 HSP
      obtain ⟨wl2, hwl2⟩ : ∃ W, w15 = W := ⟨_, rfl⟩
      rw [hwl2] at HWZ HD12 HW12 HD13 HW13 HV13 HV14 HV15 HV16 HKA HKB HKE HKC
      rw [hwl2]
      clear hwl2
      go_wp2_with fail
      go_loopw [19] (fun u wr => ∃ i : Nat, u = .int .i64 (i : Int) ∧ i ≤ 4 ∧ Stow (Below wl2.heap.size wl2 wr)) (fun u _ => 4 - (intOf u).toNat)
      case atStart => exact ⟨0, rfl, by omega, ⟨Below.self _⟩⟩
      case round =>
        obtain ⟨i, rfl, hi, HBR⟩ := hrel
        by_cases hlt4 : i < 4
        · have hii : (i : Int) < 4 := by omega
          have hofa := HAL.out.2.1.of (i : Int)
          have hofb := HAL.out.1.of (i : Int)
          have hofc := HAL.out.2.2.of (i : Int)
          simp only [Bool.not_true, Bool.not_false] at hofa hofb hofc
          have HA1 := fun W (h : Below wl2.heap.size wl2 W) => bkAll_any W _ _ _ _ (i : Int) true (HKA.out.keep h) HSH.out.2.1
          have HA2 := fun W (h : Below wl2.heap.size wl2 W) => bkAll_any W _ _ _ _ (i : Int) true (HKE.out.keep h) HSH.out.1
          have HA3 := fun W (h : Below wl2.heap.size wl2 W) => bkAll_any W _ _ _ _ (i : Int) false (HKA.out.keep h) HSH.out.2.1
          have HA4 := fun W (h : Below wl2.heap.size wl2 W) => bkAll_any W _ _ _ _ (i : Int) false (HKB.out.keep h) HSH.out.2.2.1
          have HA5 := fun W (h : Below wl2.heap.size wl2 W) => bkAll_any W _ _ _ _ (i : Int) false (HKC.out.keep h) HSH.out.2.2.2
          have HA6 := fun W (h : Below wl2.heap.size wl2 W) => bkAll_any W _ _ _ _ (i : Int) false (HKE.out.keep h) HSH.out.1
          rw [hofa] at HA1
          rw [hofb] at HA3
          rw [hofc] at HA5
          obtain ⟨Ex, hEx⟩ : ∃ x, SE.of (i : Int) true = x := ⟨_, rfl⟩
          obtain ⟨Bx, hBx⟩ : ∃ x, SB.of (i : Int) false = x := ⟨_, rfl⟩
          obtain ⟨Cx, hCx⟩ : ∃ x, SE.of (i : Int) false = x := ⟨_, rfl⟩
          rw [hEx] at HA1 HA2
          rw [hBx] at HA3 HA4
          rw [hCx] at HA5 HA6
          clear hofa hofb hofc hEx hBx hCx
          have HA1 := Stow.mk HA1
          have HA2 := Stow.mk HA2
          have HA3 := Stow.mk HA3
          have HA4 := Stow.mk HA4
          have HA5 := Stow.mk HA5
          have HA6 := Stow.mk HA6
          go_wp2_with fail
          refine (HA1.out _ HBR.out).mono ?_
          rintro e wa ⟨Aa, ca, rfl, hEa, hba⟩
          have HBR := Stow.mk (HBR.out.trans (hba.mono HBR.out.size))
          have HEa := Stow.mk hEa
          clear hEa hba
          go_wp2_with fail
          refine (HA2.out _ HBR.out).mono ?_
          rintro e wb ⟨Ab, cb, rfl, hEb, hbb⟩
          have HBR := Stow.mk (HBR.out.trans (hbb.mono HBR.out.size))
          have HEa := Stow.mk (HEa.out.keep hbb)
          have HEb := Stow.mk hEb
          clear hEb hbb
          go_wp2_with fail
          refine (enSame_any Ex Aa Ab ca cb _ HEa.out HEb.out).mono ?_
          rintro e wc ⟨rfl, hbc⟩
          have HBR := Stow.mk (HBR.out.trans (hbc.mono HBR.out.size))
          clear hbc HEa HEb
          go_wp2_with fail
          refine (HA3.out _ HBR.out).mono ?_
          rintro e wa ⟨Aa, ca, rfl, hEa, hba⟩
          have HBR := Stow.mk (HBR.out.trans (hba.mono HBR.out.size))
          have HEa := Stow.mk hEa
          clear hEa hba
          go_wp2_with fail
          refine (HA4.out _ HBR.out).mono ?_
          rintro e wb ⟨Ab, cb, rfl, hEb, hbb⟩
          have HBR := Stow.mk (HBR.out.trans (hbb.mono HBR.out.size))
          have HEa := Stow.mk (HEa.out.keep hbb)
          have HEb := Stow.mk hEb
          clear hEb hbb
          go_wp2_with fail
          refine (enSame_any Bx Aa Ab ca cb _ HEa.out HEb.out).mono ?_
          rintro e wc ⟨rfl, hbc⟩
          have HBR := Stow.mk (HBR.out.trans (hbc.mono HBR.out.size))
          clear hbc HEa HEb
          go_wp2_with fail
          refine (HA5.out _ HBR.out).mono ?_
          rintro e wa ⟨Aa, ca, rfl, hEa, hba⟩
          have HBR := Stow.mk (HBR.out.trans (hba.mono HBR.out.size))
          have HEa := Stow.mk hEa
          clear hEa hba
          go_wp2_with fail
          refine (HA6.out _ HBR.out).mono ?_
          rintro e wb ⟨Ab, cb, rfl, hEb, hbb⟩
          have HBR := Stow.mk (HBR.out.trans (hbb.mono HBR.out.size))
          have HEa := Stow.mk (HEa.out.keep hbb)
          have HEb := Stow.mk hEb
          clear hEb hbb
          go_wp2_with fail
          refine (enSame_any Cx Aa Ab ca cb _ HEa.out HEb.out).mono ?_
          rintro e wc ⟨rfl, hbc⟩
          have HBR := Stow.mk (HBR.out.trans (hbc.mono HBR.out.size))
          clear hbc HEa HEb
          go_wp2_with fail
          exact ⟨⟨i + 1, rfl, by omega, HBR⟩, by simp [intOf]; omega⟩
        · obtain rfl : i = 4 := by omega
          have HSA := Stow.mk (fun W (h : Below wl2.heap.size wl2 W) => flSame_len L12 L13 LO A12 A13 c12 c13 hops W HL12.out HL13.out (HD12.out.keep h).rd (HD13.out.keep h).rd)
          have HSW := Stow.mk (fun W (h : Below wl2.heap.size wl2 W) => wnSame_any WO wc12 wc13 W (HW12.out.keep h).want (HW13.out.keep h).want)
          have HV13 := Stow.mk (HV13.out.kept HBR.out)
          have HV15 := Stow.mk (HV15.out.kept HBR.out)
          have HV14 := Stow.mk (HV14.out.kept HBR.out)
          have HV16 := Stow.mk (HV16.out.kept HBR.out)
          have HL1 := Stow.mk HW12.out.len.1
          have HL2 := Stow.mk HW13.out.len.1
          have q0 := HV13.out.cell (i := 0) rfl
          have q1 := HV13.out.cell (i := 1) rfl
          have p0 := HV15.out.cell (i := 0) rfl
          have p1 := HV15.out.cell (i := 1) rfl
          go_wp2_with fail
          refine (HSA.out _ HBR.out).mono ?_
          rintro e w16 ⟨rfl, hb16⟩
          have HBR := Stow.mk (HBR.out.trans (hb16.mono HBR.out.size))
          have HG14 := Stow.mk (HV14.out.kept hb16).range
          have HG16 := Stow.mk (HV16.out.kept hb16).range
          clear q0 q1 p0 p1 hb16
          go_wp2_with (first
            | (refine wpList_load_guarded rfl 98 (.tmp 14) rfl (w12.heap.size + 1) 0 rfl wc12 _ HG14.out Try.underlying98 rfl (by rw [HL1.out]; kernel_rfl) ?_)
            | (refine wpList_load_guarded rfl 98 (.tmp 16) rfl (w13.heap.size + 1) 0 rfl wc13 _ HG16.out Try.underlying98 rfl (by rw [HL2.out]; kernel_rfl) ?_))
          refine (HSW.out _ HBR.out).mono ?_
          rintro e w17 ⟨rfl, hb17⟩
          have HBR := Stow.mk (HBR.out.trans (hb17.mono HBR.out.size))
          clear hb17
          go_wp2_with fail
          refine (known37_any _).mono ?_
          rintro e w18 ⟨rfl, hb18⟩
          have HBK := Stow.mk (HWL.out.trans ((HWZ.out.trans ((HBR.out.trans (hb18.mono HBR.out.size)).mono HWZ.out.size)).mono HWL.out.size))
          clear hb18
          go_wp2_with fail
          go_ret
          exact ⟨by first | rfl | simp, HBK.out⟩
end Go.Proofs.Ythbpcdoddcacdaa
