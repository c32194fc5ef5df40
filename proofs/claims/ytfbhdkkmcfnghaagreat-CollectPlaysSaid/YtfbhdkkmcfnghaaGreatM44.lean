/- Walks of the reference's Verdict, Tree. Conditions: the lists' memory.; Walks of the reference's One, Traces at equal things. Conditions: their memory.; Walks of the law's nothing, known. No condition.; A number that came is not fresh again, in plain Lean. No condition.; A collector that is told the same thing again, in plain Lean. No condition. -/
import Derived.Test.YtfbhdkkmcfnghaaGreatM42
import Derived.Test.YtfbhdkkmcfnghaaGreatM43
import Derived.Test.YtfbhdkkmcfnghaaGreatM31
import Derived.Test.YtfbhdkkmcfnghaaGreatM23
import Derived.Test.YtfbhdkkmcfnghaaGreatM32
import Derived.Test.YtfbhdkkmcfnghaaGreatM37

section
namespace Go.Proofs.YtfbhdkkmcfnghaaGreat
open Go.RowKit
set_option linter.unusedVariables false
set_option linter.unusedSimpArgs false

set_option maxHeartbeats 4000000 in
set_option maxRecDepth 100000 in
theorem rVerdict_any {c : Co} {m : Nat} {v : Value} {W0 : List Wm} {A : Option Addr} {cap : Nat} {R : List Km} {w : World} (h : RfS w c v W0 A cap R) (hc : c.Ok m) (hi lo : Nat) :
    Calls Tryz.prog 15 #[.agg (c.cells v A R.length cap).toArray, .agg #[.int .u64 (hi : Int), .int .u64 (lo : Int)]] w fun e w' => e = .returned (.int .i64 (saidK (St.get c.K hi lo) : Nat)) ∧ Below w.heap.size w w' := by
  have hfw : R.length ≤ 32 ∧ ∀ m ∈ R, m.k.L.length ≤ 64 ∧ KdOk m.k.L := CoR.few (P := fun _ => True) (v := v) (W := W0) ⟨h.win, h.wis, ⟨fun a n c e => trivial, fun p hp a ha => trivial⟩, ⟨fun _ a e => trivial, fun p hp a e => trivial⟩, h.ks, h.kk⟩ hc
  have HOK := Stow.mk (hc.okK hi lo)
  have HNU := Stow.mk (h.win.form)
  have hkk := h.kk
  have b1 := Below.alloc' (Below.self w) (.cells (c.cells v A R.length cap).toArray 32)
  have b2 := Below.alloc' (Below.self (w.alloc (.cells (c.cells v A R.length cap).toArray 32))) (.cells #[.int .u64 (hi : Int), .int .u64 (lo : Int)] 25)
  have h1 := (Held.made w (c.cells v A R.length cap) 32).kept b2
  have h2 := Held.made (w.alloc (.cells (c.cells v A R.length cap).toArray 32)) [.int .u64 (hi : Int), .int .u64 (lo : Int)] 25
  have hb := Below.call b1 b2
  obtain ⟨W, hW⟩ : ∃ W, (w.alloc (.cells (c.cells v A R.length cap).toArray 32)).alloc (.cells #[.int .u64 (hi : Int), .int .u64 (lo : Int)] 25) = W := ⟨_, rfl⟩
  rw [hW] at h1 hb
  rw [show (w.alloc (.cells (c.cells v A R.length cap).toArray 32)).alloc (.cells [.int .u64 (hi : Int), .int .u64 (lo : Int)].toArray 25) = W from hW] at h2
  simp only [World.size_alloc] at h2
  have HB := Stow.mk hb
  have HG := rGet_any A cap R hi lo W (h.keep hb).ks (by omega)
  rw [hkk] at HG
  obtain ⟨k, hk⟩ : ∃ k, St.get c.K hi lo = k := ⟨_, rfl⟩
  rw [hk] at HG HOK ⊢
  have HKC := Stow.mk HG
  have HW := Stow.mk hW
  have q2 := h1.cell (i := 2) rfl
  have d0 := h2.cell (i := 0) rfl
  have d1 := h2.cell (i := 1) rfl
  clear b1 b2 h1 h2 hb hW h hc hfw hkk HG hk
  unfold Co.cells at HW
  unfold Co.cells
  obtain ⟨Av, kv, rfl⟩ := HNU.out
  go_enter Tryz.func15, Tryz.ntmps15
  go_upto_region 1 with fail
  generalize hX : World.alloc (World.alloc w _) _ = X
  obtain rfl : W = X := HW.out.symm.trans hX
  clear hX HW
  go_wp2_with fail
  refine HKC.out.mono ?_
  rintro e w1 ⟨⟨⟨mh, ml, mL, mx, mc⟩, mA, mcap⟩, rfl, hk', hR', hb1⟩
  obtain ⟨kp, kb⟩ := k
  simp only at hk'
  subst hk'
  have HR := Stow.mk (show SpR w1 mA mcap mL from hR')
  have HB := Stow.mk (HB.out.trans (hb1.mono HB.out.size))
  have HB1 := Stow.mk (HB.out.alloc HB.out.size (.cells #[.int .u64 (mh : Int), .int .u64 (ml : Int), .slice mA mL.length mcap, .bool mx, .bool mc] 40))
  have HR1 := Stow.mk (HR.out.alloc (.cells #[.int .u64 (mh : Int), .int .u64 (ml : Int), .slice mA mL.length mcap, .bool mx, .bool mc] 40))
  clear hR' hb1 q2 d0 d1
  dsimp only [Km.cells]
  cases kb with
  | false =>
    go_wp2_with fail
    go_ret
    exact ⟨rfl, HB1.out⟩
  | true =>
    obtain ⟨hn, hkd⟩ := HOK.out rfl
    have HKV := Stow.mk (rfOf_any mA mcap mh ml mL mx mc _ HR1.out (by simp only at hn; omega) hkd)
    clear hn hkd
    go_wp2_with fail
    refine HKV.out.mono ?_
    rintro e w2 ⟨rfl, hb2⟩
    have HB2 := Stow.mk (HB1.out.trans (hb2.mono HB1.out.size))
    clear hb2
    go_wp2_with fail
    go_ret
    exact ⟨rfl, HB2.out⟩
set_option maxHeartbeats 4000000 in
set_option maxRecDepth 100000 in
theorem rTree_any {c : Co} {m : Nat} {v : Value} {W0 : List Wm} {A : Option Addr} {cap : Nat} {R : List Km} {w : World} (h : RfS w c v W0 A cap R) (hc : c.Ok m) (hi lo : Nat) :
    Calls Tryz.prog 37 #[.agg (c.cells v A R.length cap).toArray, .agg #[.int .u64 (hi : Int), .int .u64 (lo : Int)]] w (TreeOut (treeK (St.get c.K hi lo)) (wholeK (St.get c.K hi lo)) w) := by
  have hfw : R.length ≤ 32 ∧ ∀ m ∈ R, m.k.L.length ≤ 64 ∧ KdOk m.k.L := CoR.few (P := fun _ => True) (v := v) (W := W0) ⟨h.win, h.wis, ⟨fun a n c e => trivial, fun p hp a ha => trivial⟩, ⟨fun _ a e => trivial, fun p hp a e => trivial⟩, h.ks, h.kk⟩ hc
  have HOK := Stow.mk (hc.okK hi lo)
  have HNU := Stow.mk (h.win.form)
  have hkk := h.kk
  have b1 := Below.alloc' (Below.self w) (.cells (c.cells v A R.length cap).toArray 32)
  have b2 := Below.alloc' (Below.self (w.alloc (.cells (c.cells v A R.length cap).toArray 32))) (.cells #[.int .u64 (hi : Int), .int .u64 (lo : Int)] 25)
  have h1 := (Held.made w (c.cells v A R.length cap) 32).kept b2
  have h2 := Held.made (w.alloc (.cells (c.cells v A R.length cap).toArray 32)) [.int .u64 (hi : Int), .int .u64 (lo : Int)] 25
  have hb := Below.call b1 b2
  obtain ⟨W, hW⟩ : ∃ W, (w.alloc (.cells (c.cells v A R.length cap).toArray 32)).alloc (.cells #[.int .u64 (hi : Int), .int .u64 (lo : Int)] 25) = W := ⟨_, rfl⟩
  rw [hW] at h1 hb
  rw [show (w.alloc (.cells (c.cells v A R.length cap).toArray 32)).alloc (.cells [.int .u64 (hi : Int), .int .u64 (lo : Int)].toArray 25) = W from hW] at h2
  simp only [World.size_alloc] at h2
  have HB := Stow.mk hb
  have HG := rGet_any A cap R hi lo W (h.keep hb).ks (by omega)
  rw [hkk] at HG
  obtain ⟨k, hk⟩ : ∃ k, St.get c.K hi lo = k := ⟨_, rfl⟩
  rw [hk] at HG HOK ⊢
  have HKC := Stow.mk HG
  have HW := Stow.mk hW
  have q2 := h1.cell (i := 2) rfl
  have d0 := h2.cell (i := 0) rfl
  have d1 := h2.cell (i := 1) rfl
  clear b1 b2 h1 h2 hb hW h hc hfw hkk HG hk
  unfold Co.cells at HW
  unfold Co.cells
  obtain ⟨Av, kv, rfl⟩ := HNU.out
  go_enter Tryz.func37, Tryz.ntmps37
  go_upto_region 1 with fail
  generalize hX : World.alloc (World.alloc w _) _ = X
  obtain rfl : W = X := HW.out.symm.trans hX
  clear hX HW
  go_wp2_with fail
  refine HKC.out.mono ?_
  rintro e w1 ⟨⟨⟨mh, ml, mL, mx, mc⟩, mA, mcap⟩, rfl, hk', hR', hb1⟩
  obtain ⟨kp, kb⟩ := k
  simp only at hk'
  subst hk'
  have HR := Stow.mk (show SpR w1 mA mcap mL from hR')
  have HB := Stow.mk (HB.out.trans (hb1.mono HB.out.size))
  have HB1 := Stow.mk (HB.out.alloc HB.out.size (.cells #[.int .u64 (mh : Int), .int .u64 (ml : Int), .slice mA mL.length mcap, .bool mx, .bool mc] 40))
  have HR1 := Stow.mk (HR.out.alloc (.cells #[.int .u64 (mh : Int), .int .u64 (ml : Int), .slice mA mL.length mcap, .bool mx, .bool mc] 40))
  clear hR' hb1 q2 d0 d1
  dsimp only [Km.cells]
  cases kb with
  | false =>
    go_wp2_with fail
    refine bodyPost_ret (results_tmp2 rfl _ _ _) rfl ?_
    exact ⟨none, 0, rfl, nvr_nil _, HB1.out⟩
  | true =>
    obtain ⟨hn, hkd⟩ := HOK.out rfl
    have HKV := Stow.mk (rfTree_any mA mcap mh ml mL mx mc _ HR1.out (by simp only at hn; omega) hkd)
    clear hn hkd
    go_wp2_with fail
    refine HKV.out.mono ?_
    rintro e w2 ⟨vA, vc, rfl, hn2, hb2⟩
    have HB2 := Stow.mk (HB1.out.trans (hb2.mono HB1.out.size))
    have HN2 := Stow.mk hn2
    clear hb2 hn2
    go_wp2_with fail
    refine bodyPost_ret (results_tmp2 rfl _ _ _) rfl ?_
    exact ⟨vA, vc, rfl, HN2.out, HB2.out⟩
end Go.Proofs.YtfbhdkkmcfnghaaGreat
end

section
namespace Go.Proofs.YtfbhdkkmcfnghaaGreat
open Go.RowKit
set_option linter.unusedVariables false
set_option linter.unusedSimpArgs false

set_option maxHeartbeats 2000000 in
set_option maxRecDepth 100000 in
theorem rOne_any (m m' : Km) (w : World) (hk : m.k = m'.k) (h : KmR w m) (h' : KmR w m') :
    Calls Tryz.prog 13 #[.agg m.cells.toArray, .agg m'.cells.toArray] w fun e w' => e = .returned (.bool true) ∧ Below w.heap.size w w' := by
  obtain ⟨⟨hi, lo, L, x, c⟩, A, cap⟩ := m
  obtain ⟨k', A', cap'⟩ := m'
  simp only at hk
  subst hk
  have b1 := Below.alloc' (Below.self w) (.cells (Km.mk ⟨hi, lo, L, x, c⟩ A cap).cells.toArray 40)
  have b2 := Below.alloc' (Below.self (w.alloc (.cells (Km.mk ⟨hi, lo, L, x, c⟩ A cap).cells.toArray 40))) (.cells (Km.mk ⟨hi, lo, L, x, c⟩ A' cap').cells.toArray 40)
  have h1 := (Held.made w (Km.mk ⟨hi, lo, L, x, c⟩ A cap).cells 40).kept b2
  have h2 := Held.made (w.alloc (.cells (Km.mk ⟨hi, lo, L, x, c⟩ A cap).cells.toArray 40)) (Km.mk ⟨hi, lo, L, x, c⟩ A' cap').cells 40
  have hb := Below.call b1 b2
  obtain ⟨W, hW⟩ : ∃ W, (w.alloc (.cells (Km.mk ⟨hi, lo, L, x, c⟩ A cap).cells.toArray 40)).alloc (.cells (Km.mk ⟨hi, lo, L, x, c⟩ A' cap').cells.toArray 40) = W := ⟨_, rfl⟩
  rw [hW] at h1 h2 hb
  simp only [World.size_alloc] at h2
  have HB := Stow.mk hb
  have HX := Stow.mk h1
  have HY := Stow.mk h2
  have HS := Stow.mk (sameSpans_any L A A' cap cap' W (SlR.keep h hb) (SlR.keep h' hb))
  have HW := Stow.mk hW
  have he := eql_tr hi lo hi lo
  simp only [beq_self_eq_true, Bool.and_self] at he
  have c0 := h1.cell (i := 0) rfl
  have c1 := h1.cell (i := 1) rfl
  have c2 := h1.cell (i := 2) rfl
  have d0 := h2.cell (i := 0) rfl
  have d1 := h2.cell (i := 1) rfl
  have d2 := h2.cell (i := 2) rfl
  simp only at c2 d2
  clear b1 b2 h1 h2 hb hW h h'
  unfold Km.cells at HW ⊢
  go_enter Tryz.func13, Tryz.ntmps13
  go_upto_region 1 with fail
  generalize hX : World.alloc (World.alloc w _) _ = X
  obtain rfl : W = X := HW.out.symm.trans hX
  clear hX HW
  go_wp2_with fail
  refine HS.out.mono ?_
  rintro e w1 ⟨rfl, hb1⟩
  have HX := Stow.mk (HX.out.kept hb1)
  have HY := Stow.mk (HY.out.kept hb1)
  have HB := Stow.mk (HB.out.trans (hb1.mono HB.out.size))
  clear c0 c1 c2 d0 d1 d2 hb1
  have c3 := HX.out.cell (i := 3) rfl
  have c4 := HX.out.cell (i := 4) rfl
  have d3 := HY.out.cell (i := 3) rfl
  have d4 := HY.out.cell (i := 4) rfl
  simp only at c3 c4 d3 d4
  go_wp2_with fail
  go_ret
  exact ⟨by simp, HB.out⟩
theorem tr_at {w : World} {b off n cap k : Nat} {T : List (Nat × Nat)} (h : SlR w 2 (.slice (some ⟨b, off, none⟩) n cap) (T.map fun p => [.int .u64 (p.1 : Int), .int .u64 (p.2 : Int)])) (hk : k < T.length) : w.cell? ⟨b, off + k * 2, none⟩ = some (.int .u64 (T[k].1 : Int)) ∧ w.cell? ⟨b, off + k * 2 + 1, none⟩ = some (.int .u64 (T[k].2 : Int)) := by
  obtain ⟨hb, hc⟩ := h.cells (i := k) (x := [.int .u64 (T[k].1 : Int), .int .u64 (T[k].2 : Int)]) (by rw [List.getElem?_map, List.getElem?_eq_getElem hk]; rfl)
  exact ⟨by have := hc 0 _ rfl; simpa using this, hc 1 _ rfl⟩
set_option maxHeartbeats 2000000 in
set_option maxRecDepth 100000 in
theorem rSameTr_any (T : List (Nat × Nat)) (A A' : Option Addr) (cap cap' : Nat) (w : World) (hS : TrL w A cap T) (hS' : TrL w A' cap' T) :
    Calls Tryz.prog 18 #[.slice A T.length cap, .slice A' T.length cap'] w fun e w' => e = .returned (.bool true) ∧ Below w.heap.size w w' := by
  have HS := Stow.mk hS
  have HS' := Stow.mk hS'
  have hlen := SlR.len hS
  simp only [List.length_map] at hlen
  clear hS hS'
  go_enter Tryz.func18, Tryz.ntmps18
  go_wp2_with fail
  go_loopw [5] (fun v wr => ∃ j : Nat, v = .int .i64 j ∧ j ≤ T.length ∧ Below w.heap.size w wr) (fun v _ => T.length - (intOf v).toNat)
  case atStart => exact ⟨0, rfl, by omega, Below.self _⟩
  case round =>
    obtain ⟨j, rfl, hj, hbr⟩ := hrel
    by_cases hlt : j < T.length
    · have hS1 := HS.out.keep hbr
      have hS2 := HS'.out.keep hbr
      obtain ⟨b, off, rfl, hb, _⟩ := SlR.open hS1 (by simp; omega)
      obtain ⟨b', off', rfl, hb', _⟩ := SlR.open hS2 (by simp; omega)
      obtain ⟨q0, q1⟩ := tr_at hS1 hlt
      obtain ⟨p0, p1⟩ := tr_at hS2 hlt
      have he := eql_tr T[j].1 T[j].2 T[j].1 T[j].2
      simp only [beq_self_eq_true, Bool.and_self] at he
      have hji : (j : Int) < T.length := by omega
      clear hS1 hS2
      generalize T[j].1 = x at *
      generalize T[j].2 = y at *
      go_wp2_with fail
      go_quiet (fail)
      go_wp2_with fail
      exact ⟨⟨j + 1, rfl, by omega, Below.drewN' hbr _⟩, by simp [intOf]; omega⟩
    · obtain rfl : j = T.length := by omega
      go_wp2_with fail
      go_ret
      exact ⟨rfl, hbr⟩
end Go.Proofs.YtfbhdkkmcfnghaaGreat
end

section
namespace Go.Proofs.YtfbhdkkmcfnghaaGreat
open Go.RowKit
set_option linter.unusedVariables false
set_option linter.unusedSimpArgs false

set_option maxHeartbeats 4000000 in
set_option maxRecDepth 100000 in
theorem coNothing_any (w : World) : Calls Tryz.prog 26 #[] w fun e w' => e = .returned (.bool true) ∧ Below w.heap.size w w' := by
  go_enter Tryz.func26, Tryz.ntmps26
  go_wp2_with fail
  refine (coRecv_nil [120] _).mono ?_
  rintro e w1 ⟨rfl, rfl⟩
  go_wp2_with fail
  refine (coKept_nil 0 0 _).mono ?_
  rintro e w2 ⟨⟨⟨mh, ml, mL, mx, mc⟩, mA, mcap⟩, rfl, hk, hR, hb2⟩
  have HB := Stow.mk (Below.alloc' hb2 (.cells #[.int .u64 (mh : Int), .int .u64 (ml : Int), .slice mA mL.length mcap, .bool mx, .bool mc] 40))
  have HH := Stow.mk (Held.made w2 [.int .u64 (mh : Int), .int .u64 (ml : Int), .slice mA mL.length mcap, .bool mx, .bool mc] 40)
  have HR := Stow.mk (show KmR _ (Km.mk ⟨mh, ml, mL, mx, mc⟩ mA mcap) from SlR.alloc hR (.cells #[.int .u64 (mh : Int), .int .u64 (ml : Int), .slice mA mL.length mcap, .bool mx, .bool mc] 40))
  have HK := Stow.mk hk
  clear hb2 hR hk
  dsimp only [Km.cells]
  go_wp2_with fail
  refine (coTree_nil 0 0 _).mono ?_
  rintro e w3 ⟨tA, tc, rfl, ht, hb3⟩
  have HH := Stow.mk (HH.out.kept hb3)
  have HR := Stow.mk (show KmR w3 (Km.mk ⟨mh, ml, mL, mx, mc⟩ mA mcap) from HR.out.keep hb3)
  have HB := Stow.mk (HB.out.trans (hb3.mono HB.out.size))
  clear ht hb3
  have c0 := HH.out.cell (i := 0) rfl
  have c1 := HH.out.cell (i := 1) rfl
  have c2 := HH.out.cell (i := 2) rfl
  have c3 := HH.out.cell (i := 3) rfl
  have c4 := HH.out.cell (i := 4) rfl
  have HONE := Stow.mk (rOne_any (Km.mk ⟨mh, ml, mL, mx, mc⟩ mA mcap) (Km.mk St.none_ none 0) w3 HK.out HR.out (SlR.nil _ _))
  go_wp2_with fail
  refine HONE.out.mono ?_
  rintro e w4 ⟨rfl, hb4⟩
  have HB := Stow.mk (HB.out.trans (hb4.mono HB.out.size))
  clear hb4 c0 c1 c2 c3 c4 HONE
  go_wp2_with fail
  refine (coVerdict_nil 0 0 _).mono ?_
  rintro e w5 ⟨rfl, hb5⟩
  have HB := Stow.mk (HB.out.trans (hb5.mono HB.out.size))
  clear hb5
  go_wp2_with fail
  refine (coTraces_nil _).mono ?_
  rintro e w6 ⟨rfl, rfl⟩
  go_wp2_with fail
  refine (coTaken_nil _).mono ?_
  rintro e w7 ⟨rfl, rfl⟩
  go_wp2_with fail
  refine (coTwice_nil _).mono ?_
  rintro e w8 ⟨rfl, rfl⟩
  go_wp2_with fail
  refine (coBad_nil _).mono ?_
  rintro e w9 ⟨rfl, rfl⟩
  go_wp2_with fail
  refine (coEvicted_nil _).mono ?_
  rintro e w10 ⟨rfl, rfl⟩
  go_wp2_with fail
  go_ret
  exact ⟨rfl, HB.out⟩
def k33s : Sp := ⟨0, 1, 5, 0, [97], 200, 0, 0, false, 0, 0⟩
theorem k33c : btCheck 2 7 [k33s] = 0 := by decide +kernel
theorem k33f : ∀ s ∈ [k33s], s.fits := by
  intro s hs
  obtain rfl : s = k33s := by simpa using hs
  refine ⟨by decide, by decide, by decide, by decide, by decide⟩
theorem k33r : btRead (seal_ (btBody 2 7 [k33s])) = (2, 7, [k33s], 0) := read_back k33c k33f
theorem k33x : btRead [120] = (0, 0, [], 5) := by
  have h : front [120] 1 = ([], 0, 0, 0, 5) := by decide +kernel
  exact rd_bad h (by decide)
def k33d : List Wi := [⟨2, 7, [7]⟩]
def k33k : List Kp := [⟨0, 1, [k33s], false, false⟩]
theorem k33_1 {l : List UInt8} (h : btRead l = (2, 7, [k33s], 0)) : Co.recv ⟨4, [], [], 0, 0, 0, 0⟩ l = (⟨4, k33d, k33k, 1, 0, 0, 0⟩, (btAck 2 7).1, 0) := by
  unfold Co.recv
  rw [h]
  rfl
theorem k33_2 {l : List UInt8} (h : btRead l = (2, 7, [k33s], 0)) : Co.recv ⟨4, k33d, k33k, 1, 0, 0, 0⟩ l = (⟨4, k33d, k33k, 1, 1, 0, 0⟩, (btAck 2 7).1, 0) := by
  unfold Co.recv
  rw [h]
  rfl
theorem k33_3 : Co.recv ⟨4, k33d, k33k, 1, 1, 0, 0⟩ [120] = (⟨4, k33d, k33k, 1, 1, 1, 0⟩, [], 5) := by
  unfold Co.recv
  rw [k33x]
  rfl
theorem k33t : treeK (St.get k33k 0 1) = [⟨0, [97], 200, false⟩] := by
  have h : Tr.said [k33s] false false = 1 := by decide +kernel
  have hw : Tr.walk [k33s] ((Tr.roots [k33s]).headD 0) = [(0, 0)] := by decide +kernel
  show Tr.treeN [k33s] false false = _
  unfold Tr.treeN
  rw [if_pos h]
  unfold Tr.nodes
  rw [hw]
  rfl
theorem k33w : wholeK (St.get k33k 0 1) = true := by decide +kernel
theorem k33v : saidK (St.get k33k 0 1) = 1 := by decide +kernel
theorem slr_single {w : World} {g c : Nat} {x : List Value} (h : Held w g x) : SlR w c (.slice (some ⟨g, 0, none⟩) 1 1) [x] :=
  ⟨some ⟨g, 0, none⟩, 1, rfl, by simp, by unfold maxLen; omega, fun _ => ⟨g, 0, rfl, h.lt, fun i y hi j u hu => by
    cases i with
    | zero =>
      simp at hi; subst hi
      have := h.cell (i := j) hu
      simpa using this
    | succ i => simp at hi⟩⟩
theorem k33len : (seal_ (btBody 2 7 [k33s])).length ≤ 1000 := by decide +kernel
set_option maxHeartbeats 4000000 in
set_option maxRecDepth 100000 in
theorem known33_any (w : World) : Calls Tryz.prog 6 #[] w fun e w' => e = .returned (.bool true) ∧ Below w.heap.size w w' := by
  have l2 : (⟨#[120]⟩ : ByteArray) = bs [120] := rfl
  have l3 : (⟨#[97]⟩ : ByteArray) = bs [97] := rfl
  obtain ⟨S, hS⟩ : ∃ S, seal_ (btBody 2 7 [k33s]) = S := ⟨_, rfl⟩
  have HSL : Stow (S.length ≤ 1000) := ⟨by rw [← hS]; exact k33len⟩
  have HWR : Stow (btWrite 2 7 [k33s] = (S, 0)) := ⟨by unfold btWrite; rw [if_pos k33c, hS]⟩
  have hrd : btRead S = (2, 7, [k33s], 0) := by rw [← hS]; exact k33r
  have HR1 := Stow.mk (k33_1 hrd)
  have HR2 := Stow.mk (k33_2 hrd)
  obtain ⟨a, ha⟩ : ∃ a, (btAck 2 7).1 = a := ⟨_, rfl⟩
  have HAK := Stow.mk ha
  rw [ha] at HR1 HR2
  clear hS hrd ha
  go_enter Tryz.func6, Tryz.ntmps6
  go_wp2_with fail
  refine (coNew_any 4 _).mono ?_
  rintro e w1 ⟨g, rfl, hg0, hg1, hM, hb1⟩
  have HM := Stow.mk (hM (fun k => w1.heap.size ≤ k) (by omega))
  have HB := Stow.mk hb1
  obtain ⟨B, hB⟩ : ∃ B, w1.heap.size = B := ⟨_, rfl⟩
  rw [hB] at HM
  have hBw : B ≤ w1.heap.size := by omega
  have HT0 := Stow.mk (Held.made w1 [.int .u64 0, .int .u64 1] 25)
  have HM := Stow.mk (HM.out.keep (Below.alloc' (Below.self w1) (.cells #[.int .u64 0, .int .u64 1] 25)))
  have HB := Stow.mk (HB.out.alloc HB.out.size (.cells #[.int .u64 0, .int .u64 1] 25))
  have hgz : w.heap.size ≤ g := hg0
  have hgB : g < B := by omega
  clear hM hb1 hg0 hg1
  go_upto_region 5 with fail
  rw [show w1.alloc (.cells #[.int .u64 0, .int .u64 1] 25) = w1.alloc (.cells [Value.int .u64 0, .int .u64 1].toArray 25) from rfl] at HM HB ⊢
  generalize hw2 : w1.alloc (.cells [Value.int .u64 0, .int .u64 1].toArray 25) = w2 at HM HB HT0 ⊢
  rw [hB] at HT0
  have hBw2 : B < w2.heap.size := HT0.out.lt
  have hSp := slr_single (c := 11) (Held.made w2 (Sp.cells k33s) 64)
  have HSP := Stow.mk hSp
  have hbs := Below.alloc' (Below.self w2) (.cells (Sp.cells k33s).toArray 64)
  have HT := Stow.mk (HT0.out.kept hbs)
  have HM := Stow.mk (HM.out.keep hbs)
  have HB := Stow.mk (HB.out.trans (hbs.mono HB.out.size))
  have hs3 := hbs.size
  have t0 := HT0.out.cell (i := 0) rfl
  have t1 := HT0.out.cell (i := 1) rfl
  have HX3 := Stow.mk (show w2.alloc (.cells (Sp.cells k33s).toArray 64) = w2.alloc (.cells #[.int .u64 0, .int .u64 1, .int .u64 5, .int .u64 0, .string (bs [97]), .int .i64 200, .int .i64 0, .int .i64 0, .bool false, .int .i64 0, .int .i64 0] 64) from rfl)
  generalize hw3 : w2.alloc (.cells (Sp.cells k33s).toArray 64) = w3 at HSP HT HM HB HX3 hs3
  have HWC := Stow.mk (refBtWrite_any 2 7 (some ⟨w2.heap.size, 0, none⟩) 1 [k33s] w3 HSP.out k33f)
  rw [HWR.out] at HWC
  clear hSp hbs hw3 HSP HT0 hw2
  go_wp2_with (rw [← HX3.out])
  refine HWC.out.mono ?_
  rintro e w4 ⟨rfl, hb4⟩
  have HT := Stow.mk (HT.out.kept hb4)
  have HM := Stow.mk (HM.out.keep hb4)
  have HB := Stow.mk (HB.out.trans (hb4.mono HB.out.size))
  have hs4 := hb4.size
  clear hb4 HX3 t0 t1 HWC
  go_wp2_with fail
  refine (refBtAck_any 2 7 _).mono ?_
  rw [HAK.out]
  rintro e w5 ⟨rfl, hb5⟩
  have HT := Stow.mk (HT.out.kept hb5)
  have HM := Stow.mk (HM.out.keep hb5)
  have HB := Stow.mk (HB.out.trans (hb5.mono HB.out.size))
  have hs5 := hb5.size
  clear hb5
  have HOK0 : Stow ((Co.mk 4 [] [] 0 0 0 0).Ok 0) := ⟨Co.new_ok (by decide)⟩
  have K1 := coRecv_any HM.out HOK0.out (by decide) (fun k hk => show B ≤ k by omega) S (by have := HSL.out; omega)
  have HO1 := Stow.mk (Co.recv_ok HOK0.out (l := S) (by have := HSL.out; omega))
  rw [HR1.out] at K1 HO1
  have HK := Stow.mk K1
  clear K1
  go_wp2_with fail
  refine HK.out.mono ?_
  rintro e w6 ⟨rfl, hM6, ht6⟩
  have HM := Stow.mk hM6
  have HT := Stow.mk (HT.out.turn ht6 (by omega))
  have HB := Stow.mk (HB.out.trans (ht6.below (fun i hi => by omega) HB.out.size))
  have hs6 := ht6.size
  clear hM6 ht6 HK
  have K1 := coRecv_any HM.out HO1.out (by decide) (fun k hk => show B ≤ k by omega) S (by have := HSL.out; omega)
  have HO2 := Stow.mk (Co.recv_ok HO1.out (l := S) (by have := HSL.out; omega))
  rw [HR2.out] at K1 HO2
  have HK := Stow.mk K1
  clear K1
  go_wp2_with fail
  refine HK.out.mono ?_
  rintro e w7 ⟨rfl, hM7, ht7⟩
  have HM := Stow.mk hM7
  have HT := Stow.mk (HT.out.turn ht7 (by omega))
  have HB := Stow.mk (HB.out.trans (ht7.below (fun i hi => by omega) HB.out.size))
  have hs7 := ht7.size
  clear hM7 ht7 HK
  have K1 := coRecv_any HM.out HO2.out (by decide) (fun k hk => show B ≤ k by omega) [120] (by decide)
  have HO3 := Stow.mk (Co.recv_ok HO2.out (l := [120]) (by decide))
  rw [k33_3] at K1 HO3
  have HK := Stow.mk K1
  clear K1
  go_wp2_with fail
  refine HK.out.mono ?_
  rintro e w8 ⟨rfl, hM8, ht8⟩
  have HM := Stow.mk hM8
  have HT := Stow.mk (HT.out.turn ht8 (by omega))
  have HB := Stow.mk (HB.out.trans (ht8.below (fun i hi => by omega) HB.out.size))
  clear hM8 ht8 HK
  have t0 := HT.out.cell (i := 0) rfl
  have t1 := HT.out.cell (i := 1) rfl
  have K1 := coTree_any HM.out HO3.out 0 1
  simp only [k33t, k33w] at K1
  have HK := Stow.mk K1
  clear K1
  go_wp2_with fail
  refine HK.out.mono ?_
  rintro e w9 ⟨vA, vc, rfl, hn9, hb9⟩
  have HM := Stow.mk (HM.out.keep hb9)
  have HT := Stow.mk (HT.out.kept hb9)
  have HB := Stow.mk (HB.out.trans (hb9.mono HB.out.size))
  have HN := Stow.mk hn9
  clear hn9 hb9 HK t0 t1
  have hnl := slr_single (c := 4) (Held.made w9 (Nv.cells ⟨0, [97], 200, false⟩) 67)
  have hbn := Below.alloc' (Below.self w9) (.cells (Nv.cells ⟨0, [97], 200, false⟩).toArray 67)
  have HND := Stow.mk (ndSame_any [⟨0, [97], 200, false⟩] vA (some ⟨w9.heap.size, 0, none⟩) vc 1 _ (HN.out.keep hbn) hnl)
  have HM := Stow.mk (HM.out.keep hbn)
  have HT := Stow.mk (HT.out.kept hbn)
  have HB := Stow.mk (HB.out.trans (hbn.mono HB.out.size))
  clear hnl hbn HN
  go_wp2_with fail
  refine HND.out.mono ?_
  rintro e w10 ⟨rfl, hb10⟩
  have HM := Stow.mk (HM.out.keep hb10)
  have HT := Stow.mk (HT.out.kept hb10)
  have HB := Stow.mk (HB.out.trans (hb10.mono HB.out.size))
  clear hb10 HND
  have t0 := HT.out.cell (i := 0) rfl
  have t1 := HT.out.cell (i := 1) rfl
  have K1 := coVerdict_any HM.out HO3.out 0 1
  simp only [k33v] at K1
  have HK := Stow.mk K1
  clear K1
  go_wp2_with fail
  refine HK.out.mono ?_
  rintro e w11 ⟨rfl, hb11⟩
  have HM := Stow.mk (HM.out.keep hb11)
  have HB := Stow.mk (HB.out.trans (hb11.mono HB.out.size))
  clear hb11 HK t0 t1
  go_wp2_with fail
  refine (coTaken_any HM.out).mono ?_
  rintro e w12 ⟨rfl, rfl⟩
  go_wp2_with fail
  refine (coTwice_any HM.out).mono ?_
  rintro e w13 ⟨rfl, rfl⟩
  go_wp2_with fail
  refine (coBad_any HM.out).mono ?_
  rintro e w14 ⟨rfl, rfl⟩
  go_wp2_with fail
  refine (coEvicted_any HM.out).mono ?_
  rintro e w15 ⟨rfl, rfl⟩
  go_wp2_with fail
  refine (coNothing_any _).mono ?_
  rintro e w16 ⟨rfl, hb16⟩
  have HB := Stow.mk (HB.out.trans (hb16.mono HB.out.size))
  clear hb16
  go_wp2_with fail
  go_ret
  exact ⟨rfl, HB.out⟩
end Go.Proofs.YtfbhdkkmcfnghaaGreat
end

section
namespace Go.Proofs.YtfbhdkkmcfnghaaGreat
set_option linter.unusedVariables false

namespace Dd
/-- A number that its window has had. -/
def Cov (L : List Wi) (c : Int × Int) : Prop := ∃ w ∈ L, w.n = c.1 ∧ c.2 ≤ w.h ∧ (128 ≤ w.h - c.2 ∨ c.2 ∈ w.s)
theorem cov_step {w w' : Wi} {x y : Int} (hs : step w x = some w') (hy : y ≤ w.h ∧ (128 ≤ w.h - y ∨ y ∈ w.s)) : y ≤ w'.h ∧ (128 ≤ w'.h - y ∨ y ∈ w'.s) := by
  unfold step at hs
  split at hs
  · rename_i h1
    simp at hs; subst hs
    refine ⟨by simp [high]; omega, ?_⟩
    by_cases h2 : x - 128 < y
    · right
      rcases hy.2 with h3 | h3
      · omega
      · simp only [high, List.mem_append, List.mem_filter, decide_eq_true_eq]
        exact .inl ⟨h3, h2⟩
    · left; simp [high]; omega
  · split at hs
    · simp at hs
    · simp at hs; subst hs
      refine ⟨hy.1, ?_⟩
      rcases hy.2 with h3 | h3
      · exact .inl h3
      · right
        show y ∈ ins x w.s
        rw [mem_ins]
        by_cases e : y = x
        · exact .inl e
        · exact .inr ⟨h3, e⟩
theorem step_self {w w' : Wi} {x : Int} (hs : step w x = some w') : x ≤ w'.h ∧ (128 ≤ w'.h - x ∨ x ∈ w'.s) := by
  unfold step at hs
  split at hs
  · simp at hs; subst hs
    exact ⟨by simp [high], .inr (by simp [high])⟩
  · split at hs
    · simp at hs
    · rename_i h1 h2
      simp at hs; subst hs
      exact ⟨by simp [low]; omega, .inr (mem_ins.2 (.inl rfl))⟩
theorem step_cov {w : Wi} {x : Int} (h : x ≤ w.h ∧ (128 ≤ w.h - x ∨ x ∈ w.s)) : step w x = none := by
  unfold step
  rw [if_neg (by omega), if_pos h.2]
theorem fresh_cases (L : List Wi) (node x : Int) : (fresh L node x = (L, false)) ∨ (bad node x = false ∧ pl L node = none ∧ fresh L node x = (L ++ [⟨node, x, [x]⟩], true)) ∨
    ∃ i, ∃ hi : i < L.length, ∃ w', bad node x = false ∧ pl L node = some i ∧ L[i].n = node ∧ step L[i] x = some w' ∧ fresh L node x = (L.set i w', true) := by
  cases hb : bad node x
  · cases hp : pl L node with
    | none => exact .inr (.inl ⟨rfl, rfl, by unfold fresh; rw [hb, hp]; rfl⟩)
    | some i =>
      obtain ⟨hi, hn, _⟩ := pl_some hp
      cases hs : step L[i] x with
      | none => exact .inl (by unfold fresh; rw [hb, hp]; simp only [Bool.false_eq_true, if_false]; rw [List.getElem?_eq_getElem hi]; simp only; rw [hs])
      | some w' => exact .inr (.inr ⟨i, hi, w', rfl, rfl, hn, hs, by unfold fresh; rw [hb, hp]; simp only [Bool.false_eq_true, if_false]; rw [List.getElem?_eq_getElem hi]; simp only; rw [hs]⟩)
  · exact .inl (by unfold fresh; rw [hb]; rfl)
theorem fresh_no {L L' : List Wi} {node x : Int} (h : fresh L node x = (L', false)) : L' = L := by
  rcases fresh_cases L node x with h1 | ⟨_, _, h1⟩ | ⟨i, hi, w', _, _, _, _, h1⟩ <;> rw [h] at h1 <;> simp at h1
  exact h1
theorem cov_keep {L : List Wi} {node x : Int} {c : Int × Int} (h : Cov L c) : Cov (fresh L node x).1 c := by
  obtain ⟨w, hw, hn, hc⟩ := h
  rcases fresh_cases L node x with h1 | ⟨_, _, h1⟩ | ⟨i, hi, w', _, _, hn', hs, h1⟩ <;> rw [h1]
  · exact ⟨w, hw, hn, hc⟩
  · exact ⟨w, by simp [hw], hn, hc⟩
  · obtain ⟨k, hk, rfl⟩ := List.getElem_of_mem hw
    by_cases e : k = i
    · subst e
      refine ⟨w', List.mem_iff_getElem.2 ⟨k, by simpa using hk, by simp⟩, ?_, cov_step hs hc⟩
      have : w'.n = L[k].n := by
        unfold step at hs
        split at hs
        · simp at hs; subst hs; rfl
        · split at hs
          · simp at hs
          · simp at hs; subst hs; rfl
      rw [this, hn]
    · exact ⟨L[k], List.mem_iff_getElem.2 ⟨k, by simpa using hk, by rw [List.getElem_set]; rw [if_neg (by omega)]⟩, hn, hc⟩
theorem cov_new {L : List Wi} {node x : Int} (h : (fresh L node x).2 = true) : Cov (fresh L node x).1 (node, x) := by
  rcases fresh_cases L node x with h1 | ⟨_, _, h1⟩ | ⟨i, hi, w', _, _, hn', hs, h1⟩ <;> rw [h1] at h ⊢
  · simp at h
  · exact ⟨⟨node, x, [x]⟩, by simp, rfl, by simp, .inr (by simp)⟩
  · refine ⟨w', List.mem_iff_getElem.2 ⟨i, by simpa using hi, by simp⟩, ?_, step_self hs⟩
    have : w'.n = L[i].n := by
      unfold step at hs
      split at hs
      · simp at hs; subst hs; rfl
      · split at hs
        · simp at hs
        · simp at hs; subst hs; rfl
    rw [this, hn']
theorem cov_no {L : List Wi} {c : Int × Int} (hok : Ok L) (h : Cov L c) : (fresh L c.1 c.2).2 = false := by
  obtain ⟨w, hw, hn, hc⟩ := h
  rcases fresh_cases L c.1 c.2 with h1 | ⟨_, hp, h1⟩ | ⟨i, hi, w', _, hp, hn', hs, h1⟩ <;> rw [h1]
  · exact absurd hn (pl_none hp w hw)
  · obtain ⟨k, hk, rfl⟩ := List.getElem_of_mem hw
    have hki : k = i := by
      rcases Nat.lt_trichotomy k i with h | h | h
      · exact absurd (hn.trans hn'.symm) (List.pairwise_iff_getElem.1 hok.apart k i hk hi h)
      · exact h
      · exact absurd (hn'.trans hn.symm) (List.pairwise_iff_getElem.1 hok.apart i k hi hk h)
    subst hki
    rw [step_cov hc] at hs
    cases hs
end Dd
end Go.Proofs.YtfbhdkkmcfnghaaGreat
end

section
namespace Go.Proofs.YtfbhdkkmcfnghaaGreat
set_option linter.unusedVariables false

namespace Dd
def Seen (L : List Wi) (node x : Int) : Prop := bad node x = true ∨ Cov L (node, x)
theorem cov_old {L : List Wi} {node x : Int} (h : (fresh L node x).2 = false) (hb : bad node x = false) : Cov L (node, x) := by
  unfold fresh at h
  rw [hb] at h
  cases hp : pl L node with
  | none => rw [hp] at h; simp at h
  | some i =>
    obtain ⟨hi, hn, _⟩ := pl_some hp
    rw [hp] at h
    simp only [List.getElem?_eq_getElem hi] at h
    cases hs : step L[i] x with
    | some w => rw [hs] at h; simp at h
    | none =>
      unfold step at hs
      split at hs
      · cases hs
      · rename_i h1
        split at hs
        · rename_i h2
          exact ⟨L[i], List.getElem_mem hi, hn, by simp only; omega, h2⟩
        · cases hs
theorem seen_after (L : List Wi) (node x : Int) : Seen (fresh L node x).1 node x := by
  cases hb : bad node x with
  | true => exact .inl hb
  | false =>
    refine .inr ?_
    cases hf : (fresh L node x).2 with
    | true => exact cov_new hf
    | false => exact cov_keep (cov_old hf hb)
theorem seen_keep {L : List Wi} {node x n y : Int} (h : Seen L node x) : Seen (fresh L n y).1 node x := h.imp id cov_keep
theorem seen_no {L : List Wi} {node x : Int} (hok : Ok L) (h : Seen L node x) : (fresh L node x).2 = false := by
  rcases h with h | h
  · unfold fresh
    rw [h]
    rfl
  · exact cov_no hok h
end Dd
namespace Co
theorem add_D (c : Co) (x y : Int) (L : List Sp) (hok : Dd.Ok c.D) : (c.add x y L).D = (Dd.fresh c.D x y).1 := by
  unfold add
  split
  · rfl
  · rename_i h
    have : (Dd.fresh c.D x y).2 = false := by simpa using h
    exact (Dd.fresh_no (L' := (Dd.fresh c.D x y).1) (by rw [← this])).symm
/-- What bytes are answered. -/
def ans (l : List UInt8) : List UInt8 × Nat := if (btRead l).2.2.2 ≠ 0 then ([], (btRead l).2.2.2) else ((btAck (btRead l).1 (btRead l).2.1).1, 0)
theorem recv_ans (c : Co) (l : List UInt8) : (c.recv l).2 = ans l := by
  unfold recv ans
  split <;> rfl
def SeenM (c : Co) (l : List UInt8) : Prop := (btRead l).2.2.2 = 0 → Dd.Seen c.D (btRead l).1 (btRead l).2.1
theorem seen_recv {c : Co} {m : Nat} (h : c.Ok m) (l : List UInt8) : SeenM (c.recv l).1 l := by
  intro hb
  unfold recv
  rw [if_neg (by simpa using hb)]
  simp only
  rw [add_D _ _ _ _ h.dd]
  exact Dd.seen_after _ _ _
theorem seen_on {c : Co} {m : Nat} (h : c.Ok m) {l : List UInt8} (hs : SeenM c l) (u : List UInt8) : SeenM (c.recv u).1 l := by
  intro hb
  unfold recv
  split
  · exact hs hb
  · simp only
    rw [add_D _ _ _ _ h.dd]
    exact Dd.seen_keep (hs hb)
theorem again {c : Co} {m : Nat} (h : c.Ok m) {l : List UInt8} (hs : SeenM c l) : (c.recv l).1.K = c.K ∧ (c.recv l).1.tk = c.tk := by
  unfold recv
  split
  · exact ⟨rfl, rfl⟩
  · rename_i hb
    have := Dd.seen_no h.dd (hs (by simpa using hb))
    unfold add
    rw [this]
    exact ⟨rfl, rfl⟩
theorem add_few {l : List Kp} {r : Int} {s : Sp} (h : l.length ≤ St.room r) : (St.add l r s).1.length ≤ St.room r := by
  cases ho : St.at_ l s.hi s.lo with
  | some i =>
    obtain ⟨hi, e⟩ := St.add_some (r := r) ho
    rw [e]
    simp
    omega
  | none =>
    rw [St.add_none ho]
    simp
    omega
theorem adds_few (r : Int) : ∀ (L : List Sp) (K : List Kp) (n : Nat), K.length ≤ St.room r → (adds r L K n).1.length ≤ St.room r
  | [], K, n, h => h
  | s :: t, K, n, h => adds_few r t _ _ (add_few h)
theorem recv_few {c : Co} (h : c.K.length ≤ St.room c.room) (l : List UInt8) : (c.recv l).1.K.length ≤ St.room (c.recv l).1.room := by
  unfold recv
  split
  · exact h
  · simp only
    unfold add
    split
    · exact adds_few _ _ _ _ h
    · exact h
theorem recv_room (c : Co) (l : List UInt8) : (c.recv l).1.room = c.room := by
  unfold recv
  split
  · rfl
  · simp only
    unfold add
    split <;> rfl
theorem get_mem {K : List Kp} {k : Kp} (h : k ∈ K) : (St.get K k.hi k.lo).2 = true := by
  unfold St.get
  cases ho : St.at_ K k.hi k.lo with
  | some i => rfl
  | none =>
    unfold St.at_ at ho
    rw [List.findIdx?_eq_none_iff] at ho
    have := ho k h
    simp [St.is_] at this
/-- What holds of a collector that took these messages. -/
structure RunOk (r : Int) (c : Co) (M : List (List UInt8)) : Prop where
  ok : c.Ok M.length
  few : c.K.length ≤ St.room c.room
  room : c.room = r
  seen : ∀ t ∈ M, SeenM c t
theorem RunOk.start {r : Int} (h : -9223372036854775808 ≤ r ∧ r ≤ 9223372036854775807) : RunOk r ⟨r, [], [], 0, 0, 0, 0⟩ [] := ⟨new_ok h, Nat.zero_le _, rfl, by simp⟩
theorem RunOk.more {r : Int} {c : Co} {M : List (List UInt8)} (h : RunOk r c M) (t : List UInt8) (ht : t.length ≤ 9223372036854775807) : RunOk r (c.recv t).1 (M ++ [t]) := by
  refine ⟨by rw [List.length_append]; exact recv_ok h.ok ht, recv_few h.few t, (recv_room c t).trans h.room, fun u hu => ?_⟩
  rcases List.mem_append.1 hu with hu | hu
  · exact seen_on h.ok (h.seen u hu) t
  · obtain rfl : u = t := by simpa using hu
    exact seen_recv h.ok u
end Co
end Go.Proofs.YtfbhdkkmcfnghaaGreat
end
