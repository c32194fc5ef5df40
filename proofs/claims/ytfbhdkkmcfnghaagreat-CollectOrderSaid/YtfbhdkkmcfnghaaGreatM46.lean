/- Walks of the reference's Verdict, Tree. Conditions: the lists' memory.; Walks of the reference's One, Traces at equal things. Conditions: their memory.; Walks of the law's nothing, known. No condition.; Lists of texts, as the statements on a collector take them. No condition. -/
import Derived.Test.YtfbhdkkmcfnghaaGreatM43
import Derived.Test.YtfbhdkkmcfnghaaGreatM45
import Derived.Test.YtfbhdkkmcfnghaaGreatM31
import Derived.Test.YtfbhdkkmcfnghaaGreatM23
import Derived.Test.YtfbhdkkmcfnghaaGreatM37

section
namespace Go.Proofs.YtfbhdkkmcfnghaaGreat
open Go.RowKit
set_option linter.unusedVariables false
set_option linter.unusedSimpArgs false

set_option maxHeartbeats 4000000 in
set_option maxRecDepth 100000 in
theorem rVerdict_any {c : Co} {m : Nat} {v : Value} {W0 : List Wm} {A : Option Addr} {cap : Nat} {R : List Km} {w : World} (h : RfS w c v W0 A cap R) (hc : c.Ok m) (hi lo : Nat) :
    Calls Tryz.prog 15 #[.agg (c.cells v A R.length cap).toArray, .agg #[.int .u64 (hi : Int), .int .u64 (lo : Int)]] w fun e w' => e = .returned (.int .i64 (saidK (St.get c.K hi lo) : Nat)) ∧ Below w.heap.size w w' := by
  have hfw : R.length ≤ 32 ∧ ∀ m ∈ R, m.k.L.length ≤ 64 ∧ KdOk m.k.L := CoR.few (P := fun _ => True) (v := v) (W := W0) ⟨h.win, h.wis, ⟨fun a n c e => trivial, fun p hp a ha => trivial⟩, ⟨fun _ a e => trivial, fun p hp a e => trivial⟩, h.ks, h.kk⟩ hc
  have HOK := Stow.mk (hc.okK hi lo)
  have HNU := Stow.mk (h.win.form)
  have hkk := h.kk
  have b1 := Below.alloc' (Below.self w) (.cells (c.cells v A R.length cap).toArray 32)
  have b2 := Below.alloc' (Below.self (w.alloc (.cells (c.cells v A R.length cap).toArray 32))) (.cells #[.int .u64 (hi : Int), .int .u64 (lo : Int)] 25)
  have h1 := (Held.made w (c.cells v A R.length cap) 32).kept b2
  have h2 := Held.made (w.alloc (.cells (c.cells v A R.length cap).toArray 32)) [.int .u64 (hi : Int), .int .u64 (lo : Int)] 25
  have hb := Below.call b1 b2
  obtain ⟨W, hW⟩ : ∃ W, (w.alloc (.cells (c.cells v A R.length cap).toArray 32)).alloc (.cells #[.int .u64 (hi : Int), .int .u64 (lo : Int)] 25) = W := ⟨_, rfl⟩
  rw [hW] at h1 hb
  rw [show (w.alloc (.cells (c.cells v A R.length cap).toArray 32)).alloc (.cells [.int .u64 (hi : Int), .int .u64 (lo : Int)].toArray 25) = W from hW] at h2
  simp only [World.size_alloc] at h2
  have HB := Stow.mk hb
  have HG := rGet_any A cap R hi lo W (h.keep hb).ks (by omega)
  rw [hkk] at HG
  obtain ⟨k, hk⟩ : ∃ k, St.get c.K hi lo = k := ⟨_, rfl⟩
  rw [hk] at HG HOK ⊢
  have HKC := Stow.mk HG
  have HW := Stow.mk hW
  have q2 := h1.cell (i := 2) rfl
  have d0 := h2.cell (i := 0) rfl
  have d1 := h2.cell (i := 1) rfl
  clear b1 b2 h1 h2 hb hW h hc hfw hkk HG hk
  unfold Co.cells at HW
  unfold Co.cells
  obtain ⟨Av, kv, rfl⟩ := HNU.out
  go_enter Tryz.func15, Tryz.ntmps15
  go_upto_region 1 with fail
  generalize hX : World.alloc (World.alloc w _) _ = X
  obtain rfl : W = X := HW.out.symm.trans hX
  clear hX HW
  go_wp2_with fail
  refine HKC.out.mono ?_
  rintro e w1 ⟨⟨⟨mh, ml, mL, mx, mc⟩, mA, mcap⟩, rfl, hk', hR', hb1⟩
  obtain ⟨kp, kb⟩ := k
  simp only at hk'
  subst hk'
  have HR := Stow.mk (show SpR w1 mA mcap mL from hR')
  have HB := Stow.mk (HB.out.trans (hb1.mono HB.out.size))
  have HB1 := Stow.mk (HB.out.alloc HB.out.size (.cells #[.int .u64 (mh : Int), .int .u64 (ml : Int), .slice mA mL.length mcap, .bool mx, .bool mc] 40))
  have HR1 := Stow.mk (HR.out.alloc (.cells #[.int .u64 (mh : Int), .int .u64 (ml : Int), .slice mA mL.length mcap, .bool mx, .bool mc] 40))
  clear hR' hb1 q2 d0 d1
  dsimp only [Km.cells]
  cases kb with
  | false =>
    go_wp2_with fail
    go_ret
    exact ⟨rfl, HB1.out⟩
  | true =>
    obtain ⟨hn, hkd⟩ := HOK.out rfl
    have HKV := Stow.mk (rfOf_any mA mcap mh ml mL mx mc _ HR1.out (by simp only at hn; omega) hkd)
    clear hn hkd
    go_wp2_with fail
    refine HKV.out.mono ?_
    rintro e w2 ⟨rfl, hb2⟩
    have HB2 := Stow.mk (HB1.out.trans (hb2.mono HB1.out.size))
    clear hb2
    go_wp2_with fail
    go_ret
    exact ⟨rfl, HB2.out⟩
set_option maxHeartbeats 4000000 in
set_option maxRecDepth 100000 in
theorem rTree_any {c : Co} {m : Nat} {v : Value} {W0 : List Wm} {A : Option Addr} {cap : Nat} {R : List Km} {w : World} (h : RfS w c v W0 A cap R) (hc : c.Ok m) (hi lo : Nat) :
    Calls Tryz.prog 37 #[.agg (c.cells v A R.length cap).toArray, .agg #[.int .u64 (hi : Int), .int .u64 (lo : Int)]] w (TreeOut (treeK (St.get c.K hi lo)) (wholeK (St.get c.K hi lo)) w) := by
  have hfw : R.length ≤ 32 ∧ ∀ m ∈ R, m.k.L.length ≤ 64 ∧ KdOk m.k.L := CoR.few (P := fun _ => True) (v := v) (W := W0) ⟨h.win, h.wis, ⟨fun a n c e => trivial, fun p hp a ha => trivial⟩, ⟨fun _ a e => trivial, fun p hp a e => trivial⟩, h.ks, h.kk⟩ hc
  have HOK := Stow.mk (hc.okK hi lo)
  have HNU := Stow.mk (h.win.form)
  have hkk := h.kk
  have b1 := Below.alloc' (Below.self w) (.cells (c.cells v A R.length cap).toArray 32)
  have b2 := Below.alloc' (Below.self (w.alloc (.cells (c.cells v A R.length cap).toArray 32))) (.cells #[.int .u64 (hi : Int), .int .u64 (lo : Int)] 25)
  have h1 := (Held.made w (c.cells v A R.length cap) 32).kept b2
  have h2 := Held.made (w.alloc (.cells (c.cells v A R.length cap).toArray 32)) [.int .u64 (hi : Int), .int .u64 (lo : Int)] 25
  have hb := Below.call b1 b2
  obtain ⟨W, hW⟩ : ∃ W, (w.alloc (.cells (c.cells v A R.length cap).toArray 32)).alloc (.cells #[.int .u64 (hi : Int), .int .u64 (lo : Int)] 25) = W := ⟨_, rfl⟩
  rw [hW] at h1 hb
  rw [show (w.alloc (.cells (c.cells v A R.length cap).toArray 32)).alloc (.cells [.int .u64 (hi : Int), .int .u64 (lo : Int)].toArray 25) = W from hW] at h2
  simp only [World.size_alloc] at h2
  have HB := Stow.mk hb
  have HG := rGet_any A cap R hi lo W (h.keep hb).ks (by omega)
  rw [hkk] at HG
  obtain ⟨k, hk⟩ : ∃ k, St.get c.K hi lo = k := ⟨_, rfl⟩
  rw [hk] at HG HOK ⊢
  have HKC := Stow.mk HG
  have HW := Stow.mk hW
  have q2 := h1.cell (i := 2) rfl
  have d0 := h2.cell (i := 0) rfl
  have d1 := h2.cell (i := 1) rfl
  clear b1 b2 h1 h2 hb hW h hc hfw hkk HG hk
  unfold Co.cells at HW
  unfold Co.cells
  obtain ⟨Av, kv, rfl⟩ := HNU.out
  go_enter Tryz.func37, Tryz.ntmps37
  go_upto_region 1 with fail
  generalize hX : World.alloc (World.alloc w _) _ = X
  obtain rfl : W = X := HW.out.symm.trans hX
  clear hX HW
  go_wp2_with fail
  refine HKC.out.mono ?_
  rintro e w1 ⟨⟨⟨mh, ml, mL, mx, mc⟩, mA, mcap⟩, rfl, hk', hR', hb1⟩
  obtain ⟨kp, kb⟩ := k
  simp only at hk'
  subst hk'
  have HR := Stow.mk (show SpR w1 mA mcap mL from hR')
  have HB := Stow.mk (HB.out.trans (hb1.mono HB.out.size))
  have HB1 := Stow.mk (HB.out.alloc HB.out.size (.cells #[.int .u64 (mh : Int), .int .u64 (ml : Int), .slice mA mL.length mcap, .bool mx, .bool mc] 40))
  have HR1 := Stow.mk (HR.out.alloc (.cells #[.int .u64 (mh : Int), .int .u64 (ml : Int), .slice mA mL.length mcap, .bool mx, .bool mc] 40))
  clear hR' hb1 q2 d0 d1
  dsimp only [Km.cells]
  cases kb with
  | false =>
    go_wp2_with fail
    refine bodyPost_ret (results_tmp2 rfl _ _ _) rfl ?_
    exact ⟨none, 0, rfl, nvr_nil _, HB1.out⟩
  | true =>
    obtain ⟨hn, hkd⟩ := HOK.out rfl
    have HKV := Stow.mk (rfTree_any mA mcap mh ml mL mx mc _ HR1.out (by simp only at hn; omega) hkd)
    clear hn hkd
    go_wp2_with fail
    refine HKV.out.mono ?_
    rintro e w2 ⟨vA, vc, rfl, hn2, hb2⟩
    have HB2 := Stow.mk (HB1.out.trans (hb2.mono HB1.out.size))
    have HN2 := Stow.mk hn2
    clear hb2 hn2
    go_wp2_with fail
    refine bodyPost_ret (results_tmp2 rfl _ _ _) rfl ?_
    exact ⟨vA, vc, rfl, HN2.out, HB2.out⟩
end Go.Proofs.YtfbhdkkmcfnghaaGreat
end

section
namespace Go.Proofs.YtfbhdkkmcfnghaaGreat
open Go.RowKit
set_option linter.unusedVariables false
set_option linter.unusedSimpArgs false

set_option maxHeartbeats 2000000 in
set_option maxRecDepth 100000 in
theorem rOne_any (m m' : Km) (w : World) (hk : m.k = m'.k) (h : KmR w m) (h' : KmR w m') :
    Calls Tryz.prog 13 #[.agg m.cells.toArray, .agg m'.cells.toArray] w fun e w' => e = .returned (.bool true) ∧ Below w.heap.size w w' := by
  obtain ⟨⟨hi, lo, L, x, c⟩, A, cap⟩ := m
  obtain ⟨k', A', cap'⟩ := m'
  simp only at hk
  subst hk
  have b1 := Below.alloc' (Below.self w) (.cells (Km.mk ⟨hi, lo, L, x, c⟩ A cap).cells.toArray 40)
  have b2 := Below.alloc' (Below.self (w.alloc (.cells (Km.mk ⟨hi, lo, L, x, c⟩ A cap).cells.toArray 40))) (.cells (Km.mk ⟨hi, lo, L, x, c⟩ A' cap').cells.toArray 40)
  have h1 := (Held.made w (Km.mk ⟨hi, lo, L, x, c⟩ A cap).cells 40).kept b2
  have h2 := Held.made (w.alloc (.cells (Km.mk ⟨hi, lo, L, x, c⟩ A cap).cells.toArray 40)) (Km.mk ⟨hi, lo, L, x, c⟩ A' cap').cells 40
  have hb := Below.call b1 b2
  obtain ⟨W, hW⟩ : ∃ W, (w.alloc (.cells (Km.mk ⟨hi, lo, L, x, c⟩ A cap).cells.toArray 40)).alloc (.cells (Km.mk ⟨hi, lo, L, x, c⟩ A' cap').cells.toArray 40) = W := ⟨_, rfl⟩
  rw [hW] at h1 h2 hb
  simp only [World.size_alloc] at h2
  have HB := Stow.mk hb
  have HX := Stow.mk h1
  have HY := Stow.mk h2
  have HS := Stow.mk (sameSpans_any L A A' cap cap' W (SlR.keep h hb) (SlR.keep h' hb))
  have HW := Stow.mk hW
  have he := eql_tr hi lo hi lo
  simp only [beq_self_eq_true, Bool.and_self] at he
  have c0 := h1.cell (i := 0) rfl
  have c1 := h1.cell (i := 1) rfl
  have c2 := h1.cell (i := 2) rfl
  have d0 := h2.cell (i := 0) rfl
  have d1 := h2.cell (i := 1) rfl
  have d2 := h2.cell (i := 2) rfl
  simp only at c2 d2
  clear b1 b2 h1 h2 hb hW h h'
  unfold Km.cells at HW ⊢
  go_enter Tryz.func13, Tryz.ntmps13
  go_upto_region 1 with fail
  generalize hX : World.alloc (World.alloc w _) _ = X
  obtain rfl : W = X := HW.out.symm.trans hX
  clear hX HW
  go_wp2_with fail
  refine HS.out.mono ?_
  rintro e w1 ⟨rfl, hb1⟩
  have HX := Stow.mk (HX.out.kept hb1)
  have HY := Stow.mk (HY.out.kept hb1)
  have HB := Stow.mk (HB.out.trans (hb1.mono HB.out.size))
  clear c0 c1 c2 d0 d1 d2 hb1
  have c3 := HX.out.cell (i := 3) rfl
  have c4 := HX.out.cell (i := 4) rfl
  have d3 := HY.out.cell (i := 3) rfl
  have d4 := HY.out.cell (i := 4) rfl
  simp only at c3 c4 d3 d4
  go_wp2_with fail
  go_ret
  exact ⟨by simp, HB.out⟩
theorem tr_at {w : World} {b off n cap k : Nat} {T : List (Nat × Nat)} (h : SlR w 2 (.slice (some ⟨b, off, none⟩) n cap) (T.map fun p => [.int .u64 (p.1 : Int), .int .u64 (p.2 : Int)])) (hk : k < T.length) : w.cell? ⟨b, off + k * 2, none⟩ = some (.int .u64 (T[k].1 : Int)) ∧ w.cell? ⟨b, off + k * 2 + 1, none⟩ = some (.int .u64 (T[k].2 : Int)) := by
  obtain ⟨hb, hc⟩ := h.cells (i := k) (x := [.int .u64 (T[k].1 : Int), .int .u64 (T[k].2 : Int)]) (by rw [List.getElem?_map, List.getElem?_eq_getElem hk]; rfl)
  exact ⟨by have := hc 0 _ rfl; simpa using this, hc 1 _ rfl⟩
set_option maxHeartbeats 2000000 in
set_option maxRecDepth 100000 in
theorem rSameTr_any (T : List (Nat × Nat)) (A A' : Option Addr) (cap cap' : Nat) (w : World) (hS : TrL w A cap T) (hS' : TrL w A' cap' T) :
    Calls Tryz.prog 18 #[.slice A T.length cap, .slice A' T.length cap'] w fun e w' => e = .returned (.bool true) ∧ Below w.heap.size w w' := by
  have HS := Stow.mk hS
  have HS' := Stow.mk hS'
  have hlen := SlR.len hS
  simp only [List.length_map] at hlen
  clear hS hS'
  go_enter Tryz.func18, Tryz.ntmps18
  go_wp2_with fail
  go_loopw [5] (fun v wr => ∃ j : Nat, v = .int .i64 j ∧ j ≤ T.length ∧ Below w.heap.size w wr) (fun v _ => T.length - (intOf v).toNat)
  case atStart => exact ⟨0, rfl, by omega, Below.self _⟩
  case round =>
    obtain ⟨j, rfl, hj, hbr⟩ := hrel
    by_cases hlt : j < T.length
    · have hS1 := HS.out.keep hbr
      have hS2 := HS'.out.keep hbr
      obtain ⟨b, off, rfl, hb, _⟩ := SlR.open hS1 (by simp; omega)
      obtain ⟨b', off', rfl, hb', _⟩ := SlR.open hS2 (by simp; omega)
      obtain ⟨q0, q1⟩ := tr_at hS1 hlt
      obtain ⟨p0, p1⟩ := tr_at hS2 hlt
      have he := eql_tr T[j].1 T[j].2 T[j].1 T[j].2
      simp only [beq_self_eq_true, Bool.and_self] at he
      have hji : (j : Int) < T.length := by omega
      clear hS1 hS2
      generalize T[j].1 = x at *
      generalize T[j].2 = y at *
      go_wp2_with fail
      go_quiet (fail)
      go_wp2_with fail
      exact ⟨⟨j + 1, rfl, by omega, Below.drewN' hbr _⟩, by simp [intOf]; omega⟩
    · obtain rfl : j = T.length := by omega
      go_wp2_with fail
      go_ret
      exact ⟨rfl, hbr⟩
end Go.Proofs.YtfbhdkkmcfnghaaGreat
end

section
namespace Go.Proofs.YtfbhdkkmcfnghaaGreat
open Go.RowKit
set_option linter.unusedVariables false
set_option linter.unusedSimpArgs false

set_option maxHeartbeats 4000000 in
set_option maxRecDepth 100000 in
theorem coNothing_any (w : World) : Calls Tryz.prog 26 #[] w fun e w' => e = .returned (.bool true) ∧ Below w.heap.size w w' := by
  go_enter Tryz.func26, Tryz.ntmps26
  go_wp2_with fail
  refine (coRecv_nil [120] _).mono ?_
  rintro e w1 ⟨rfl, rfl⟩
  go_wp2_with fail
  refine (coKept_nil 0 0 _).mono ?_
  rintro e w2 ⟨⟨⟨mh, ml, mL, mx, mc⟩, mA, mcap⟩, rfl, hk, hR, hb2⟩
  have HB := Stow.mk (Below.alloc' hb2 (.cells #[.int .u64 (mh : Int), .int .u64 (ml : Int), .slice mA mL.length mcap, .bool mx, .bool mc] 40))
  have HH := Stow.mk (Held.made w2 [.int .u64 (mh : Int), .int .u64 (ml : Int), .slice mA mL.length mcap, .bool mx, .bool mc] 40)
  have HR := Stow.mk (show KmR _ (Km.mk ⟨mh, ml, mL, mx, mc⟩ mA mcap) from SlR.alloc hR (.cells #[.int .u64 (mh : Int), .int .u64 (ml : Int), .slice mA mL.length mcap, .bool mx, .bool mc] 40))
  have HK := Stow.mk hk
  clear hb2 hR hk
  dsimp only [Km.cells]
  go_wp2_with fail
  refine (coTree_nil 0 0 _).mono ?_
  rintro e w3 ⟨tA, tc, rfl, ht, hb3⟩
  have HH := Stow.mk (HH.out.kept hb3)
  have HR := Stow.mk (show KmR w3 (Km.mk ⟨mh, ml, mL, mx, mc⟩ mA mcap) from HR.out.keep hb3)
  have HB := Stow.mk (HB.out.trans (hb3.mono HB.out.size))
  clear ht hb3
  have c0 := HH.out.cell (i := 0) rfl
  have c1 := HH.out.cell (i := 1) rfl
  have c2 := HH.out.cell (i := 2) rfl
  have c3 := HH.out.cell (i := 3) rfl
  have c4 := HH.out.cell (i := 4) rfl
  have HONE := Stow.mk (rOne_any (Km.mk ⟨mh, ml, mL, mx, mc⟩ mA mcap) (Km.mk St.none_ none 0) w3 HK.out HR.out (SlR.nil _ _))
  go_wp2_with fail
  refine HONE.out.mono ?_
  rintro e w4 ⟨rfl, hb4⟩
  have HB := Stow.mk (HB.out.trans (hb4.mono HB.out.size))
  clear hb4 c0 c1 c2 c3 c4 HONE
  go_wp2_with fail
  refine (coVerdict_nil 0 0 _).mono ?_
  rintro e w5 ⟨rfl, hb5⟩
  have HB := Stow.mk (HB.out.trans (hb5.mono HB.out.size))
  clear hb5
  go_wp2_with fail
  refine (coTraces_nil _).mono ?_
  rintro e w6 ⟨rfl, rfl⟩
  go_wp2_with fail
  refine (coTaken_nil _).mono ?_
  rintro e w7 ⟨rfl, rfl⟩
  go_wp2_with fail
  refine (coTwice_nil _).mono ?_
  rintro e w8 ⟨rfl, rfl⟩
  go_wp2_with fail
  refine (coBad_nil _).mono ?_
  rintro e w9 ⟨rfl, rfl⟩
  go_wp2_with fail
  refine (coEvicted_nil _).mono ?_
  rintro e w10 ⟨rfl, rfl⟩
  go_wp2_with fail
  go_ret
  exact ⟨rfl, HB.out⟩
def k33s : Sp := ⟨0, 1, 5, 0, [97], 200, 0, 0, false, 0, 0⟩
theorem k33c : btCheck 2 7 [k33s] = 0 := by decide +kernel
theorem k33f : ∀ s ∈ [k33s], s.fits := by
  intro s hs
  obtain rfl : s = k33s := by simpa using hs
  refine ⟨by decide, by decide, by decide, by decide, by decide⟩
theorem k33r : btRead (seal_ (btBody 2 7 [k33s])) = (2, 7, [k33s], 0) := read_back k33c k33f
theorem k33x : btRead [120] = (0, 0, [], 5) := by
  have h : front [120] 1 = ([], 0, 0, 0, 5) := by decide +kernel
  exact rd_bad h (by decide)
def k33d : List Wi := [⟨2, 7, [7]⟩]
def k33k : List Kp := [⟨0, 1, [k33s], false, false⟩]
theorem k33_1 {l : List UInt8} (h : btRead l = (2, 7, [k33s], 0)) : Co.recv ⟨4, [], [], 0, 0, 0, 0⟩ l = (⟨4, k33d, k33k, 1, 0, 0, 0⟩, (btAck 2 7).1, 0) := by
  unfold Co.recv
  rw [h]
  rfl
theorem k33_2 {l : List UInt8} (h : btRead l = (2, 7, [k33s], 0)) : Co.recv ⟨4, k33d, k33k, 1, 0, 0, 0⟩ l = (⟨4, k33d, k33k, 1, 1, 0, 0⟩, (btAck 2 7).1, 0) := by
  unfold Co.recv
  rw [h]
  rfl
theorem k33_3 : Co.recv ⟨4, k33d, k33k, 1, 1, 0, 0⟩ [120] = (⟨4, k33d, k33k, 1, 1, 1, 0⟩, [], 5) := by
  unfold Co.recv
  rw [k33x]
  rfl
theorem k33t : treeK (St.get k33k 0 1) = [⟨0, [97], 200, false⟩] := by
  have h : Tr.said [k33s] false false = 1 := by decide +kernel
  have hw : Tr.walk [k33s] ((Tr.roots [k33s]).headD 0) = [(0, 0)] := by decide +kernel
  show Tr.treeN [k33s] false false = _
  unfold Tr.treeN
  rw [if_pos h]
  unfold Tr.nodes
  rw [hw]
  rfl
theorem k33w : wholeK (St.get k33k 0 1) = true := by decide +kernel
theorem k33v : saidK (St.get k33k 0 1) = 1 := by decide +kernel
theorem slr_single {w : World} {g c : Nat} {x : List Value} (h : Held w g x) : SlR w c (.slice (some ⟨g, 0, none⟩) 1 1) [x] :=
  ⟨some ⟨g, 0, none⟩, 1, rfl, by simp, by unfold maxLen; omega, fun _ => ⟨g, 0, rfl, h.lt, fun i y hi j u hu => by
    cases i with
    | zero =>
      simp at hi; subst hi
      have := h.cell (i := j) hu
      simpa using this
    | succ i => simp at hi⟩⟩
theorem k33len : (seal_ (btBody 2 7 [k33s])).length ≤ 1000 := by decide +kernel
set_option maxHeartbeats 4000000 in
set_option maxRecDepth 100000 in
theorem known33_any (w : World) : Calls Tryz.prog 6 #[] w fun e w' => e = .returned (.bool true) ∧ Below w.heap.size w w' := by
  have l2 : (⟨#[120]⟩ : ByteArray) = bs [120] := rfl
  have l3 : (⟨#[97]⟩ : ByteArray) = bs [97] := rfl
  obtain ⟨S, hS⟩ : ∃ S, seal_ (btBody 2 7 [k33s]) = S := ⟨_, rfl⟩
  have HSL : Stow (S.length ≤ 1000) := ⟨by rw [← hS]; exact k33len⟩
  have HWR : Stow (btWrite 2 7 [k33s] = (S, 0)) := ⟨by unfold btWrite; rw [if_pos k33c, hS]⟩
  have hrd : btRead S = (2, 7, [k33s], 0) := by rw [← hS]; exact k33r
  have HR1 := Stow.mk (k33_1 hrd)
  have HR2 := Stow.mk (k33_2 hrd)
  obtain ⟨a, ha⟩ : ∃ a, (btAck 2 7).1 = a := ⟨_, rfl⟩
  have HAK := Stow.mk ha
  rw [ha] at HR1 HR2
  clear hS hrd ha
  go_enter Tryz.func6, Tryz.ntmps6
  go_wp2_with fail
  refine (coNew_any 4 _).mono ?_
  rintro e w1 ⟨g, rfl, hg0, hg1, hM, hb1⟩
  have HM := Stow.mk (hM (fun k => w1.heap.size ≤ k) (by omega))
  have HB := Stow.mk hb1
  obtain ⟨B, hB⟩ : ∃ B, w1.heap.size = B := ⟨_, rfl⟩
  rw [hB] at HM
  have hBw : B ≤ w1.heap.size := by omega
  have HT0 := Stow.mk (Held.made w1 [.int .u64 0, .int .u64 1] 25)
  have HM := Stow.mk (HM.out.keep (Below.alloc' (Below.self w1) (.cells #[.int .u64 0, .int .u64 1] 25)))
  have HB := Stow.mk (HB.out.alloc HB.out.size (.cells #[.int .u64 0, .int .u64 1] 25))
  have hgz : w.heap.size ≤ g := hg0
  have hgB : g < B := by omega
  clear hM hb1 hg0 hg1
  go_upto_region 5 with fail
  rw [show w1.alloc (.cells #[.int .u64 0, .int .u64 1] 25) = w1.alloc (.cells [Value.int .u64 0, .int .u64 1].toArray 25) from rfl] at HM HB ⊢
  generalize hw2 : w1.alloc (.cells [Value.int .u64 0, .int .u64 1].toArray 25) = w2 at HM HB HT0 ⊢
  rw [hB] at HT0
  have hBw2 : B < w2.heap.size := HT0.out.lt
  have hSp := slr_single (c := 11) (Held.made w2 (Sp.cells k33s) 64)
  have HSP := Stow.mk hSp
  have hbs := Below.alloc' (Below.self w2) (.cells (Sp.cells k33s).toArray 64)
  have HT := Stow.mk (HT0.out.kept hbs)
  have HM := Stow.mk (HM.out.keep hbs)
  have HB := Stow.mk (HB.out.trans (hbs.mono HB.out.size))
  have hs3 := hbs.size
  have t0 := HT0.out.cell (i := 0) rfl
  have t1 := HT0.out.cell (i := 1) rfl
  have HX3 := Stow.mk (show w2.alloc (.cells (Sp.cells k33s).toArray 64) = w2.alloc (.cells #[.int .u64 0, .int .u64 1, .int .u64 5, .int .u64 0, .string (bs [97]), .int .i64 200, .int .i64 0, .int .i64 0, .bool false, .int .i64 0, .int .i64 0] 64) from rfl)
  generalize hw3 : w2.alloc (.cells (Sp.cells k33s).toArray 64) = w3 at HSP HT HM HB HX3 hs3
  have HWC := Stow.mk (refBtWrite_any 2 7 (some ⟨w2.heap.size, 0, none⟩) 1 [k33s] w3 HSP.out k33f)
  rw [HWR.out] at HWC
  clear hSp hbs hw3 HSP HT0 hw2
  go_wp2_with (rw [← HX3.out])
  refine HWC.out.mono ?_
  rintro e w4 ⟨rfl, hb4⟩
  have HT := Stow.mk (HT.out.kept hb4)
  have HM := Stow.mk (HM.out.keep hb4)
  have HB := Stow.mk (HB.out.trans (hb4.mono HB.out.size))
  have hs4 := hb4.size
  clear hb4 HX3 t0 t1 HWC
  go_wp2_with fail
  refine (refBtAck_any 2 7 _).mono ?_
  rw [HAK.out]
  rintro e w5 ⟨rfl, hb5⟩
  have HT := Stow.mk (HT.out.kept hb5)
  have HM := Stow.mk (HM.out.keep hb5)
  have HB := Stow.mk (HB.out.trans (hb5.mono HB.out.size))
  have hs5 := hb5.size
  clear hb5
  have HOK0 : Stow ((Co.mk 4 [] [] 0 0 0 0).Ok 0) := ⟨Co.new_ok (by decide)⟩
  have K1 := coRecv_any HM.out HOK0.out (by decide) (fun k hk => show B ≤ k by omega) S (by have := HSL.out; omega)
  have HO1 := Stow.mk (Co.recv_ok HOK0.out (l := S) (by have := HSL.out; omega))
  rw [HR1.out] at K1 HO1
  have HK := Stow.mk K1
  clear K1
  go_wp2_with fail
  refine HK.out.mono ?_
  rintro e w6 ⟨rfl, hM6, ht6⟩
  have HM := Stow.mk hM6
  have HT := Stow.mk (HT.out.turn ht6 (by omega))
  have HB := Stow.mk (HB.out.trans (ht6.below (fun i hi => by omega) HB.out.size))
  have hs6 := ht6.size
  clear hM6 ht6 HK
  have K1 := coRecv_any HM.out HO1.out (by decide) (fun k hk => show B ≤ k by omega) S (by have := HSL.out; omega)
  have HO2 := Stow.mk (Co.recv_ok HO1.out (l := S) (by have := HSL.out; omega))
  rw [HR2.out] at K1 HO2
  have HK := Stow.mk K1
  clear K1
  go_wp2_with fail
  refine HK.out.mono ?_
  rintro e w7 ⟨rfl, hM7, ht7⟩
  have HM := Stow.mk hM7
  have HT := Stow.mk (HT.out.turn ht7 (by omega))
  have HB := Stow.mk (HB.out.trans (ht7.below (fun i hi => by omega) HB.out.size))
  have hs7 := ht7.size
  clear hM7 ht7 HK
  have K1 := coRecv_any HM.out HO2.out (by decide) (fun k hk => show B ≤ k by omega) [120] (by decide)
  have HO3 := Stow.mk (Co.recv_ok HO2.out (l := [120]) (by decide))
  rw [k33_3] at K1 HO3
  have HK := Stow.mk K1
  clear K1
  go_wp2_with fail
  refine HK.out.mono ?_
  rintro e w8 ⟨rfl, hM8, ht8⟩
  have HM := Stow.mk hM8
  have HT := Stow.mk (HT.out.turn ht8 (by omega))
  have HB := Stow.mk (HB.out.trans (ht8.below (fun i hi => by omega) HB.out.size))
  clear hM8 ht8 HK
  have t0 := HT.out.cell (i := 0) rfl
  have t1 := HT.out.cell (i := 1) rfl
  have K1 := coTree_any HM.out HO3.out 0 1
  simp only [k33t, k33w] at K1
  have HK := Stow.mk K1
  clear K1
  go_wp2_with fail
  refine HK.out.mono ?_
  rintro e w9 ⟨vA, vc, rfl, hn9, hb9⟩
  have HM := Stow.mk (HM.out.keep hb9)
  have HT := Stow.mk (HT.out.kept hb9)
  have HB := Stow.mk (HB.out.trans (hb9.mono HB.out.size))
  have HN := Stow.mk hn9
  clear hn9 hb9 HK t0 t1
  have hnl := slr_single (c := 4) (Held.made w9 (Nv.cells ⟨0, [97], 200, false⟩) 67)
  have hbn := Below.alloc' (Below.self w9) (.cells (Nv.cells ⟨0, [97], 200, false⟩).toArray 67)
  have HND := Stow.mk (ndSame_any [⟨0, [97], 200, false⟩] vA (some ⟨w9.heap.size, 0, none⟩) vc 1 _ (HN.out.keep hbn) hnl)
  have HM := Stow.mk (HM.out.keep hbn)
  have HT := Stow.mk (HT.out.kept hbn)
  have HB := Stow.mk (HB.out.trans (hbn.mono HB.out.size))
  clear hnl hbn HN
  go_wp2_with fail
  refine HND.out.mono ?_
  rintro e w10 ⟨rfl, hb10⟩
  have HM := Stow.mk (HM.out.keep hb10)
  have HT := Stow.mk (HT.out.kept hb10)
  have HB := Stow.mk (HB.out.trans (hb10.mono HB.out.size))
  clear hb10 HND
  have t0 := HT.out.cell (i := 0) rfl
  have t1 := HT.out.cell (i := 1) rfl
  have K1 := coVerdict_any HM.out HO3.out 0 1
  simp only [k33v] at K1
  have HK := Stow.mk K1
  clear K1
  go_wp2_with fail
  refine HK.out.mono ?_
  rintro e w11 ⟨rfl, hb11⟩
  have HM := Stow.mk (HM.out.keep hb11)
  have HB := Stow.mk (HB.out.trans (hb11.mono HB.out.size))
  clear hb11 HK t0 t1
  go_wp2_with fail
  refine (coTaken_any HM.out).mono ?_
  rintro e w12 ⟨rfl, rfl⟩
  go_wp2_with fail
  refine (coTwice_any HM.out).mono ?_
  rintro e w13 ⟨rfl, rfl⟩
  go_wp2_with fail
  refine (coBad_any HM.out).mono ?_
  rintro e w14 ⟨rfl, rfl⟩
  go_wp2_with fail
  refine (coEvicted_any HM.out).mono ?_
  rintro e w15 ⟨rfl, rfl⟩
  go_wp2_with fail
  refine (coNothing_any _).mono ?_
  rintro e w16 ⟨rfl, hb16⟩
  have HB := Stow.mk (HB.out.trans (hb16.mono HB.out.size))
  clear hb16
  go_wp2_with fail
  go_ret
  exact ⟨rfl, HB.out⟩
end Go.Proofs.YtfbhdkkmcfnghaaGreat
end

section
namespace Go.Proofs.YtfbhdkkmcfnghaaGreat
open Go.RowKit
set_option linter.unusedVariables false

/-- A list of texts. -/
def TxR (w : World) (A : Option Addr) (cap : Nat) (l : List (List UInt8)) : Prop := SlR w 1 (.slice A l.length cap) (l.map fun t => [.string (bs t)])
theorem TxR.keep {w w' : World} {A : Option Addr} {cap : Nat} {l : List (List UInt8)} (h : TxR w A cap l) (hb : Below w.heap.size w w') : TxR w' A cap l := SlR.keep h hb
theorem tx_at {w : World} {b off n cap k : Nat} {l : List (List UInt8)} (h : SlR w 1 (.slice (some ⟨b, off, none⟩) n cap) (l.map fun t => [.string (bs t)])) (hk : k < l.length) : w.cell? ⟨b, off + k, none⟩ = some (.string (bs l[k])) := by
  obtain ⟨hb, hc⟩ := h.cells (i := k) (x := [.string (bs l[k])]) (by rw [List.getElem?_map, List.getElem?_eq_getElem hk]; rfl)
  have := hc 0 _ rfl
  simpa using this
theorem info_txt : (Tryz.prog.info? 9).map (fun i => (i.zero, i.size, i.bytes)) = some (some (.string ⟨#[]⟩), 1, 16) := by kernel_rfl
theorem turn_only {w w' : World} {g : Nat} (h : Turn (· = g) w w') : Only g w w' := ⟨h.os, h.tape, h.output, h.size, fun i hi hne => h.block i hi (fun e => hne (by subst e; rfl))⟩
def an (t : List UInt8) : Value := .string (bs (Co.ans t).1)
end Go.Proofs.YtfbhdkkmcfnghaaGreat
end
