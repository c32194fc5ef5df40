/- Each trace is stored once, in plain Lean. No condition.; Walk of the law's same. Conditions: the collector's memory, the reference's.; Where a collector's lists lie. Conditions: the collector's memory.; Lists of texts, as the statements on a collector take them. No condition. -/
import Derived.Test.YtfbhdkkmcfnghaaGreatM44
import Derived.Test.YtfbhdkkmcfnghaaGreatM37
import Derived.Test.YtfbhdkkmcfnghaaGreatM42

section
namespace Go.Proofs.YtfbhdkkmcfnghaaGreat
set_option linter.unusedVariables false
namespace St
theorem putK_tr (k : Kp) (s : Sp) : (putK k s).tr = k.tr := by
  unfold putK
  split
  · rfl
  · split <;> rfl
theorem at_none_not {l : List Kp} {hi lo : Nat} (h : at_ l hi lo = none) : (hi, lo) ∉ l.map Kp.tr := by
  intro hm
  obtain ⟨k, hk, he⟩ := List.mem_map.1 hm
  unfold at_ at h
  rw [List.findIdx?_eq_none_iff] at h
  have := h k hk
  unfold Kp.tr at he
  cases he
  simp [is_] at this
theorem map_take_mid {l : List Kp} {i : Nat} (h : i < l.length) (k : Kp) (hk : k.tr = l[i].tr) : (l.take i ++ [k] ++ l.drop (i + 1)).map Kp.tr = l.map Kp.tr := by
  refine Eq.trans ?_ (congrArg (List.map Kp.tr) (map_mid h)).symm
  rw [List.map_append, List.map_append, List.map_append, List.map_cons, List.map_cons, hk]
  simp
theorem add_un {l : List Kp} (h : (l.map Kp.tr).Nodup) (r : Int) (s : Sp) : ((add l r s).1.map Kp.tr).Nodup := by
  cases ho : at_ l s.hi s.lo with
  | some i =>
    obtain ⟨hi, e⟩ := add_some (r := r) ho
    rw [e]
    simp only
    rw [map_take_mid hi _ (putK_tr _ _)]
    exact h
  | none =>
    rw [add_none ho]
    simp only
    rw [List.map_drop, List.map_append]
    refine List.Sublist.nodup (List.drop_sublist _ _) ?_
    rw [List.nodup_append]
    refine ⟨h, by simp, fun a ha b hb => ?_⟩
    obtain rfl : b = (s.hi, s.lo) := by simpa [one, Kp.tr] using hb
    intro e
    subst e
    exact at_none_not ho ha
theorem get_self {l : List Kp} (h : (l.map Kp.tr).Nodup) {k : Kp} (hk : k ∈ l) : get l k.hi k.lo = (k, true) := by
  have h2 := Co.get_mem hk
  unfold get at h2 ⊢
  cases ho : at_ l k.hi k.lo with
  | none => rw [ho] at h2; cases h2
  | some i =>
    obtain ⟨hi, hp⟩ := find_at ho
    simp only [List.getD_eq_getElem?_getD, List.getElem?_eq_getElem hi, Option.getD_some, Prod.mk.injEq, and_true]
    obtain ⟨j, hj, rfl⟩ := List.getElem_of_mem hk
    have hij : (l.map Kp.tr)[i]'(by simpa using hi) = (l.map Kp.tr)[j]'(by simpa using hj) := by
      simp only [List.getElem_map]
      simp only [is_, Bool.and_eq_true, beq_iff_eq] at hp
      unfold Kp.tr
      rw [hp.1, hp.2]
    have hpw := List.pairwise_iff_getElem.1 h
    have : i = j := by
      rcases Nat.lt_trichotomy i j with hlt | rfl | hlt
      · exact absurd hij (hpw i j (by simpa using hi) (by simpa using hj) hlt)
      · rfl
      · exact absurd hij.symm (hpw j i (by simpa using hj) (by simpa using hi) hlt)
    subst this
    rfl
end St
namespace Co
theorem adds_un (r : Int) : ∀ (L : List Sp) (K : List Kp) (n : Nat), (K.map Kp.tr).Nodup → ((adds r L K n).1.map Kp.tr).Nodup
  | [], K, n, h => h
  | s :: t, K, n, h => adds_un r t _ _ (St.add_un h r s)
theorem recv_un {c : Co} (h : c.trs.Nodup) (l : List UInt8) : (c.recv l).1.trs.Nodup := by
  unfold recv
  split
  · exact h
  · simp only
    unfold add
    split
    · exact adds_un _ _ _ _ h
    · exact h
end Co
end Go.Proofs.YtfbhdkkmcfnghaaGreat
end

section
namespace Go.Proofs.YtfbhdkkmcfnghaaGreat
open Go.RowKit
set_option linter.unusedVariables false
set_option linter.unusedSimpArgs false

set_option maxHeartbeats 8000000 in
set_option maxRecDepth 100000 in
theorem same33_any {w : World} {P : Nat → Prop} {g m : Nat} {c : Co} {v : Value} {W0 : List Wm} {A : Option Addr} {cap : Nat} {R : List Km} (h : CoM w P g c) (hx : RfS w c v W0 A cap R) (hc : c.Ok m) (hm : m ≤ 1000000) (hun : c.trs.Nodup) :
    Calls Tryz.prog 12 #[.pointer (some ⟨g, 0, none⟩), .agg (c.cells v A R.length cap).toArray] w fun e w' => e = .returned (.bool true) ∧ Below w.heap.size w w' := by
  have hlen : R.length ≤ 32 := by
    have := hc.fine.len
    rw [← hx.kk] at this
    simpa using this
  have htl : R.length = c.trs.length := by unfold Co.trs; rw [← hx.kk]; simp
  have HTL := Stow.mk htl
  have HLN := Stow.mk hlen
  have HSM := Stow.mk (fun A A' cap cap' W => rSameTr_any c.trs A A' cap cap' W)
  rw [← htl] at HSM
  obtain ⟨Av, kv, rfl⟩ := hx.win.form
  obtain ⟨n, hn⟩ : ∃ n, W0.length = n := ⟨_, rfl⟩
  have hb := Below.alloc' (Below.self w) (.cells (c.cells (.slice Av W0.length kv) A R.length cap).toArray 32)
  have HX := Stow.mk (Held.made w (c.cells (.slice Av W0.length kv) A R.length cap) 32)
  have HM := Stow.mk (h.keep hb)
  have HS := Stow.mk (hx.keep hb)
  have HB := Stow.mk hb
  have HOK := Stow.mk hc
  have HUN := Stow.mk hun
  obtain ⟨W, hW⟩ : ∃ W, w.alloc (.cells (c.cells (.slice Av W0.length kv) A R.length cap).toArray 32) = W := ⟨_, rfl⟩
  rw [hW] at HX HM HS HB
  have HW := Stow.mk hW
  have HSF : Stow (∀ W', Below W.heap.size W W' → W'.cell? ⟨w.heap.size, 2, none⟩ = some (.slice A R.length cap) ∧ W'.cell? ⟨w.heap.size, 3, none⟩ = some (.int .i64 (c.tk : Nat)) ∧ W'.cell? ⟨w.heap.size, 4, none⟩ = some (.int .i64 (c.tw : Nat)) ∧ W'.cell? ⟨w.heap.size, 5, none⟩ = some (.int .i64 (c.bd : Nat)) ∧ W'.cell? ⟨w.heap.size, 6, none⟩ = some (.int .i64 (c.ev : Nat))) := ⟨fun W' hb => ⟨(HX.out.kept hb).cell (i := 2) rfl, (HX.out.kept hb).cell (i := 3) rfl, (HX.out.kept hb).cell (i := 4) rfl, (HX.out.kept hb).cell (i := 5) rfl, (HX.out.kept hb).cell (i := 6) rfl⟩⟩
  clear h hx hc hun hb hW htl hlen
  rw [hn] at HX HS HW ⊢
  unfold Co.cells at HW ⊢
  go_enter Tryz.func12, Tryz.ntmps12
  go_upto_region 1 with fail
  generalize hX : World.alloc w _ = X
  obtain rfl : W = X := HW.out.symm.trans hX
  clear hX HW
  have hkk := HSF.out W (Below.self W)
  obtain ⟨k2, k3, k4, k5, k6⟩ := HSF.out W (Below.self W)
  have HT1 := Stow.mk (fun W' (hb : Below W.heap.size W W') => coTraces_any (HM.out.keep hb) HOK.out)
  rw [← HTL.out] at HT1
  have HT2 := Stow.mk (fun W' (hb : Below W.heap.size W W') => rTraces_any A cap R W' (HS.out.keep hb).ks (by have := HLN.out; omega))
  have HKK : Stow (R.map Km.k = c.K) := ⟨HS.out.kk⟩
  go_region_held3 (fun W' => W'.cell? ⟨w.heap.size, 2, none⟩ = some (.slice A R.length cap) ∧ W'.cell? ⟨w.heap.size, 3, none⟩ = some (.int .i64 (c.tk : Nat)) ∧ W'.cell? ⟨w.heap.size, 4, none⟩ = some (.int .i64 (c.tw : Nat)) ∧ W'.cell? ⟨w.heap.size, 5, none⟩ = some (.int .i64 (c.bd : Nat)) ∧ W'.cell? ⟨w.heap.size, 6, none⟩ = some (.int .i64 (c.ev : Nat))) (first | go_keep | exact hkk)
    (first
      | (go_at_call 16; (first | have HC := HBl | have HC := Stow.mk (Below.drew (Below.self W))); refine (HT1.out _ HC.out).mono ?_; rintro e w1 ⟨A1, c1, rfl, ht1, hb1⟩; have HBl := Stow.mk (HC.out.trans (hb1.mono HC.out.size)); have HL1 := Stow.mk ht1; (try have HL2 := Stow.mk (HL2.out.keep hb1)); have hkk := HSF.out _ HBl.out)
      | (go_at_call 36; (first | have HC := HBl | have HC := Stow.mk (Below.drew (Below.self W))); refine (HT2.out _ HC.out).mono ?_; rintro e w2 ⟨A2, c2, rfl, ht2, hb2⟩; have HBl := Stow.mk (HC.out.trans (hb2.mono HC.out.size)); have HL2 := Stow.mk (show TrL w2 A2 c2 c.trs from TrR.list ht2 HKK.out); (try have HL1 := Stow.mk (HL1.out.keep hb2)); have hkk := HSF.out _ HBl.out)
      | (go_at_call 18; have HC := HBl; refine (HSM.out A1 A2 c1 c2 _ HL1.out HL2.out).mono ?_; rintro e w3 ⟨rfl, hb3⟩; have HBl := Stow.mk (HC.out.trans (hb3.mono HC.out.size)); have hkk := HSF.out _ HBl.out)
      | (go_at_call 17; refine (coTaken_any (HM.out.keep HBl.out)).mono ?_; rintro e w4 ⟨rfl, rfl⟩)
      | (go_at_call 19; refine (coTwice_any (HM.out.keep HBl.out)).mono ?_; rintro e w4 ⟨rfl, rfl⟩)
      | (go_at_call 20; refine (coBad_any (HM.out.keep HBl.out)).mono ?_; rintro e w4 ⟨rfl, rfl⟩)
      | (go_at_call 22; refine (coEvicted_any (HM.out.keep HBl.out)).mono ?_; rintro e w4 ⟨rfl, rfl⟩))
  all_goals
    have HB1 := Stow.mk (HB.out.trans (HBl.out.mono HB.out.size))
    have HBl1 := Stow.mk HBl.out
    clear hkk k2 k3 k4 k5 k6
    have q2 := (HX.out.kept HBl1.out).cell (i := 2) rfl
    go_wp2_with fail
    clear q2
    go_loopw [5, 6, 7, 8, 9, 10, 11] (fun u _ _ _ _ _ _ wr => ∃ i : Nat, u = .int .i64 (i : Int) ∧ i ≤ R.length ∧ Stow (Below W.heap.size W wr)) (fun u _ _ _ _ _ _ _ => R.length - (intOf u).toNat)
    case atStart => exact ⟨0, rfl, by omega, HBl1⟩
    case round =>
      obtain ⟨i, rfl, hi, HBR⟩ := hrel
      have x0 := (HX.out.kept HBR.out).cell (i := 0) rfl
      have x1 := (HX.out.kept HBR.out).cell (i := 1) rfl
      have x2 := (HX.out.kept HBR.out).cell (i := 2) rfl
      have x3 := (HX.out.kept HBR.out).cell (i := 3) rfl
      have x4 := (HX.out.kept HBR.out).cell (i := 4) rfl
      have x5 := (HX.out.kept HBR.out).cell (i := 5) rfl
      have x6 := (HX.out.kept HBR.out).cell (i := 6) rfl
      by_cases hlt : i < R.length
      · have hmk : R[i].k ∈ c.K := by rw [← HKK.out]; exact List.mem_map_of_mem (List.getElem_mem hlt)
        have hgs := St.get_self HUN.out hmk
        have hkp := coKept_any (HM.out.keep HBR.out) HOK.out R[i].k.hi R[i].k.lo
        have htr := fun W' (hb : Below W.heap.size W W') => coTree_any (HM.out.keep hb) HOK.out R[i].k.hi R[i].k.lo
        have hrt := fun W' (hb : Below W.heap.size W W') => rTree_any (HS.out.keep hb) HOK.out R[i].k.hi R[i].k.lo
        have hcv := fun W' (hb : Below W.heap.size W W') => coVerdict_any (HM.out.keep hb) HOK.out R[i].k.hi R[i].k.lo
        have hrv := fun W' (hb : Below W.heap.size W W') => rVerdict_any (HS.out.keep hb) HOK.out R[i].k.hi R[i].k.lo
        have hre := HS.out.ks.each _ (List.getElem_mem hlt)
        obtain ⟨b, off, rfl, hblt, _⟩ := SlR.open HS.out.ks.row (by simp; omega)
        have hra := (km_at HS.out.ks.row hlt).2
        simp only [hgs, hn] at hkp htr hrt hcv hrv
        obtain ⟨y, hy⟩ : ∃ y, R[i] = y := ⟨_, rfl⟩
        rw [hy] at hkp htr hrt hcv hrv hre hra
        obtain ⟨⟨yh, yl, yL, yx, yc⟩, yA, ycap⟩ := y
        simp only at hkp htr hrt hcv hrv
        obtain ⟨M, hM⟩ : ∃ M, treeK (Kp.mk yh yl yL yx yc, true) = M := ⟨_, rfl⟩
        obtain ⟨tb, htb⟩ : ∃ b, wholeK (Kp.mk yh yl yL yx yc, true) = b := ⟨_, rfl⟩
        obtain ⟨sd, hsd⟩ : ∃ b, saidK (Kp.mk yh yl yL yx yc, true) = b := ⟨_, rfl⟩
        simp only [hM, htb, hsd] at htr hrt hcv hrv
        have HKP := Stow.mk hkp
        have HTR := Stow.mk htr
        have HRT := Stow.mk hrt
        have HCV := Stow.mk hcv
        have HRV := Stow.mk hrv
        have HRE := Stow.mk hre
        have HRA := Stow.mk hra
        have hii : (i : Int) < R.length := by omega
        have hi0 : (0 : Int) ≤ i := by omega
        have r0 : wr.cell? ⟨b, off + i * 5, none⟩ = some (.int .u64 (yh : Int)) := (HBR.out.cell (p := ⟨b, _, none⟩) hblt).trans (HRA.out 0 _ rfl)
        have r1 : wr.cell? ⟨b, off + i * 5 + 1, none⟩ = some (.int .u64 (yl : Int)) := (HBR.out.cell (p := ⟨b, _, none⟩) hblt).trans (HRA.out 1 _ rfl)
        clear hkp htr hrt hcv hrv hre hra hM htb hsd hgs hmk hy
        go_wp2_with fail
        refine HKP.out.mono ?_
        rintro e w6 ⟨⟨⟨mh, ml, mL, mx, mc⟩, mA, mcap⟩, rfl, hk6, hR6, hb6⟩
        simp only [Kp.mk.injEq] at hk6
        obtain ⟨e1, e2, e3, e4, e5⟩ := hk6
        subst e1 e2 e3 e4 e5
        have hx6 := Below.alloc' (Below.self w6) (.cells #[.int .u64 (mh : Int), .int .u64 (ml : Int), .slice mA mL.length mcap, .bool mx, .bool mc] 40)
        have hHk := Held.made w6 [.int .u64 (mh : Int), .int .u64 (ml : Int), .slice mA mL.length mcap, .bool mx, .bool mc] 40
        have hR6' := hR6.keep hx6
        have hB6 := HBR.out.trans ((hb6.trans (hx6.mono hb6.size)).mono HBR.out.size)
        obtain ⟨W6, hW6⟩ : ∃ W, w6.alloc (.cells #[.int .u64 (mh : Int), .int .u64 (ml : Int), .slice mA mL.length mcap, .bool mx, .bool mc] 40) = W := ⟨_, rfl⟩
        rw [show w6.alloc (.cells [.int .u64 (mh : Int), .int .u64 (ml : Int), .slice mA mL.length mcap, .bool mx, .bool mc].toArray 40) = W6 from hW6] at hHk
        rw [hW6] at hR6' hB6
        have HR6 := Stow.mk hR6'
        have HB6 := Stow.mk hB6
        have HHK := Stow.mk hHk
        have HW6 := Stow.mk hW6
        clear hx6 hHk hR6 hR6' hb6 hB6 hW6 HKP x0 x1 x2 x3 x4 x5 x6 r0 r1
        dsimp only [Km.cells]
        go_upto_region 7 with fail
        rw [HW6.out]
        have x2 := (HX.out.kept HB6.out).cell (i := 2) rfl
        have r0 : W6.cell? ⟨b, off + i * 5, none⟩ = some (.int .u64 (mh : Int)) := (HB6.out.cell (p := ⟨b, _, none⟩) hblt).trans (HRA.out 0 _ rfl)
        have r1 : W6.cell? ⟨b, off + i * 5 + 1, none⟩ = some (.int .u64 (ml : Int)) := (HB6.out.cell (p := ⟨b, _, none⟩) hblt).trans (HRA.out 1 _ rfl)
        go_wp2_with fail
        refine (HTR.out _ HB6.out).mono ?_
        rintro e w7 ⟨vA7, vc7, rfl, hn7, hb7⟩
        have HB7 := Stow.mk (HB6.out.trans (hb7.mono HB6.out.size))
        have HHK := Stow.mk (HHK.out.kept hb7)
        have HR7 := Stow.mk (HR6.out.keep hb7)
        have HN7 := Stow.mk hn7
        clear hn7 hb7 x2 r0 r1
        go_upto_region 8 with fail
        have HSF8 : Stow (∀ W', Below W.heap.size W W' → W'.cell? ⟨w.heap.size, 0, none⟩ = some (.int .i64 c.room) ∧ W'.cell? ⟨w.heap.size, 1, none⟩ = some (.slice Av n kv) ∧ W'.cell? ⟨w.heap.size, 2, none⟩ = some (.slice (some ⟨b, off, none⟩) R.length cap) ∧ W'.cell? ⟨w.heap.size, 3, none⟩ = some (.int .i64 (c.tk : Nat)) ∧ W'.cell? ⟨w.heap.size, 4, none⟩ = some (.int .i64 (c.tw : Nat)) ∧ W'.cell? ⟨w.heap.size, 5, none⟩ = some (.int .i64 (c.bd : Nat)) ∧ W'.cell? ⟨w.heap.size, 6, none⟩ = some (.int .i64 (c.ev : Nat)) ∧ W'.cell? ⟨b, off + i * 5, none⟩ = some (.int .u64 (mh : Int)) ∧ W'.cell? ⟨b, off + i * 5 + 1, none⟩ = some (.int .u64 (ml : Int))) := ⟨fun W' hb => ⟨(HX.out.kept hb).cell (i := 0) rfl, (HX.out.kept hb).cell (i := 1) rfl, (HX.out.kept hb).cell (i := 2) rfl, (HX.out.kept hb).cell (i := 3) rfl, (HX.out.kept hb).cell (i := 4) rfl, (HX.out.kept hb).cell (i := 5) rfl, (HX.out.kept hb).cell (i := 6) rfl, (hb.cell (p := ⟨b, _, none⟩) hblt).trans (HRA.out 0 _ rfl), (hb.cell (p := ⟨b, _, none⟩) hblt).trans (HRA.out 1 _ rfl)⟩⟩
        have hkk := HSF8.out w7 HB7.out
        obtain ⟨k0, k1, k2, k3, k4, k5, k6, k7, k8⟩ := HSF8.out w7 HB7.out
        clear HBl
        go_region_held3 (fun W' => W'.cell? ⟨w.heap.size, 0, none⟩ = some (.int .i64 c.room) ∧ W'.cell? ⟨w.heap.size, 1, none⟩ = some (.slice Av n kv) ∧ W'.cell? ⟨w.heap.size, 2, none⟩ = some (.slice (some ⟨b, off, none⟩) R.length cap) ∧ W'.cell? ⟨w.heap.size, 3, none⟩ = some (.int .i64 (c.tk : Nat)) ∧ W'.cell? ⟨w.heap.size, 4, none⟩ = some (.int .i64 (c.tw : Nat)) ∧ W'.cell? ⟨w.heap.size, 5, none⟩ = some (.int .i64 (c.bd : Nat)) ∧ W'.cell? ⟨w.heap.size, 6, none⟩ = some (.int .i64 (c.ev : Nat)) ∧ W'.cell? ⟨b, off + i * 5, none⟩ = some (.int .u64 (mh : Int)) ∧ W'.cell? ⟨b, off + i * 5 + 1, none⟩ = some (.int .u64 (ml : Int))) (first | go_keep | exact hkk)
          (first | (go_at_call 37; refine (HRT.out _ (HB7.out.trans ((Below.drew (Below.self w7)).mono HB7.out.size))).mono ?_; rintro e w8 ⟨vA8, vc8, rfl, hn8, hb8⟩; have HBl := Stow.mk ((HB7.out.trans ((Below.drew (Below.self w7)).mono HB7.out.size)).trans (hb8.mono (HB7.out.trans ((Below.drew (Below.self w7)).mono HB7.out.size)).size)); have HBz := Stow.mk ((Below.drew (Below.self w7)).trans hb8); have hkk := HSF8.out _ HBl.out))
        have HB8 := Stow.mk HBl.out
        have HHK := Stow.mk (HHK.out.kept HBz.out)
        have HR8 := Stow.mk (HR7.out.keep HBz.out)
        have HN7 := Stow.mk (SlR.keep HN7.out HBz.out)
        have HN8 := Stow.mk hn8
        clear hkk k0 k1 k2 k3 k4 k5 k6 k7 k8 hn8 hb8 HBz HBl HR7 HR6
        go_upto_region 9 with fail
        have HBW : Stow (∀ W', Below w8.heap.size w8 W' → Below W.heap.size W W') := ⟨fun W' hb => HB8.out.trans (hb.mono HB8.out.size)⟩
        have HSF9 : Stow (∀ W', Below w8.heap.size w8 W' → W'.cell? ⟨w.heap.size, 0, none⟩ = some (.int .i64 c.room) ∧ W'.cell? ⟨w.heap.size, 1, none⟩ = some (.slice Av n kv) ∧ W'.cell? ⟨w.heap.size, 2, none⟩ = some (.slice (some ⟨b, off, none⟩) R.length cap) ∧ W'.cell? ⟨w.heap.size, 3, none⟩ = some (.int .i64 (c.tk : Nat)) ∧ W'.cell? ⟨w.heap.size, 4, none⟩ = some (.int .i64 (c.tw : Nat)) ∧ W'.cell? ⟨w.heap.size, 5, none⟩ = some (.int .i64 (c.bd : Nat)) ∧ W'.cell? ⟨w.heap.size, 6, none⟩ = some (.int .i64 (c.ev : Nat)) ∧ W'.cell? ⟨w6.heap.size, 0, none⟩ = some (.int .u64 (mh : Int)) ∧ W'.cell? ⟨w6.heap.size, 1, none⟩ = some (.int .u64 (ml : Int)) ∧ W'.cell? ⟨w6.heap.size, 2, none⟩ = some (.slice mA mL.length mcap) ∧ W'.cell? ⟨w6.heap.size, 3, none⟩ = some (.bool mx) ∧ W'.cell? ⟨w6.heap.size, 4, none⟩ = some (.bool mc) ∧ W'.cell? ⟨b, off + i * 5, none⟩ = some (.int .u64 (mh : Int)) ∧ W'.cell? ⟨b, off + i * 5 + 1, none⟩ = some (.int .u64 (ml : Int)) ∧ W'.cell? ⟨b, off + i * 5 + 2, none⟩ = some (.slice yA mL.length ycap) ∧ W'.cell? ⟨b, off + i * 5 + 3, none⟩ = some (.bool mx) ∧ W'.cell? ⟨b, off + i * 5 + 4, none⟩ = some (.bool mc)) := ⟨fun W' hb0 => by
          have hb := HBW.out W' hb0
          exact ⟨(HX.out.kept hb).cell (i := 0) rfl, (HX.out.kept hb).cell (i := 1) rfl, (HX.out.kept hb).cell (i := 2) rfl, (HX.out.kept hb).cell (i := 3) rfl, (HX.out.kept hb).cell (i := 4) rfl, (HX.out.kept hb).cell (i := 5) rfl, (HX.out.kept hb).cell (i := 6) rfl, (HHK.out.kept hb0).cell (i := 0) rfl, (HHK.out.kept hb0).cell (i := 1) rfl, (HHK.out.kept hb0).cell (i := 2) rfl, (HHK.out.kept hb0).cell (i := 3) rfl, (HHK.out.kept hb0).cell (i := 4) rfl, (hb.cell (p := ⟨b, _, none⟩) hblt).trans (HRA.out 0 _ rfl), (hb.cell (p := ⟨b, _, none⟩) hblt).trans (HRA.out 1 _ rfl), (hb.cell (p := ⟨b, _, none⟩) hblt).trans (HRA.out 2 _ rfl), (hb.cell (p := ⟨b, _, none⟩) hblt).trans (HRA.out 3 _ rfl), (hb.cell (p := ⟨b, _, none⟩) hblt).trans (HRA.out 4 _ rfl)⟩⟩
        have hkk := HSF9.out w8 (Below.self w8)
        obtain ⟨k0, k1, k2, k3, k4, k5, k6, k7, k8, k9, k10, k11, k12, k13, k14, k15, k16⟩ := HSF9.out w8 (Below.self w8)
        have hdd : Below w8.heap.size w8 w8.drew := Below.drew (Below.self w8)
        have HONE := Stow.mk (fun W (hb : Below w8.heap.size w8 W) => rOne_any ⟨⟨mh, ml, mL, mx, mc⟩, mA, mcap⟩ ⟨⟨mh, ml, mL, mx, mc⟩, yA, ycap⟩ W rfl (HR8.out.keep hb) (HRE.out.keep (HBW.out _ hb)))
        have hl32 := HLN.out
        as_aux_lemma =>
          go_region_held3 (fun W' => W'.cell? ⟨w.heap.size, 0, none⟩ = some (.int .i64 c.room) ∧ W'.cell? ⟨w.heap.size, 1, none⟩ = some (.slice Av n kv) ∧ W'.cell? ⟨w.heap.size, 2, none⟩ = some (.slice (some ⟨b, off, none⟩) R.length cap) ∧ W'.cell? ⟨w.heap.size, 3, none⟩ = some (.int .i64 (c.tk : Nat)) ∧ W'.cell? ⟨w.heap.size, 4, none⟩ = some (.int .i64 (c.tw : Nat)) ∧ W'.cell? ⟨w.heap.size, 5, none⟩ = some (.int .i64 (c.bd : Nat)) ∧ W'.cell? ⟨w.heap.size, 6, none⟩ = some (.int .i64 (c.ev : Nat)) ∧ W'.cell? ⟨w6.heap.size, 0, none⟩ = some (.int .u64 (mh : Int)) ∧ W'.cell? ⟨w6.heap.size, 1, none⟩ = some (.int .u64 (ml : Int)) ∧ W'.cell? ⟨w6.heap.size, 2, none⟩ = some (.slice mA mL.length mcap) ∧ W'.cell? ⟨w6.heap.size, 3, none⟩ = some (.bool mx) ∧ W'.cell? ⟨w6.heap.size, 4, none⟩ = some (.bool mc) ∧ W'.cell? ⟨b, off + i * 5, none⟩ = some (.int .u64 (mh : Int)) ∧ W'.cell? ⟨b, off + i * 5 + 1, none⟩ = some (.int .u64 (ml : Int)) ∧ W'.cell? ⟨b, off + i * 5 + 2, none⟩ = some (.slice yA mL.length ycap) ∧ W'.cell? ⟨b, off + i * 5 + 3, none⟩ = some (.bool mx) ∧ W'.cell? ⟨b, off + i * 5 + 4, none⟩ = some (.bool mc)) (first | go_keep | exact hkk)
            (first
              | (go_at_call 13; (first | have HC := HBm | have HC := Stow.mk hdd); refine (HONE.out _ HC.out).mono ?_; rintro e w9 ⟨rfl, hb9⟩; have HBm := Stow.mk (HC.out.trans (hb9.mono HC.out.size)); have hkk := HSF9.out _ HBm.out)
              | (go_at_call 14; (first | have HC := HBm | have HC := Stow.mk hdd); refine (HCV.out _ (HBW.out _ HC.out)).mono ?_; rintro e w10 ⟨rfl, hb10⟩; have HBm := Stow.mk (HC.out.trans (hb10.mono HC.out.size)); have hkk := HSF9.out _ HBm.out)
              | (go_at_call 15; (first | have HC := HBm | have HC := Stow.mk hdd); refine (HRV.out _ (HBW.out _ HC.out)).mono ?_; rintro e w11 ⟨rfl, hb11⟩; have HBm := Stow.mk (HC.out.trans (hb11.mono HC.out.size)); have hkk := HSF9.out _ HBm.out)
              | (go_at_call 24; (first | have HC := HBm | have HC := Stow.mk hdd); refine (ndSame_any M vA7 vA8 vc7 vc8 _ (SlR.keep HN7.out HC.out) (SlR.keep HN8.out HC.out)).mono ?_; rintro e w12 ⟨rfl, hb12⟩; have HBm := Stow.mk (HC.out.trans (hb12.mono HC.out.size)); have hkk := HSF9.out _ HBm.out))
          all_goals
            have HBE := Stow.mk (HBW.out _ HBm.out)
            clear hkk k0 k1 k2 k3 k4 k5 k6 k7 k8 k9 k10 k11 k12 k13 k14 k15 k16
            go_wp2_with fail
            exact ⟨⟨i + 1, by simp, by omega, HBE⟩, by simp [intOf]; omega⟩
      · obtain rfl : i = R.length := by omega
        have hii : ¬ (R.length : Int) < R.length := by omega
        go_wp2_with fail
        go_ret
        exact ⟨rfl, HB.out.trans (HBR.out.mono HB.out.size)⟩
end Go.Proofs.YtfbhdkkmcfnghaaGreat
end

section
namespace Go.Proofs.YtfbhdkkmcfnghaaGreat
open Go.RowKit
set_option linter.unusedVariables false

theorem InK.low {w : World} {A : Option Addr} {cap : Nat} {R : List Km} (h : KsR w A cap R) (hp : ∀ m ∈ R, 0 < m.k.L.length) : InK (fun k => k < w.heap.size) A R := by
  refine ⟨fun hne a ha => ?_, fun m hm a ha => km_block (h.each m hm) (hp m hm) a ha⟩
  obtain ⟨b, off, hA, hb, _⟩ := SlR.open h.row (by rw [List.length_map]; exact List.length_pos_iff.2 hne)
  rw [ha] at hA
  cases hA
  exact hb
/-- They lie in blocks that are there. -/
theorem CoM.low {w : World} {P : Nat → Prop} {g m : Nat} {c : Co} (h : CoM w P g c) (hc : c.Ok m) : CoM w (fun k => P k ∧ k < w.heap.size) g c := by
  obtain ⟨v, W, A, cap, R, h⟩ := h
  have hW : InW (fun k => k < w.heap.size) v W := InW.of_win h.row.win (fun p hp => by
    have hm : p.w ∈ c.D := by rw [← h.row.wis]; exact List.mem_map_of_mem hp
    have := (hc.dd.each _ hm).top
    intro e
    rw [e] at this
    cases this)
  have hK : InK (fun k => k < w.heap.size) A R := InK.low h.row.ks (fun m hm => by
    have : m.k ∈ c.K := by rw [← h.row.kk]; exact List.mem_map_of_mem hm
    exact (hc.fine.each _ this).1)
  exact ⟨v, W, A, cap, R, h.head, fun hg => h.gP hg.1, h.row.win, h.row.wis, ⟨fun a n c e => ⟨h.row.inw.1 a n c e, hW.1 a n c e⟩, fun p hp a e => ⟨h.row.inw.2 p hp a e, hW.2 p hp a e⟩⟩, ⟨fun hne a e => ⟨h.row.ink.1 hne a e, hK.1 hne a e⟩, fun p hp a e => ⟨h.row.ink.2 p hp a e, hK.2 p hp a e⟩⟩, h.row.ks, h.row.kk⟩
/-- The collector lies off a row of the call's own. -/
def offO (g : Nat) (o : Value) (k : Nat) : Prop := k ≠ g ∧ o.ownBlock ≠ some k
/-- Behind an append to that row. -/
theorem CoM.appended {w W w' : World} {g m g' n cap : Nat} {o : Value} {c : Co} (h : CoM w (offO g o) g c) (hc : c.Ok m) (hb : Below w.heap.size w W) (hgr : W.grownBy w' o.ownBlock) (ho : ∀ k, o.ownBlock = some k → k ≠ g) (hat : o.ownBlock = some g' ∨ w.heap.size ≤ g') :
    CoM w' (offO g (.slice (some ⟨g', 0, none⟩) n cap)) g c := by
  have h1 := (h.low hc).keep hb
  have h2 : CoM w' (fun k => offO g o k ∧ k < w.heap.size) g c := by
    refine h1.other (F := fun k => o.ownBlock = some k) ⟨hgr.os, hgr.tape, hgr.output, hgr.size, fun k hk hn => hgr.block k hk (fun e => hn e.symm)⟩ (fun i hi hP => hP.1.2 hi) (fun e => ho g e rfl)
  refine h2.said (fun k hk => ⟨hk.1.1, fun e => ?_⟩) (fun hg => hg.1 rfl)
  have e' : g' = k := by simpa [Value.ownBlock] using e
  subst e'
  rcases hat with h | h
  · exact hk.1.2 h
  · have := hk.2
    omega
/-- 'append(out, x)': the row, and where it lies. -/
theorem wpList_append_elem_lies {P : Program} {ops : Array Oper} {rest : List Oper} {o : Oper} {a : Act} {Q : Exit → Act → World → Prop}
    (wr : World) (xs : List Value) (eo : TypeId) (hgd : o.guard = none) (s y : Operand) (t : TypeId)
    (ho : o.op = Op.call { callee := Callee.builtin Builtin.append, args := #[s, y], argTypes := #[t, t] })
    (B : Nat) (e : TypeId) (z : Value) (size bytes : Nat) (ht : P.underlying t = some (.slice e))
    (hinfo : (P.info? e).map (fun i => (i.zero, i.size, i.bytes)) = some (some z, size, bytes))
    (v : Value) (n : Nat) (ys : List Value) (hown : wr.ownsRow B e size v n ys)
    (hs : a.eval s = v) (g : Nat) (hx : a.eval y = .slice (some ⟨g, 0, none⟩) 1 1) (hgs : g = wr.heap.size)
    (hzc : z.cells.size = size) (hsz : 0 < size) (hlen : xs.length = size) (h1 : ∀ u ∈ xs, u.oneCell' = true) (hbytes : (n + 1) * bytes ≤ 140737488355328) (hn : n + 1 ≤ maxLen) (hB : B ≤ wr.heap.size)
    (h : ∀ g' cap w', w'.ownsRow B e size (.slice (some ⟨g', 0, none⟩) (n + 1) cap) (n + 1) (ys ++ xs) → (wr.alloc (.cells xs.toArray eo)).grownBy w' v.ownBlock → Below B wr w' → wr.heap.size < w'.heap.size → (v.ownBlock = some g' ∨ wr.heap.size ≤ g') →
      wpList P ops Q rest (a.put o.dst (.slice (some ⟨g', 0, none⟩) (n + 1) cap)) w') :
    wpList P ops Q (o :: rest) a (wr.alloc (.cells xs.toArray eo)) := by
  subst hgs
  obtain ⟨i, hi, hz, hsz', hby⟩ := info_parts hinfo
  refine wpList_append_lies _ hgd s y t ho B e i z size bytes ht hi hz hsz' hby hzc hsz v n ys hs (hown.alloc _) ⟨wr.heap.size, 0, none⟩ 1 1 xs hx (by rw [hlen, Nat.one_mul]) ?_ h1 (by decide) hn hbytes (by simp; omega) (wr.heap.size + 1) (by simp) ?_
  · intro j u hj
    rw [Addr.add_lit, Nat.zero_add]
    have : (wr.alloc (.cells xs.toArray eo)).cell? ⟨wr.heap.size, j, none⟩ = xs[j]? := by simp
    rw [this, hj]
  · intro g' cap w' ho' hg hat hlt
    have hb : Below B wr (wr.alloc (.cells xs.toArray eo)) := (Below.refl _ _).alloc hB _
    refine h g' cap w' ho' hg (hb.grown hg (by simp; omega) fun k hk => (hown.lt k hk).1) ?_ (hat.imp id (by omega))
    have := hg.size
    simp at this; omega
/-- A row of one's own grows: where it lay it is another block's rows no more. -/
theorem km_grown {W w' : World} {o : Value} {m : Km} (h : KmR W m) (hgr : W.grownBy w' o.ownBlock) (hne : ∀ a, m.A = some a → o.ownBlock ≠ some a.block) : KmR w' m := by
  refine slrTurn (F := fun k => o.ownBlock = some k) h ⟨hgr.os, hgr.tape, hgr.output, hgr.size, fun k hk hn => hgr.block k hk (fun e => hn e.symm)⟩ (fun ad had hf => hne ad had hf)
theorem Co.get_fine {K : List Kp} {k : Kp} (hf : St.Fine K) (h : k ∈ K) : 0 < (St.get K k.hi k.lo).1.L.length ∧ (St.get K k.hi k.lo).1.L.length ≤ 64 := by
  have h2 := Co.get_mem h
  unfold St.get at h2 ⊢
  cases ho : St.at_ K k.hi k.lo with
  | none => rw [ho] at h2; cases h2
  | some i =>
    obtain ⟨hi, _⟩ := St.find_at ho
    simp only [List.getD_eq_getElem?_getD, List.getElem?_eq_getElem hi, Option.getD_some]
    exact hf.each _ (List.getElem_mem hi)
/-- Elements of a row that grows, which lie beside it. -/
structure BesideK (w : World) (D : Nat) (o : Value) (R : List Km) : Prop where
  each : ∀ m ∈ R, KmR w m
  far : ∀ m ∈ R, ∀ a, m.A = some a → D ≤ a.block ∧ a.block < w.heap.size ∧ o.ownBlock ≠ some a.block
theorem BesideK.nil (w : World) (D : Nat) (o : Value) : BesideK w D o [] := ⟨by simp, by simp⟩
theorem BesideK.keep {w w' : World} {D : Nat} {o : Value} {R : List Km} (h : BesideK w D o R) (hb : Below w.heap.size w w') : BesideK w' D o R :=
  ⟨fun m hm => (h.each m hm).keep hb, fun m hm a ha => by obtain ⟨h1, h2, h3⟩ := h.far m hm a ha; exact ⟨h1, Nat.lt_of_lt_of_le h2 hb.size, h3⟩⟩
/-- One element more: its rows are newer than the row. -/
theorem BesideK.more {w0 w W w' : World} {D g' n cap : Nat} {o : Value} {R : List Km} {m : Km} (h : BesideK w0 D o R) (hb0 : Below w0.heap.size w0 w) (hD : D ≤ w0.heap.size) (hm : KmR w m) (hpos : 0 < m.k.L.length) (hnew : ∀ a, m.A = some a → w0.heap.size ≤ a.block)
    (ho : ∀ k, o.ownBlock = some k → k < w0.heap.size) (hb : Below w.heap.size w W) (hgr : W.grownBy w' o.ownBlock) (hat : o.ownBlock = some g' ∨ w.heap.size ≤ g') : BesideK w' D (.slice (some ⟨g', 0, none⟩) n cap) (R ++ [m]) := by
  have h1 := h.keep hb0
  have hmb := km_block hm hpos
  have hsz := Nat.le_trans hb.size hgr.size
  refine ⟨fun x hx => ?_, fun x hx a ha => ?_⟩
  · rcases List.mem_append.1 hx with hx | hx
    · exact km_grown ((h1.each x hx).keep hb) hgr (fun a ha => (h1.far x hx a ha).2.2)
    · obtain rfl : x = m := by simpa using hx
      exact km_grown (hm.keep hb) hgr (fun a ha e => by have := ho _ e; have := hnew a ha; omega)
  · have key : D ≤ a.block ∧ a.block < w.heap.size ∧ o.ownBlock ≠ some a.block := by
      rcases List.mem_append.1 hx with hx | hx
      · exact h1.far x hx a ha
      · obtain rfl : x = m := by simpa using hx
        exact ⟨Nat.le_trans hD (hnew a ha), hmb a ha, fun e => by have := ho _ e; have := hnew a ha; omega⟩
    refine ⟨key.1, Nat.lt_of_lt_of_le key.2.1 hsz, fun e => ?_⟩
    have e' : g' = a.block := by simpa [Value.ownBlock] using e
    rcases hat with h | h
    · rw [e'] at h; exact key.2.2 h
    · omega
end Go.Proofs.YtfbhdkkmcfnghaaGreat
end

section
namespace Go.Proofs.YtfbhdkkmcfnghaaGreat
open Go.RowKit
set_option linter.unusedVariables false

/-- A list of texts. -/
def TxR (w : World) (A : Option Addr) (cap : Nat) (l : List (List UInt8)) : Prop := SlR w 1 (.slice A l.length cap) (l.map fun t => [.string (bs t)])
theorem TxR.keep {w w' : World} {A : Option Addr} {cap : Nat} {l : List (List UInt8)} (h : TxR w A cap l) (hb : Below w.heap.size w w') : TxR w' A cap l := SlR.keep h hb
theorem tx_at {w : World} {b off n cap k : Nat} {l : List (List UInt8)} (h : SlR w 1 (.slice (some ⟨b, off, none⟩) n cap) (l.map fun t => [.string (bs t)])) (hk : k < l.length) : w.cell? ⟨b, off + k, none⟩ = some (.string (bs l[k])) := by
  obtain ⟨hb, hc⟩ := h.cells (i := k) (x := [.string (bs l[k])]) (by rw [List.getElem?_map, List.getElem?_eq_getElem hk]; rfl)
  have := hc 0 _ rfl
  simpa using this
theorem info_txt : (Tryz.prog.info? 9).map (fun i => (i.zero, i.size, i.bytes)) = some (some (.string ⟨#[]⟩), 1, 16) := by kernel_rfl
theorem turn_only {w w' : World} {g : Nat} (h : Turn (· = g) w w') : Only g w w' := ⟨h.os, h.tape, h.output, h.size, fun i hi hne => h.block i hi (fun e => hne (by subst e; rfl))⟩
def an (t : List UInt8) : Value := .string (bs (Co.ans t).1)
end Go.Proofs.YtfbhdkkmcfnghaaGreat
end
