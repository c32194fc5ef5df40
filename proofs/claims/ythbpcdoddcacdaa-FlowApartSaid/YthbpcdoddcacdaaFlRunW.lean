/- Walk of flow's Run: its beginning. Conditions: the frames' memory; the books' memory; lists not longer than a thousand; texts whose sums are no longer than a length may be. -/
import Derived.Test.YthbpcdoddcacdaaFlRun
import Derived.Test.YthbpcdoddcacdaaFlSame
namespace Go.Proofs.Ythbpcdoddcacdaa
open Go.RowKit
set_option linter.unusedVariables false

def RunOut (w : World) (F0 : Nat → Prop) (bp : Option Addr) (hops : Int) (c : Nat) (out : List Fr × Wn × Option Bk.St) (e : Ending) (w' : World) : Prop :=
  ∃ A' cap' L' wc F', e = .returned (.tuple #[flv A' out.1.length cap' hops, .agg wc.toArray]) ∧ L'.map Fm.c = out.1 ∧ FlD w.heap.size w' A' cap' L' ∧ WR w.heap.size w' wc out.2.1 ∧ BkS w' bp F' out.2.2 (c + 1001) ∧ (∀ k, F' k → F0 k ∨ w.heap.size ≤ k) ∧ Turn F0 w w'
set_option maxHeartbeats 4000000 in
set_option maxRecDepth 100000 in
theorem flRun_any (w : World) (A : Option Addr) (cap n : Nat) (L : List Fm) (hops : Int) (bp : Option Addr) (F0 : Nat → Prop) (S : Option Bk.St) (c m : Nat) (sh : Bool)
    (h : FlR w A cap L) (hnL : L.length = n) (hn : n ≤ 1000) (hs : ∀ x ∈ L, x.c.small) (hbk : BkS w bp F0 S c) (hF0 : ∀ k, F0 k → k < w.heap.size) (hc : c + 1001 < 1000000) (hfit : ∀ x ∈ L, RunFits m x.c S) :
    Calls Try.prog 58 #[flv A n cap hops, .pointer bp, .bool sh] w (RunOut w F0 bp hops c (runL (L.map Fm.c) S sh)) := by
  have hb1 := Below.alloc' (Below.self w) (.cells #[.slice A n cap, .int .i64 hops] 24)
  have hb2 := Below.alloc' (Below.self (w.alloc (.cells #[.slice A n cap, .int .i64 hops] 24))) (.cells #[.slice none 0 0, .int .i64 0] 24)
  have hb3 := Below.alloc' (Below.self ((w.alloc (.cells #[.slice A n cap, .int .i64 hops] 24)).alloc (.cells #[.slice none 0 0, .int .i64 0] 24))) (.cells want0.toArray 98)
  have h1 := ((Held.made w [.slice A n cap, .int .i64 hops] 24).kept hb2).kept hb3
  have h2 := (Held.made (w.alloc (.cells #[.slice A n cap, .int .i64 hops] 24)) [.slice none 0 0, .int .i64 0] 24).kept hb3
  have h3 := Held.made ((w.alloc (.cells #[.slice A n cap, .int .i64 hops] 24)).alloc (.cells #[.slice none 0 0, .int .i64 0] 24)) want0 98
  have hb := Below.call (Below.call hb1 hb2) hb3
  obtain ⟨W0, hW0⟩ : ∃ W, ((w.alloc (.cells #[.slice A n cap, .int .i64 hops] 24)).alloc (.cells #[.slice none 0 0, .int .i64 0] 24)).alloc (.cells want0.toArray 98) = W := ⟨_, rfl⟩
  have hsz : W0.heap.size = w.heap.size + 1 + 1 + 1 := by rw [← hW0]; simp
  have HX := Stow.mk (show Held W0 w.heap.size [.slice A n cap, .int .i64 hops] by rw [← hW0]; exact h1)
  have HR6 := Stow.mk (show Held W0 (w.heap.size + 1) [.slice none 0 0, .int .i64 0] by rw [← hW0]; simpa using h2)
  have HR7 := Stow.mk (show Held W0 (w.heap.size + 1 + 1) want0 by rw [← hW0]; simpa using h3)
  have HB := Stow.mk (show Below w.heap.size w W0 by rw [← hW0]; exact hb)
  have HC := flCopied_any A cap L hops W0 (h.keep HB.out) (by omega) hs
  rw [hnL] at HC
  have HC := Stow.mk HC
  have HNL := Stow.mk hnL
  have HBK := Stow.mk (hbk.keep HB.out)
  have HF0 := Stow.mk hF0
  have HFI := Stow.mk hfit
  have HSM := Stow.mk hs
  have hgt : w.heap.size + 1 + 1 < W0.heap.size := by omega
  have HW0 := Stow.mk hW0
  clear h h1 h2 h3 hb hb1 hb2 hb3 hs hbk hF0 hfit hnL hW0 hsz
  rcases n with _ | k
  · have e1 : IntKind.i64.wrap (((0 : Nat) : Int) - 1) = -1 := by decide
    go_enter Try.func58, Try.ntmps58
    go_upto_region 1 with fail
    generalize hW : World.alloc (World.alloc (World.alloc w _) _) _ = W
    obtain rfl : W = W0 := hW.symm.trans HW0.out
    clear hW HW0
    have q0 := HX.out.cell (i := 0) rfl
    have q1 := HX.out.cell (i := 1) rfl
    go_step3
    go_wp2_with fail
    refine HC.out.mono ?_
    rintro e w1 ⟨A1, c1, L1, rfl, hc1, hW1, hb1⟩
    have ba := Below.alloc' (Below.self w1) (.cells #[.slice A1 0 c1, .int .i64 hops] 24)
    have hba := hb1.trans (ba.mono hb1.size)
    have HT8 := Stow.mk (Held.made w1 [.slice A1 0 c1, .int .i64 hops] 24)
    have HR6 := Stow.mk (HR6.out.kept hba)
    have HR7 := Stow.mk (HR7.out.kept hba)
    have HB := Stow.mk (HB.out.trans (hba.mono HB.out.size))
    have HBK := Stow.mk (HBK.out.keep hba)
    have HW := Stow.mk (hW1.keep ba)
    have hs1 := hb1.size
    have hs2 := ba.size
    have HC1 := Stow.mk hc1
    obtain ⟨W1, hW1'⟩ : ∃ W, w1.alloc (.cells #[.slice A1 0 c1, .int .i64 hops] 24) = W := ⟨_, rfl⟩
    clear hW1 hb1 hc1 q0 q1 HC ba hba HX
    rw [show w1.alloc (.cells [.slice A1 0 c1, .int .i64 hops].toArray 24) = W1 from hW1'] at HT8
    rw [hW1'] at HR6 HR7 HB HW HBK hs2
    have q0 := HT8.out.cell (i := 0) rfl
    have q1 := HT8.out.cell (i := 1) rfl
    go_upto_region 4 with fail
    clear hW1'
    have hOa : Only (w.heap.size + 1) W1 (W1.setCells (w.heap.size + 1) 0 [.slice A1 0 c1, .int .i64 hops]) := only_all _ _ _
    have H6T := Stow.mk (show W1.there (w.heap.size + 1) 0 ([.slice A1 0 c1, .int .i64 hops] : List Value).length from HR6.out.there)
    have HR6 := Stow.mk (HR6.out.over [.slice A1 0 c1, .int .i64 hops] rfl)
    have HR7 := Stow.mk (HR7.out.offO hOa (by omega))
    have HW := Stow.mk (HW.out.only hOa (by omega))
    have HBK := Stow.mk (HBK.out.turn (Turn.of_grown (F := fun j => j = w.heap.size + 1) hOa (.inl rfl)) fun j hj e => by have := HF0.out j hj; omega)
    have HB := Stow.mk (HB.out.trans (hOa.below (Nat.le_succ _) HB.out.size))
    obtain ⟨Wa, hWa⟩ : ∃ W, W1.setCells (w.heap.size + 1) 0 [.slice A1 0 c1, .int .i64 hops] = W := ⟨_, rfl⟩
    rw [hWa] at HR6 HR7 HW HBK HB
    have H7T := Stow.mk (show (W1.setCells (w.heap.size + 1) 0 [.slice A1 0 c1, .int .i64 hops]).there (w.heap.size + 1 + 1) 0 want0.length by rw [hWa]; exact HR7.out.there)
    have hOb : Only (w.heap.size + 1 + 1) Wa (Wa.setCells (w.heap.size + 1 + 1) 0 want0) := only_all _ _ _
    have HR7 := Stow.mk (HR7.out.over want0 rfl)
    have HR6 := Stow.mk (HR6.out.offO hOb (by omega))
    have HW := Stow.mk (HW.out.only hOb (by omega))
    have HBK := Stow.mk (HBK.out.turn (Turn.of_grown (F := fun j => j = w.heap.size + 1 + 1) hOb (.inl rfl)) fun j hj e => by have := HF0.out j hj; omega)
    have HB := Stow.mk (HB.out.trans (hOb.below (show w.heap.size ≤ w.heap.size + 1 + 1 by omega) HB.out.size))
    obtain ⟨Wb, hWb⟩ : ∃ W, Wa.setCells (w.heap.size + 1 + 1) 0 want0 = W := ⟨_, rfl⟩
    rw [hWb] at HR6 HR7 HW HBK HB
    have HWA := Stow.mk hWa
    have HWB := Stow.mk hWb
    clear hWa hWb hOa hOb
    go_wp2_with (first
      | (refine wpList_store_hx rfl 24 (.tmp 6) (.tmp 21) rfl rfl (w.heap.size + 1) 0 [.slice A1 0 c1, .int .i64 hops] rfl rfl H6T.out (by kernel_rfl) (by intro u hu; simp at hu; rcases hu with rfl | rfl <;> rfl) ?_)
      | (refine wpList_store_hx rfl 98 (.tmp 7) (.tmp 22) rfl rfl (w.heap.size + 1 + 1) 0 want0 rfl rfl H7T.out (by rw [wantc_len]; kernel_rfl) (wantc_one _ _ _ _ _ _ _ _ _ _ _) ?_))
    rw [HWA.out, HWB.out]
    show bodyPost _ _ _ Exit.ret _ _
    refine bodyPost_ret (flrun_results Wb (w.heap.size + 1) (w.heap.size + 1 + 1) _ _ _ HR6.out HR7.out rfl rfl rfl rfl) rfl ?_
    have hL0 : L = [] := List.eq_nil_of_length_eq_zero HNL.out
    have hrl : runL (L.map Fm.c) S sh = ([], .none, S) := by rw [hL0]; rfl
    rw [hrl]
    have hL1 : L1 = [] := by
      have h1 := congrArg List.length HC1.out
      rw [hL0] at h1
      simpa using h1
    refine ⟨A1, c1, L1, want0, F0, rfl, by rw [hL1]; rfl, (HW.out.low (show w.heap.size ≤ W.heap.size by omega)).dd, rfl, HBK.out.mono (by omega), fun j hj => .inl hj, ?_⟩
    exact (Turn.of_below HB.out).trans (Turn.refl F0 _) fun j hj => .inl hj
  · have e1 : IntKind.i64.wrap (((k + 1 : Nat) : Int) - 1) = (k : Int) := by rw [IntWalk.i64_in _ (by omega)]; omega
    have hk0 : (0 : Int) ≤ k := by omega
    have hk1 : (k : Int) < ((k + 1 : Nat) : Int) := by omega
    go_enter Try.func58, Try.ntmps58
    go_upto_region 1 with fail
    generalize hW : World.alloc (World.alloc (World.alloc w _) _) _ = W
    obtain rfl : W = W0 := hW.symm.trans HW0.out
    clear hW HW0
    have q0 := HX.out.cell (i := 0) rfl
    have q1 := HX.out.cell (i := 1) rfl
    go_step3
    go_wp2_with fail
    refine HC.out.mono ?_
    rintro e w1 ⟨A1, c1, L1, rfl, hc1, hW1, hb1⟩
    obtain ⟨Q, x, rfl, hQ⟩ := last_split (show L1.length = k + 1 by have := congrArg List.length hc1; simp at this; rw [this, HNL.out])
    obtain ⟨g, c1', hform, hge, hlt⟩ := World.ownsRow.form hW1.own (by simp)
    simp only [Value.slice.injEq, true_and] at hform
    obtain ⟨rfl, -⟩ := hform
    have hxm : ∃ y ∈ L, y.c = x.c := by
      have h1 : x.c ∈ L.map Fm.c := by rw [← hc1]; simp
      obtain ⟨y, hy, hxy⟩ := List.mem_map.1 h1
      exact ⟨y, hy, hxy⟩
    have HFX := Stow.mk (show RunFits m x.c S by obtain ⟨y, hy, hxy⟩ := hxm; rw [← hxy]; exact HFI.out y hy)
    have HSX := Stow.mk (show x.c.small by obtain ⟨y, hy, hxy⟩ := hxm; rw [← hxy]; exact HSM.out y hy)
    have ba := Below.alloc' (Below.self w1) (.cells #[.slice (some ⟨g, 0, none⟩) (k + 1) c1, .int .i64 hops] 24)
    have hba := hb1.trans (ba.mono hb1.size)
    have HT8 := Stow.mk (Held.made w1 [.slice (some ⟨g, 0, none⟩) (k + 1) c1, .int .i64 hops] 24)
    have HR6 := Stow.mk (HR6.out.kept hba)
    have HR7 := Stow.mk (HR7.out.kept hba)
    have HB := Stow.mk (HB.out.trans (hba.mono HB.out.size))
    have HBK := Stow.mk (HBK.out.keep hba)
    have HW := Stow.mk (hW1.keep ba)
    have hs1 := hb1.size
    have hs2 := ba.size
    have HC1 := Stow.mk hc1
    have HQ := Stow.mk hQ
    have HST := Stow.mk (fun (W' : World) (ht : Turn (fun k => k < W.heap.size ∨ k = g) w1 W') => show ∀ y ∈ Q ++ [x], FmR W' y from fun y hy => (hW1.each y hy).turn ht ((hW1.apart y hy).mono fun b hb hf => by
      rcases hf with hf | hf
      · have := hb.1; omega
      · exact hb.2 _ rfl hf))
    have HTB := Stow.mk (Turn.of_below (F := fun k => k < W.heap.size ∨ k = g) ba)
    have HNS := Stow.mk (show ∀ y ∈ Q ++ [x], FmN (fun b => w.heap.size ≤ b) y from fun y hy => (hW1.apart y hy).mono fun b hb => by have := hb.1; omega)
    have HFT := Stow.mk (FT.of HW.out.own)
    obtain ⟨W1, hW1'⟩ : ∃ W, w1.alloc (.cells #[.slice (some ⟨g, 0, none⟩) (k + 1) c1, .int .i64 hops] 24) = W := ⟨_, rfl⟩
    clear hW1 hb1 hc1 q0 q1 HC ba hba HX hxm hQ HFI HSM
    rw [show w1.alloc (.cells [.slice (some ⟨g, 0, none⟩) (k + 1) c1, .int .i64 hops].toArray 24) = W1 from hW1'] at HT8
    rw [hW1'] at HR6 HR7 HB HW HFT HBK HTB hs2
    have hl8 := HT8.out.lt
    have q0 := HT8.out.cell (i := 0) rfl
    have c2 := HFT.out.cell (j := 2) rfl
    have f2 := HFT.out.free (Q.length * 13 + 2)
    rw [HQ.out] at c2 f2
    go_upto_region 7 with fail
    have hO2 : Only g W1 (W1.setCell ⟨g, k * 13 + 2, none⟩ (.int .i64 (max x.c.at_ 0))) := Only.set _ _ _ _
    have HFT2 := HFT.out.set (y := { x with c := x.c.begun }) 2 (.int .i64 (max x.c.at_ 0)) rfl
    rw [HQ.out] at HFT2
    have HFT := Stow.mk HFT2
    have hgB : W.heap.size ≤ g := hge
    have hwB := HB.out.size
    have ht2 := HTB.out.trans (Turn.of_grown (F := fun k => k < W.heap.size ∨ k = g) hO2 (.inl (.inr rfl))) fun j hj => .inl hj
    have HT8 := Stow.mk (HT8.out.offO hO2 (by omega))
    have HR6 := Stow.mk (HR6.out.offO hO2 (by omega))
    have HR7 := Stow.mk (HR7.out.offO hO2 (by omega))
    have HB := Stow.mk (HB.out.trans (hO2.below (show w.heap.size ≤ g by omega) HB.out.size))
    have HBK := Stow.mk (HBK.out.turn (Turn.of_grown (F := fun k => k = g) hO2 (.inl rfl)) fun j hj e => by have := HF0.out j hj; omega)
    obtain ⟨W2, hW2⟩ : ∃ W, W1.setCell ⟨g, k * 13 + 2, none⟩ (.int .i64 (max x.c.at_ 0)) = W := ⟨_, rfl⟩
    have HT2 := Stow.mk ht2
    rw [hW2] at HFT HT8 HR6 HR7 HB HBK HT2
    rw [hW2]
    have hs3 := HT2.out.size
    have hl82 := HT8.out.lt
    clear hW2 hW1' HW HFT2 hO2 ht2 q0 c2 f2
    have ba := Below.alloc' (Below.self W2) (.cells want0.toArray 98)
    have HT11 := Stow.mk (Held.made W2 want0 98)
    have HT8 := Stow.mk (HT8.out.kept ba)
    have HR6 := Stow.mk (HR6.out.kept ba)
    have HR7 := Stow.mk (HR7.out.kept ba)
    have HB := Stow.mk (HB.out.trans (ba.mono HB.out.size))
    have HBK := Stow.mk (HBK.out.keep ba)
    have HFT := Stow.mk (HFT.out.keep ba)
    have HT2 := Stow.mk (HT2.out.trans (Turn.of_below (F := fun k => k < W.heap.size ∨ k = g) ba) fun k hk => .inl hk)
    have hs4 := ba.size
    obtain ⟨W3, hW3⟩ : ∃ W, W2.alloc (.cells want0.toArray 98) = W := ⟨_, rfl⟩
    rw [hW3] at HFT HT8 HR6 HR7 HB HBK HT2 HT11 hs4
    have HW3 := Stow.mk hW3
    clear hW3 ba
    have hl11 := HT11.out.lt
    have HDW := Stow.mk (show ∀ i, (i < w.heap.size ∨ i = g) → (i < W.heap.size ∨ i = g) ∨ w1.heap.size ≤ i from fun i hi => by
      rcases hi with hi | hi
      · exact .inl (.inl (by omega))
      · exact .inl (.inr hi))
    have hgw1 : g < w1.heap.size := hlt
    have HBXS := Stow.mk (fun (W' : World) (ht : Turn (fun k => k < w.heap.size ∨ k = g) W3 W') => show Held W' w1.heap.size [.slice (some ⟨g, 0, none⟩) (k + 1) c1, .int .i64 hops] ∧ Held W' W2.heap.size want0 ∧ Held W' (w.heap.size + 1) [.slice none 0 0, .int .i64 0] ∧ Held W' (w.heap.size + 1 + 1) want0 from
      ⟨held_turn HT8.out ht (by omega), held_turn HT11.out ht (by omega), held_turn HR6.out ht (by omega), held_turn HR7.out ht (by omega)⟩)
    have HI0 := Stow.mk (show RunI w W3 W3 W.heap.size g c1 Q x bp F0 sh c m (runO x.c S sh) { x with c := x.c.begun } F0 S x.c.begun.at_.toNat (x.c.ops.length - x.c.begun.at_.toNat) c from
      ⟨⟨rfl, rfl, rfl, rfl, rfl, rfl⟩, HFT.out, HBK.out, fun j hj => ⟨.inl hj, by have := HF0.out j hj; have := HB.out.size; omega⟩, HFX.out.at_ _, rfl, by show max x.c.at_ 0 = _; unfold Fr.begun; dsimp only; omega, rfl, by have := HSX.out.1; omega, Turn.refl _ _, Turn.trans (Turn.of_below HB.out) (Turn.refl _ _) fun j hj => .inl hj⟩)
    go_wp2_with fail
    generalize hW5 : World.alloc W2 _ = W5
    obtain rfl : W5 = W3 := hW5.symm.trans HW3.out
    clear hW5 HW3
    go_step3
    go_wp2_with fail
    (try go_step3)
    (try go_wp2_with fail)
    go_loopw [12] (fun u wr => ∃ y F S' a f cc, Stow (RunI w W5 wr W.heap.size g c1 Q x bp F0 sh c m (runO x.c S sh) y F S' a f cc)) (fun _ wr => x.c.ops.length - (intOf ((wr.cell? ⟨g, k * 13 + 2, none⟩).getD undef)).toNat)
    case atStart => exact ⟨_, _, _, _, _, _, HI0⟩
    case round =>
      obtain ⟨y, F, S', a, f, cc, HI⟩ := hrel
      have y1 := HI.out.ft.cell (j := 1) rfl
      have y2 := HI.out.ft.cell (j := 2) (v := .int .i64 (a : Int)) (by show some (Value.int .i64 y.c.at_) = _; rw [HI.out.at_])
      rw [HQ.out] at y1 y2
      have HM0 := Stow.mk y2
      have hal1000 : y.c.ops.length ≤ 1000 := by rw [HI.out.like.ops]; exact HSX.out.1
      have ha0 : (0 : Int) ≤ a := by omega
      by_cases hal : a < y.c.ops.length
      · have d1 : (a : Int) < y.c.ops.length := by omega
        have hFR := (HST.out wr (HT2.out.trans HI.out.turn HDW.out) x (by simp)).like HI.out.like
        obtain ⟨b, off, hoa, hblt, _⟩ := hFR.ops.open (by simp; omega)
        have hop := ox_at (by have := hFR.ops; rw [hoa] at this; exact this) hal
        obtain ⟨o, ho⟩ : ∃ o, y.c.ops[a] = o := ⟨_, rfl⟩
        rw [ho] at hop
        rw [hoa] at y1
        obtain ⟨_, p0, p1, p2, p3⟩ := hop
        have HO := Stow.mk ho
        have HFR := Stow.mk hFR
        clear hFR ho
        go_wp2_with fail
        go_quiet (fail)
        go_upto_region 9 with fail
        have HI := Stow.mk (HI.out.below (Below.drewN' (Below.self wr) nq))
        have HFR := Stow.mk (HFR.out.keep (Below.drewN' (Below.self wr) nq))
        generalize hWq : World.drewN _ _ = Wq
        rw [hWq] at HI HFR
        clear y1 y2 p0 p1 p2 p3 hWq
        have y1 := HI.out.ft.cell (j := 1) rfl
        have y2 := HI.out.ft.cell (j := 2) (v := .int .i64 (a : Int)) (by show some (Value.int .i64 y.c.at_) = _; rw [HI.out.at_])
        rw [HQ.out] at y1 y2
        rw [hoa] at y1
        obtain ⟨_, p0, p1, p2, p3⟩ := ox_at (by have := HFR.out.ops; rw [hoa] at this; exact this) hal
        rw [HO.out] at p0 p1 p2 p3
        have hgq := HI.out.ft.lt.2
        have hbq : b < Wq.heap.size := by
          have h1 := (ox_at (by have := HFR.out.ops; rw [hoa] at this; exact this) hal).lt
          exact h1
        have z1 : (g == Wq.heap.size) = false := by simp; omega
        have z2 : (b == Wq.heap.size) = false := by simp; omega
        have z3 : g ≠ Wq.heap.size := by omega
        have z4 : b ≠ Wq.heap.size := by omega
        have ba0 := Below.alloc' (Below.self Wq) (.cells #[.int .i64 0, .string ⟨#[]⟩, .string ⟨#[]⟩, .int .i64 0] 106)
        have a1 := (HI.out.ft.keep ba0).cell (j := 1) rfl
        have a2 := (HI.out.ft.keep ba0).cell (j := 2) (v := .int .i64 (a : Int)) (by show some (Value.int .i64 y.c.at_) = _; rw [HI.out.at_])
        rw [HQ.out] at a1 a2
        rw [hoa] at a1
        obtain ⟨_, b0, b1, b2, b3⟩ := ox_at (by have := (HFR.out.keep ba0).ops; rw [hoa] at this; exact this) hal
        rw [HO.out] at b0 b1 b2 b3
        clear ba0
        go_region
        have bd := Below.drew (Below.alloc' (Below.self Wq) (.cells #[.int .i64 o.k, .string (bs o.a), .string (bs o.b), .int .i64 o.n] 106))
        have HOB := Stow.mk (show Held (Wq.alloc (.cells #[.int .i64 o.k, .string (bs o.a), .string (bs o.b), .int .i64 o.n] 106)).drew Wq.heap.size [.int .i64 o.k, .string (bs o.a), .string (bs o.b), .int .i64 o.n] from Held.made Wq _ _)
        have HI := Stow.mk (HI.out.below bd)
        have HFR := Stow.mk (HFR.out.keep bd)
        have hs6 := bd.size
        generalize hW6 : World.drew _ = W6
        rw [hW6] at HOB HI HFR hs6
        clear y1 y2 p0 p1 p2 p3 z1 z2 z3 z4 a1 a2 b0 b1 b2 b3 hW6 bd hbq
        have y2 := HI.out.ft.cell (j := 2) (v := .int .i64 (a : Int)) (by show some (Value.int .i64 y.c.at_) = _; rw [HI.out.at_])
        have f2 := HI.out.ft.free (Q.length * 13 + 2)
        rw [HQ.out] at y2 f2
        have e2 : IntKind.i64.wrap ((a : Int) + 1) = (a : Int) + 1 := IntWalk.i64_in _ (by omega)
        have hO7 : Only g W6 (W6.setCell ⟨g, k * 13 + 2, none⟩ (.int .i64 ((a : Int) + 1))) := Only.set _ _ _ _
        have hF7 := HI.out.ft.set (y := y.on a) 2 (.int .i64 ((a : Int) + 1)) rfl
        rw [HQ.out] at hF7
        have HOB := Stow.mk (HOB.out.offO hO7 (by omega))
        have hl6 := HOB.out.lt
        go_upto_region 11 with fail
        obtain ⟨W7, hW7⟩ : ∃ W, W6.setCell ⟨g, k * 13 + 2, none⟩ (.int .i64 ((a : Int) + 1)) = W := ⟨_, rfl⟩
        rw [hW7] at hF7 hO7 HOB
        rw [hW7]
        clear hW7 y2 f2
        have hg5 := HFT.out.lt.2
        have hwg : w.heap.size ≤ g := by omega
        have hFg : ¬ F g := fun hf => by
          rcases (HI.out.low g hf).1 with h1 | h1
          · have := HF0.out g h1; omega
          · omega
        have HF7 := Stow.mk hF7
        have HO7 := Stow.mk hO7
        have HFR7 := Stow.mk ((HST.out W7 ((HT2.out.trans HI.out.turn HDW.out).trans (Turn.of_grown (F := fun k => k < W.heap.size ∨ k = g) hO7 (.inl (.inr rfl))) fun j hj => .inl hj) x (by simp)).like (HI.out.like.trans (show y.Like (y.on a) from ⟨rfl, rfl, rfl, rfl, rfl, rfl⟩)))
        have HB7 := Stow.mk (HI.out.bk.turn (Turn.of_grown (F := fun k => k = g) hO7 (.inl rfl)) fun j hj e => hFg (e ▸ hj))
        have hs7 := hO7.size
        have o0 := HOB.out.cell (i := 0) rfl
        have o1 := HOB.out.cell (i := 1) rfl
        have o2 := HOB.out.cell (i := 2) rfl
        have o3 := HOB.out.cell (i := 3) rfl
        clear hF7 hO7
        by_cases h6 : o.k = 6
        · have d6 : (o.k == 6) = true := by simpa using h6
          have HRN := Stow.mk (show runO x.c S sh = ((y.on a).c, S', some o) by
            have hfu := HI.out.fuel
            obtain ⟨f', hf'⟩ : ∃ f', f = f' + 1 := ⟨f - 1, by omega⟩
            rw [← HI.out.run, hf', runF_step HI.out.at_ hal HO.out, if_pos h6, HI.out.at_]
            rfl)
          have HCL := flCall_any W7 W.heap.size g c1 Q (y.on a) o HF7.out HFR7.out (by show y.c.hs.length ≤ 1000; rw [HI.out.like.hs]; exact HSX.out.2)
          rw [HQ.out] at HCL
          have HCL := Stow.mk HCL
          obtain ⟨t8, t11, r6, r7⟩ := HBXS.out W7 (HI.out.turn.trans (Turn.of_grown (F := fun k => k < w.heap.size ∨ k = g) HO7.out (.inl (.inr rfl))) fun j hj => .inl hj)
          obtain ⟨E, hE⟩ : ∃ E : Nat → Prop, E = fun j => j = w1.heap.size ∨ j = W2.heap.size ∨ j = w.heap.size + 1 ∨ j = w.heap.size + 1 + 1 ∨ j = g := ⟨_, rfl⟩
          have HED := Stow.mk hE
          have HE7 := Stow.mk (Turn.of_grown (F := E) HO7.out (.inl (by rw [hE]; dsimp only; omega)))
          have hs67 := HI.out.turn.size
          have HTA := Stow.mk (And.intro t8 (And.intro t11 (And.intro r6 r7)))
          clear hE t8 t11 r6 r7 h6
          go_wp2_with fail
          refine HCL.out.mono ?_
          rintro e w8 ⟨A8, c8, rfl, hr8, hb8⟩
          obtain ⟨t8, t11, r6, r7⟩ := HTA.out
          have HT8 := Stow.mk (t8.kept hb8)
          have HT11 := Stow.mk (t11.kept hb8)
          have HR6 := Stow.mk (r6.kept hb8)
          have HR7 := Stow.mk (r7.kept hb8)
          have HF8 := Stow.mk (HF7.out.keep hb8)
          have HE := Stow.mk (HE7.out.trans (Turn.of_below (F := E) hb8) fun j hj => .inl hj)
          have hb8s := hb8.size
          have hO9 : Only W2.heap.size w8 (w8.setCells W2.heap.size 0 (wantc 1 (y.on a).c.m o.a o.b A8 (hdStrip (y.on a).c.hs).length c8 (y.on a).c.body 0 [] fmz)) := only_all _ _ _
          have HTH := Stow.mk (show w8.there W2.heap.size 0 (wantc 1 (y.on a).c.m o.a o.b A8 (hdStrip (y.on a).c.hs).length c8 (y.on a).c.body 0 [] fmz).length from HT11.out.there)
          have HT11 := Stow.mk (HT11.out.over (wantc 1 (y.on a).c.m o.a o.b A8 (hdStrip (y.on a).c.hs).length c8 (y.on a).c.body 0 [] fmz) rfl)
          have HT8 := Stow.mk (HT8.out.offO hO9 (by omega))
          have HR6 := Stow.mk (HR6.out.offO hO9 (by omega))
          have HR7 := Stow.mk (HR7.out.offO hO9 (by omega))
          have HF9 := Stow.mk (HF8.out.only hO9 (by omega))
          have HE := Stow.mk (HE.out.trans (Turn.of_grown (F := E) hO9 (.inl (by rw [HED.out]; dsimp only; omega))) fun j hj => .inl hj)
          have HWR0 := Stow.mk (own_undr hr8 hO9 (show W2.heap.size < W7.heap.size by omega))
          have hs10 := hO9.size
          obtain ⟨W9, hW9⟩ : ∃ W, w8.setCells W2.heap.size 0 (wantc 1 (y.on a).c.m o.a o.b A8 (hdStrip (y.on a).c.hs).length c8 (y.on a).c.body 0 [] fmz) = W := ⟨_, rfl⟩
          rw [hW9] at HT11 HT8 HR6 HR7 HF9 HE HWR0 hs10
          clear hO9 hr8 hb8 t8 t11 r6 r7 o0 o1 o2 o3
          have t0 := HT11.out.cell (i := 0) rfl
          go_upto_region 14 with (refine wpList_store_hx rfl 98 (.tmp 11) (.tmp 68) rfl rfl W2.heap.size 0 (wantc 1 (y.on a).c.m o.a o.b A8 (hdStrip (y.on a).c.hs).length c8 (y.on a).c.body 0 [] fmz) rfl rfl HTH.out (by rw [wantc_len]; kernel_rfl) (wantc_one _ _ _ _ _ _ _ _ _ _ _) ?_)
          rw [hW9]
          clear hW9 HTH
          go_upto_region 17 with fail
          clear t0
          have HWR := Stow.mk (show WR W7.heap.size W9 (wantc 1 (y.on a).c.m o.a o.b A8 (hdStrip (y.on a).c.hs).length c8 (y.on a).c.body 0 [] fmz) (.call (y.on a).c.m o.a o.b (hdStrip (y.on a).c.hs) (y.on a).c.body) from ⟨A8, c8, rfl, ORow.slr HWR0.out, fun ad e => by subst e; exact (World.ownsRow.lt HWR0.out ad.block rfl).1⟩)
          refine wp_region_held_drew (S := fun W => W.rangeAt w1.heap.size 0 [.slice (some ⟨g, 0, none⟩) (k + 1) c1, .int .i64 hops] ∧ W.rangeAt W2.heap.size 0 (wantc 1 (y.on a).c.m o.a o.b A8 (hdStrip (y.on a).c.hs).length c8 (y.on a).c.body 0 [] fmz)) (by kernel_rfl) ⟨HT8.out.range, HT11.out.range⟩ (fun hHeld => ?_)
          have HE := Stow.mk (HE.out.trans (Turn.of_below (F := E) (Below.drew (Below.self W9))) fun j hj => .inl hj)
          have HT8 := Stow.mk HT8.out.drew
          have HT11 := Stow.mk HT11.out.drew
          have HR6 := Stow.mk HR6.out.drew
          have HR7 := Stow.mk HR7.out.drew
          have HF9 := Stow.mk HF9.out.drew
          have HWR := Stow.mk (HWR.out.keep (Below.drew (Below.self W9)))
          refine wpAnyH_take (i := 0) (v := .agg [.slice (some ⟨g, 0, none⟩) (k + 1) c1, .int .i64 hops].toArray) rfl (by kernel_rfl) (by kernel_rfl) (by kernel_rfl) (fun _ _ _ h => h) (yieldsIf_load_mid ?ywaq 24 (.tmp 8) ?yoaq w1.heap.size 0 ?yxaq [.slice (some ⟨g, 0, none⟩) (k + 1) c1, .int .i64 hops] _ ?ysaq Try.underlying24 rfl ?yiaq) (by assumption) ?restaq
          case ywaq => rfl
          case yoaq => rfl
          case yxaq => simp [Act.eval]
          case ysaq => exact fun W hW => hW.1
          case yiaq => kernel_rfl
          try simp only [List.getElem_toArray, List.getElem_cons_zero, Act.put, List.setIfInBounds_toArray, List.set_cons_zero, List.set_cons_succ]
          refine wpAnyH_take (i := 1) (v := .agg (wantc 1 (y.on a).c.m o.a o.b A8 (hdStrip (y.on a).c.hs).length c8 (y.on a).c.body 0 [] fmz).toArray) rfl (by kernel_rfl) (by kernel_rfl) (by kernel_rfl) (fun _ _ _ h => h) (yieldsIf_load_mid ?ywbq 98 (.tmp 11) ?yobq W2.heap.size 0 ?yxbq (wantc 1 (y.on a).c.m o.a o.b A8 (hdStrip (y.on a).c.hs).length c8 (y.on a).c.body 0 [] fmz) _ ?ysbq Try.underlying98 rfl ?yibq) (by assumption) ?restbq
          case ywbq => rfl
          case yobq => rfl
          case yxbq => simp [Act.eval]
          case ysbq => exact fun W hW => hW.2
          case yibq => rw [wantc_len]; kernel_rfl
          try simp only [List.getElem_toArray, List.getElem_cons_zero, List.getElem_cons_succ, Act.put, List.setIfInBounds_toArray, List.set_cons_zero, List.set_cons_succ]
          refine wpAnyH_ready (rs := [2]) (by kernel_rfl) (by simp) ?_
          refine AllReadyH.cons rfl (fun K hK => ?_) AllReadyH.nil
          rw [if_pos (by rfl)]
          refine wp_store_mid 24 (.tmp 6) (.tmp 96) ?soaq (w.heap.size + 1) 0 [.slice (some ⟨g, 0, none⟩) (k + 1) c1, .int .i64 hops].toArray ?sxaq ?syaq ?staq ?siaq (all_oneCell_toArray (by intro u hu; simp at hu; rcases hu with rfl | rfl <;> rfl)) ?shaq
          case soaq => rfl
          case sxaq => rfl
          case syaq => rfl
          case staq => exact HR6.out.there
          case siaq => kernel_rfl
          rw [List.toList_toArray]
          have hOa := only_all (g := w.heap.size + 1) [.slice (some ⟨g, 0, none⟩) (k + 1) c1, .int .i64 hops] (World.drew W9) 0
          have HR6 := Stow.mk (HR6.out.over [.slice (some ⟨g, 0, none⟩) (k + 1) c1, .int .i64 hops] rfl)
          have HT8 := Stow.mk (HT8.out.offO hOa (by omega))
          have HT11 := Stow.mk (HT11.out.offO hOa (by omega))
          have HR7 := Stow.mk (HR7.out.offO hOa (by omega))
          have HF9 := Stow.mk (HF9.out.only hOa (by omega))
          have HWR := Stow.mk (HWR.out.only hOa (by omega))
          have HE := Stow.mk (HE.out.trans (Turn.of_grown (F := E) hOa (.inl (by rw [HED.out]; dsimp only; omega))) fun j hj => .inl hj)
          obtain ⟨Wa, hWa⟩ : ∃ W, World.setCells (World.drew W9) (w.heap.size + 1) 0 [.slice (some ⟨g, 0, none⟩) (k + 1) c1, .int .i64 hops] = W := ⟨_, rfl⟩
          rw [hWa] at HR6 HT8 HT11 HR7 HF9 HWR HE
          rw [hWa]
          refine hK.out _ _ ⟨HT8.out.range, HT11.out.range⟩ (fun hHeld => ?_)
          clear hK K hOa hWa
          try simp only [List.getElem_toArray, List.getElem_cons_zero, List.getElem_cons_succ, Act.put]
          refine wpAnyH_ready (rs := [3]) (by kernel_rfl) (by simp) ?_
          refine AllReadyH.cons rfl (fun K hK => ?_) AllReadyH.nil
          rw [if_pos (by rfl)]
          refine wp_store_mid 98 (.tmp 7) (.tmp 97) ?sobq (w.heap.size + 1 + 1) 0 (wantc 1 (y.on a).c.m o.a o.b A8 (hdStrip (y.on a).c.hs).length c8 (y.on a).c.body 0 [] fmz).toArray ?sxbq ?sybq ?stbq ?sibq (all_oneCell_toArray (wantc_one _ _ _ _ _ _ _ _ _ _ _)) ?shbq
          case sobq => rfl
          case sxbq => rfl
          case sybq => rfl
          case stbq => exact HR7.out.there
          case sibq => rw [List.size_toArray, wantc_len]; kernel_rfl
          rw [List.toList_toArray]
          have hOa := only_all (g := w.heap.size + 1 + 1) (wantc 1 (y.on a).c.m o.a o.b A8 (hdStrip (y.on a).c.hs).length c8 (y.on a).c.body 0 [] fmz) Wa 0
          have HR7 := Stow.mk (HR7.out.over (wantc 1 (y.on a).c.m o.a o.b A8 (hdStrip (y.on a).c.hs).length c8 (y.on a).c.body 0 [] fmz) rfl)
          have HT8 := Stow.mk (HT8.out.offO hOa (by omega))
          have HT11 := Stow.mk (HT11.out.offO hOa (by omega))
          have HR6 := Stow.mk (HR6.out.offO hOa (by omega))
          have HF9 := Stow.mk (HF9.out.only hOa (by omega))
          have HWR := Stow.mk (HWR.out.only hOa (by omega))
          have HE := Stow.mk (HE.out.trans (Turn.of_grown (F := E) hOa (.inl (by rw [HED.out]; dsimp only; omega))) fun j hj => .inl hj)
          obtain ⟨Wb, hWb⟩ : ∃ W, World.setCells Wa (w.heap.size + 1 + 1) 0 (wantc 1 (y.on a).c.m o.a o.b A8 (hdStrip (y.on a).c.hs).length c8 (y.on a).c.body 0 [] fmz) = W := ⟨_, rfl⟩
          rw [hWb] at HR6 HT8 HT11 HR7 HF9 HWR HE
          rw [hWb]
          refine hK.out _ _ ⟨HT8.out.range, HT11.out.range⟩ (fun hHeld => ?_)
          clear hK K hOa hWb
          refine wpAnyH_done (by kernel_rfl) ?_ _
          try simp only [List.getElem_toArray, List.getElem_cons_zero, List.getElem_cons_succ, Act.put]
          clear hHeld
          go_wp2_with fail
          show bodyPost _ _ _ Exit.ret _ _
          refine bodyPost_ret (flrun_results Wb (w.heap.size + 1) (w.heap.size + 1 + 1) _ _ _ HR6.out HR7.out rfl rfl rfl rfl) rfl ?_
          have hdr := RunI.drop HI.out HE.out (fun j hj => by rw [HED.out] at hj; omega) HF0.out (by omega)
          have hex : ∀ j, E j → (j < W.heap.size ∨ j = g) ∨ w1.heap.size ≤ j := fun j hj => by rw [HED.out] at hj; omega
          have hst := HST.out Wb ((HT2.out.trans HI.out.turn HDW.out).trans HE.out hex)
          have hrl : runL (L.map Fm.c) S sh = (Q.map Fm.c ++ [(y.on a).c], .call (y.on a).c.m o.a o.b (hdStrip (y.on a).c.hs) (y.on a).c.body, S') := by
            rw [← HC1.out, List.map_append, List.map_singleton, runL_end, HRN.out]
            rfl
          have hlk := HI.out.like.trans (show y.Like (y.on a) from ⟨rfl, rfl, rfl, rfl, rfl, rfl⟩)
          rw [hrl]
          refine ⟨some ⟨g, 0, none⟩, c1, Q ++ [y.on a], _, F, ?_, by rw [List.map_append, List.map_singleton], ⟨⟨FlO.read HF9.out.flo, fun z hz => ?_⟩, fun ad e => by cases e; exact hwg, fun z hz => ?_⟩, HWR.out.mono (by omega), hdr.1, hdr.2.1, hdr.2.2⟩
          · rw [List.length_append, List.length_map, HQ.out, List.length_singleton]
          · rcases List.mem_append.1 hz with hz | hz
            · exact hst z (List.mem_append_left _ hz)
            · obtain rfl : z = y.on a := by simpa using hz
              exact (hst x (by simp)).like hlk
          · rcases List.mem_append.1 hz with hz | hz
            · exact HNS.out z (List.mem_append_left _ hz)
            · obtain rfl : z = y.on a := by simpa using hz
              exact (HNS.out x (by simp)).like hlk
        · have d6 : (o.k == 6) = false := by simpa using h6
          have hcn := HI.out.cnt
          have HDO := flDo_any W7 W.heap.size g c1 Q (y.on a) o bp F S' cc sh HF7.out HFR7.out HB7.out hFg (fun j hj => Nat.lt_of_lt_of_le (HI.out.low j hj).2 hs7) (by omega) ((HI.out.fits.at_ ((a : Int) + 1)).fits (o := o) (by rw [← HO.out]; exact List.getElem_mem hal) sh)
          rw [HQ.out] at HDO
          have HDO := Stow.mk HDO
          go_wp2_with fail
          refine HDO.out.mono ?_
          rintro e w8 ⟨rfl, F8, z, hz, hlk, hft, hbk, hF8, -, ht8⟩
          have HN := Stow.mk (RunI.did HI.out HF0.out hwg (by omega) HO7.out hal HO.out h6 hz hlk hft hbk hF8 ht8)
          have m1 := HN.out.ft.cell (j := 2) (v := .int .i64 ((a + 1 : Nat) : Int)) (by show some (Value.int .i64 z.c.at_) = _; rw [HN.out.at_])
          rw [HQ.out] at m1
          have HM1 := Stow.mk m1
          clear hz hlk hft hbk hF8 ht8 o0 o1 o2 o3 m1
          go_wp2_with fail
          refine ⟨⟨z, _, _, a + 1, f - 1, cc + 1, HN⟩, ?_⟩
          rw [HM1.out, HM0.out]
          have hxy := congrArg List.length HI.out.like.ops
          simp [intOf]
          omega
      · have d1 : ¬ (a : Int) < y.c.ops.length := by omega
        go_wp2_with fail
        go_quiet (fail)
        have HI := Stow.mk (HI.out.below (Below.drewN' (Below.self wr) nq))
        clear y1 y2
        generalize hWq : World.drewN _ _ = Wq
        rw [hWq] at HI
        clear hWq
        obtain ⟨t8, t11, r6, r7⟩ := HBXS.out Wq HI.out.turn
        have HT8 := Stow.mk t8
        have HT11 := Stow.mk t11
        have HR6 := Stow.mk r6
        have HR7 := Stow.mk r7
        have HRN := Stow.mk (show runO x.c S sh = (y.c, S', none) by rw [← HI.out.run, runF_stop HI.out.at_ hal])
        clear t8 t11 r6 r7 HM0
        have t0 := HT11.out.cell (i := 0) rfl
        go_upto_region 15 with fail
        clear t0
        have y3 := HI.out.ft.cell (j := 3) rfl
        have y4 := HI.out.ft.cell (j := 4) rfl
        have yr := HI.out.ft.range
        rw [HQ.out] at y3 y4 yr
        have hFRy := (HST.out Wq (HT2.out.trans HI.out.turn HDW.out) x (by simp)).like HI.out.like
        have HOW := Stow.mk (flOwn_any y Wq.drew (hFRy.keep (Below.drew (Below.self Wq))) (by rw [Fr.small, HI.out.like.ops, HI.out.like.hs]; exact HSX.out))
        clear hFRy
        refine wp_region_held_drew (S := fun W => (W.cell? ⟨g, k * 13 + 3, none⟩ = some (.int .i64 y.c.st) ∧ W.cell? ⟨g, k * 13 + 4, none⟩ = some (.string (bs y.c.body))) ∧ W.rangeAt g (k * 13) y.cells) (by kernel_rfl) ⟨⟨y3, y4⟩, yr⟩ (fun hHeld => ?_)
        refine wpAnyH_take (i := 0) (v := ?v0) rfl (by kernel_rfl) (by kernel_rfl) (by kernel_rfl) (fun _ _ _ h => h) (Or.inl ⟨by rfl, ?hy0⟩) (by assumption) ?rest0
        case hy0 =>
          intro W hSW
          try dsimp only at hSW
          obtain ⟨⟨hs0, hs1⟩, hs2⟩ := hSW
          go_simp
          try with_reducible rfl
        try simp only [List.getElem_toArray, List.getElem_cons_zero, Act.put, List.setIfInBounds_toArray, List.set_cons_zero, List.set_cons_succ]
        refine wpAnyH_take (i := 1) (v := ?v1) rfl (by kernel_rfl) (by kernel_rfl) (by kernel_rfl) (fun _ _ _ h => h) (Or.inl ⟨by rfl, ?hy1⟩) (by assumption) ?rest1
        case hy1 =>
          intro W hSW
          try dsimp only at hSW
          obtain ⟨⟨hs0, hs1⟩, hs2⟩ := hSW
          go_simp
          try with_reducible rfl
        try simp only [List.getElem_toArray, List.getElem_cons_zero, List.getElem_cons_succ, Act.put, List.setIfInBounds_toArray, List.set_cons_zero, List.set_cons_succ]
        refine wpAnyH_take (i := 2) (v := ?v2) rfl (by kernel_rfl) (by kernel_rfl) (by kernel_rfl) (fun _ _ _ h => h) (Or.inl ⟨by rfl, ?hy2⟩) (by assumption) ?rest2
        case hy2 =>
          intro W hSW
          try dsimp only at hSW
          obtain ⟨⟨hs0, hs1⟩, hs2⟩ := hSW
          go_simp
          try with_reducible rfl
        try simp only [List.getElem_toArray, List.getElem_cons_zero, List.getElem_cons_succ, Act.put, List.setIfInBounds_toArray, List.set_cons_zero, List.set_cons_succ]
        refine wpAnyH_take (i := 3) (v := ?v3) rfl (by kernel_rfl) (by kernel_rfl) (by kernel_rfl) (fun _ _ _ h => h) (Or.inl ⟨by rfl, ?hy3⟩) (by assumption) ?rest3
        case hy3 =>
          intro W hSW
          try dsimp only at hSW
          obtain ⟨⟨hs0, hs1⟩, hs2⟩ := hSW
          go_simp
          try with_reducible rfl
        try simp only [List.getElem_toArray, List.getElem_cons_zero, List.getElem_cons_succ, Act.put, List.setIfInBounds_toArray, List.set_cons_zero, List.set_cons_succ]
        refine wpAnyH_take (i := 4) (v := ?v4) rfl (by kernel_rfl) (by kernel_rfl) (by kernel_rfl) (fun _ _ _ h => h) (Or.inl ⟨by rfl, ?hy4⟩) (by assumption) ?rest4
        case hy4 =>
          intro W hSW
          try dsimp only at hSW
          obtain ⟨⟨hs0, hs1⟩, hs2⟩ := hSW
          go_simp
          try with_reducible rfl
        try simp only [List.getElem_toArray, List.getElem_cons_zero, List.getElem_cons_succ, Act.put, List.setIfInBounds_toArray, List.set_cons_zero, List.set_cons_succ]
        refine wpAnyH_take (i := 5) (v := ?v5) rfl (by kernel_rfl) (by kernel_rfl) (by kernel_rfl) (fun _ _ _ h => h) (Or.inl ⟨by rfl, ?hy5⟩) (by assumption) ?rest5
        case hy5 =>
          intro W hSW
          try dsimp only at hSW
          obtain ⟨⟨hs0, hs1⟩, hs2⟩ := hSW
          go_simp
          try with_reducible rfl
        try simp only [List.getElem_toArray, List.getElem_cons_zero, List.getElem_cons_succ, Act.put, List.setIfInBounds_toArray, List.set_cons_zero, List.set_cons_succ]
        refine wpAnyH_take (i := 6) (v := ?v6) rfl (by kernel_rfl) (by kernel_rfl) (by kernel_rfl) (fun _ _ _ h => h) (Or.inl ⟨by rfl, ?hy6⟩) (by assumption) ?rest6
        case hy6 =>
          intro W hSW
          try dsimp only at hSW
          obtain ⟨⟨hs0, hs1⟩, hs2⟩ := hSW
          go_simp
          try with_reducible rfl
        try simp only [List.getElem_toArray, List.getElem_cons_zero, List.getElem_cons_succ, Act.put, List.setIfInBounds_toArray, List.set_cons_zero, List.set_cons_succ]
        refine wpAnyH_take (i := 7) (v := ?v7) rfl (by kernel_rfl) (by kernel_rfl) (by kernel_rfl) (fun _ _ _ h => h) (Or.inl ⟨by rfl, ?hy7⟩) (by assumption) ?rest7
        case hy7 =>
          intro W hSW
          try dsimp only at hSW
          obtain ⟨⟨hs0, hs1⟩, hs2⟩ := hSW
          go_simp
          try with_reducible rfl
        try simp only [List.getElem_toArray, List.getElem_cons_zero, List.getElem_cons_succ, Act.put, List.setIfInBounds_toArray, List.set_cons_zero, List.set_cons_succ]
        refine wpAnyH_take (i := 8) (v := ?v8) rfl (by kernel_rfl) (by kernel_rfl) (by kernel_rfl) (fun _ _ _ h => h) (Or.inl ⟨by rfl, ?hy8⟩) (by assumption) ?rest8
        case hy8 =>
          intro W hSW
          try dsimp only at hSW
          obtain ⟨⟨hs0, hs1⟩, hs2⟩ := hSW
          go_simp
          try with_reducible rfl
        try simp only [List.getElem_toArray, List.getElem_cons_zero, List.getElem_cons_succ, Act.put, List.setIfInBounds_toArray, List.set_cons_zero, List.set_cons_succ]
        refine wpAnyH_take (i := 9) (v := ?v9) rfl (by kernel_rfl) (by kernel_rfl) (by kernel_rfl) (fun _ _ _ h => h) (Or.inl ⟨by rfl, ?hy9⟩) (by assumption) ?rest9
        case hy9 =>
          intro W hSW
          try dsimp only at hSW
          obtain ⟨⟨hs0, hs1⟩, hs2⟩ := hSW
          go_simp
          try with_reducible rfl
        try simp only [List.getElem_toArray, List.getElem_cons_zero, List.getElem_cons_succ, Act.put, List.setIfInBounds_toArray, List.set_cons_zero, List.set_cons_succ]
        refine wpAnyH_take (i := 10) (v := ?v10) rfl (by kernel_rfl) (by kernel_rfl) (by kernel_rfl) (fun _ _ _ h => h) (Or.inl ⟨by rfl, ?hy10⟩) (by assumption) ?rest10
        case hy10 =>
          intro W hSW
          try dsimp only at hSW
          obtain ⟨⟨hs0, hs1⟩, hs2⟩ := hSW
          go_simp
          try with_reducible rfl
        try simp only [List.getElem_toArray, List.getElem_cons_zero, List.getElem_cons_succ, Act.put, List.setIfInBounds_toArray, List.set_cons_zero, List.set_cons_succ]
        refine wpAnyH_take (i := 11) (v := .agg (y.cells).toArray) rfl (by kernel_rfl) (by kernel_rfl) (by kernel_rfl) (fun _ _ _ h => h) (yieldsIf_load_mid ?yw11 30 (.tmp 87) ?yo11 g (k * 13) ?yx11 (y.cells) _ ?ys11 Try.underlying30 rfl ?yi11) (by assumption) ?rest11
        case yw11 => rfl
        case yo11 => rfl
        case yx11 => simp [Act.eval]
        case ys11 => exact fun W hW => hW.2
        case yi11 => first | kernel_rfl | (simp only [Fm.cells_len]; kernel_rfl)
        try simp only [List.getElem_toArray, List.getElem_cons_zero, List.getElem_cons_succ, Act.put, List.setIfInBounds_toArray, List.set_cons_zero, List.set_cons_succ]
        refine wpAnyH_ready (rs := [12]) (by kernel_rfl) (by simp) ?_
        refine AllReadyH.cons rfl (fun K hK => ?_) AllReadyH.nil
        rw [if_pos (by rfl)]
        go_simp
        refine HOW.out.mono ?_
        rintro e w4 ⟨x', rfl, hx', hR', hN', hb4⟩
        have hb4' : Below Wq.heap.size Wq w4 := (Below.drew (Below.self Wq)).trans hb4
        obtain ⟨E, hE⟩ : ∃ E : Nat → Prop, E = fun j => j = w1.heap.size ∨ j = W2.heap.size ∨ j = w.heap.size + 1 ∨ j = w.heap.size + 1 + 1 := ⟨_, rfl⟩
        have HED := Stow.mk hE
        have HE := Stow.mk (Turn.of_below (F := E) hb4')
        have HT8 := Stow.mk (HT8.out.kept hb4')
        have HT11 := Stow.mk (HT11.out.kept hb4')
        have HR6 := Stow.mk (HR6.out.kept hb4')
        have HR7 := Stow.mk (HR7.out.kept hb4')
        have HF4 := Stow.mk (HI.out.ft.keep hb4')
        have HXR := Stow.mk hR'
        have HXN := Stow.mk hN'
        have HXC := Stow.mk hx'
        have hs9 := HI.out.turn.size
        have hb4s := hb4'.size
        clear y3 y4 yr hE
        have y3 := HF4.out.cell (j := 3) rfl
        have y4 := HF4.out.cell (j := 4) rfl
        have yr := HF4.out.range
        rw [HQ.out] at y3 y4 yr
        dsimp only
        refine hK.out _ _ ⟨⟨y3, y4⟩, yr⟩ (fun hHeld => ?_)
        clear hK K hR' hN' hx' hb4 hb4' y3 y4 yr
        unfold Fm.val Fm.cells
        try simp only [List.getElem_toArray, List.getElem_cons_zero, List.getElem_cons_succ, Act.put, List.setIfInBounds_toArray, List.set_cons_zero, List.set_cons_succ]
        refine wpAnyH_take (i := 13) (v := ?v13) rfl (by kernel_rfl) (by kernel_rfl) (by kernel_rfl) (fun _ _ _ h => h) (Or.inl ⟨by rfl, ?hy13⟩) (by assumption) ?rest13
        case hy13 =>
          intro W hSW
          try dsimp only at hSW
          obtain ⟨⟨hs0, hs1⟩, hs2⟩ := hSW
          go_simp
          try with_reducible rfl
        try simp only [List.getElem_toArray, List.getElem_cons_zero, List.getElem_cons_succ, Act.put, List.setIfInBounds_toArray, List.set_cons_zero, List.set_cons_succ]
        refine wpAnyH_ready (rs := [14]) (by kernel_rfl) (by simp) ?_
        refine AllReadyH.cons rfl (fun K hK => ?_) AllReadyH.nil
        rw [if_pos (by rfl)]
        refine wp_store_mid 98 (.tmp 11) (.tmp 90) ?zso W2.heap.size 0 (wantc 2 [] [] [] none 0 0 [] y.c.st y.c.body x').toArray ?zsx ?zsy ?zst ?zsi (all_oneCell_toArray (wantc_one _ _ _ _ _ _ _ _ _ _ _)) ?zsh
        case zso => rfl
        case zsx => rfl
        case zsy => rfl
        case zst => exact HT11.out.there
        case zsi => rw [List.size_toArray, wantc_len]; kernel_rfl
        rw [List.toList_toArray]
        have hO9 : Only W2.heap.size w4 (w4.setCells W2.heap.size 0 (wantc 2 [] [] [] none 0 0 [] y.c.st y.c.body x')) := only_all _ _ _
        have HT11 := Stow.mk (HT11.out.over (wantc 2 [] [] [] none 0 0 [] y.c.st y.c.body x') rfl)
        have HT8 := Stow.mk (HT8.out.offO hO9 (by omega))
        have HR6 := Stow.mk (HR6.out.offO hO9 (by omega))
        have HR7 := Stow.mk (HR7.out.offO hO9 (by omega))
        have HF9 := Stow.mk (HF4.out.only hO9 (by omega))
        have HXR := Stow.mk (HXR.out.only hO9 (HXN.out.mono fun b hb => by have := hb.1; simp at this; omega))
        have HE := Stow.mk (HE.out.trans (Turn.of_grown (F := E) hO9 (.inl (by rw [HED.out]; exact .inr (.inl rfl)))) fun j hj => .inl hj)
        have hs10 := hO9.size
        obtain ⟨W9, hW9⟩ : ∃ W, w4.setCells W2.heap.size 0 (wantc 2 [] [] [] none 0 0 [] y.c.st y.c.body x') = W := ⟨_, rfl⟩
        rw [hW9] at HT11 HT8 HR6 HR7 HF9 HXR HE hs10
        rw [hW9]
        have y3 := HF9.out.cell (j := 3) rfl
        have y4 := HF9.out.cell (j := 4) rfl
        have yr := HF9.out.range
        rw [HQ.out] at y3 y4 yr
        refine hK.out _ _ ⟨⟨y3, y4⟩, yr⟩ (fun hHeld => ?_)
        clear hK K hO9 hW9 y3 y4 yr
        refine wpAnyH_done (by kernel_rfl) ?_ _
        try simp only [List.getElem_toArray, List.getElem_cons_zero, List.getElem_cons_succ, Act.put]
        clear hHeld
        obtain ⟨hcapL, hcapM⟩ : k + 1 ≤ c1 ∧ c1 ≤ maxLen := by
          obtain ⟨A', cap', hv, h1, h2, _⟩ := (FlO.read HFT.out.flo)
          simp only [Value.slice.injEq] at hv
          obtain ⟨_, _, rfl⟩ := hv
          simp [HQ.out] at h1
          exact ⟨h1, h2⟩
        unfold maxLen at hcapM
        have hkc : (k : Int) ≤ c1 := by omega
        have q0 := HT8.out.cell (i := 0) rfl
        have f0 := HT8.out.free 0
        have hO10 : Only w1.heap.size W9 (W9.setCell ⟨w1.heap.size, 0, none⟩ (.slice (some ⟨g, 0, none⟩) k c1)) := Only.set _ _ 0 _
        have HT8 := Stow.mk (HT8.out.set 0 (.slice (some ⟨g, 0, none⟩) k c1))
        have HT11 := Stow.mk (HT11.out.offO hO10 (by omega))
        have HR6 := Stow.mk (HR6.out.offO hO10 (by omega))
        have HR7 := Stow.mk (HR7.out.offO hO10 (by omega))
        have HF9 := Stow.mk (HF9.out.only hO10 (by omega))
        have HXR := Stow.mk (HXR.out.only hO10 (HXN.out.mono fun b hb => by have := hb.1; simp at this; omega))
        have HE := Stow.mk (HE.out.trans (Turn.of_grown (F := E) hO10 (.inl (by rw [HED.out]; exact .inl rfl))) fun j hj => .inl hj)
        have hs11 := hO10.size
        go_upto_region 17 with fail
        obtain ⟨W10, hW10⟩ : ∃ W, W9.setCell ⟨w1.heap.size, 0, none⟩ (.slice (some ⟨g, 0, none⟩) k c1) = W := ⟨_, rfl⟩
        rw [hW10] at HT11 HT8 HR6 HR7 HF9 HXR HE hs11
        rw [hW10]
        clear hW10 hO10 q0 f0
        have hq11 := HI.out.ft.lt.2
        have HWR := Stow.mk (show WR Wq.heap.size W10 (wantc 2 [] [] [] none 0 0 [] y.c.st y.c.body x') (.done y.c.st y.c.body y.c) from ⟨x', HXC.out, rfl, HXR.out, HXN.out.mono fun b hb => by have := hb.1; simp at this; omega⟩)
        refine wp_region_held_drew (S := fun W => W.rangeAt w1.heap.size 0 [.slice (some ⟨g, 0, none⟩) k c1, .int .i64 hops] ∧ W.rangeAt W2.heap.size 0 (wantc 2 [] [] [] none 0 0 [] y.c.st y.c.body x')) (by kernel_rfl) ⟨HT8.out.range, HT11.out.range⟩ (fun hHeld => ?_)
        have HE := Stow.mk (HE.out.trans (Turn.of_below (F := E) (Below.drew (Below.self W10))) fun j hj => .inl hj)
        have HT8 := Stow.mk HT8.out.drew
        have HT11 := Stow.mk HT11.out.drew
        have HR6 := Stow.mk HR6.out.drew
        have HR7 := Stow.mk HR7.out.drew
        have HF9 := Stow.mk HF9.out.drew
        have HWR := Stow.mk (HWR.out.keep (Below.drew (Below.self W10)))
        refine wpAnyH_take (i := 0) (v := .agg [.slice (some ⟨g, 0, none⟩) k c1, .int .i64 hops].toArray) rfl (by kernel_rfl) (by kernel_rfl) (by kernel_rfl) (fun _ _ _ h => h) (yieldsIf_load_mid ?ywap 24 (.tmp 8) ?yoap w1.heap.size 0 ?yxap [.slice (some ⟨g, 0, none⟩) k c1, .int .i64 hops] _ ?ysap Try.underlying24 rfl ?yiap) (by assumption) ?restap
        case ywap => rfl
        case yoap => rfl
        case yxap => simp [Act.eval]
        case ysap => exact fun W hW => hW.1
        case yiap => kernel_rfl
        try simp only [List.getElem_toArray, List.getElem_cons_zero, Act.put, List.setIfInBounds_toArray, List.set_cons_zero, List.set_cons_succ]
        refine wpAnyH_take (i := 1) (v := .agg (wantc 2 [] [] [] none 0 0 [] y.c.st y.c.body x').toArray) rfl (by kernel_rfl) (by kernel_rfl) (by kernel_rfl) (fun _ _ _ h => h) (yieldsIf_load_mid ?ywbp 98 (.tmp 11) ?yobp W2.heap.size 0 ?yxbp (wantc 2 [] [] [] none 0 0 [] y.c.st y.c.body x') _ ?ysbp Try.underlying98 rfl ?yibp) (by assumption) ?restbp
        case ywbp => rfl
        case yobp => rfl
        case yxbp => simp [Act.eval]
        case ysbp => exact fun W hW => hW.2
        case yibp => rw [wantc_len]; kernel_rfl
        try simp only [List.getElem_toArray, List.getElem_cons_zero, List.getElem_cons_succ, Act.put, List.setIfInBounds_toArray, List.set_cons_zero, List.set_cons_succ]
        refine wpAnyH_ready (rs := [2]) (by kernel_rfl) (by simp) ?_
        refine AllReadyH.cons rfl (fun K hK => ?_) AllReadyH.nil
        rw [if_pos (by rfl)]
        refine wp_store_mid 24 (.tmp 6) (.tmp 96) ?soap (w.heap.size + 1) 0 [.slice (some ⟨g, 0, none⟩) k c1, .int .i64 hops].toArray ?sxap ?syap ?stap ?siap (all_oneCell_toArray (by intro u hu; simp at hu; rcases hu with rfl | rfl <;> rfl)) ?shap
        case soap => rfl
        case sxap => rfl
        case syap => rfl
        case stap => exact HR6.out.there
        case siap => kernel_rfl
        rw [List.toList_toArray]
        have hOa := only_all (g := w.heap.size + 1) [.slice (some ⟨g, 0, none⟩) k c1, .int .i64 hops] (World.drew W10) 0
        have HR6 := Stow.mk (HR6.out.over [.slice (some ⟨g, 0, none⟩) k c1, .int .i64 hops] rfl)
        have HT8 := Stow.mk (HT8.out.offO hOa (by omega))
        have HT11 := Stow.mk (HT11.out.offO hOa (by omega))
        have HR7 := Stow.mk (HR7.out.offO hOa (by omega))
        have HF9 := Stow.mk (HF9.out.only hOa (by omega))
        have HWR := Stow.mk (HWR.out.only hOa (by omega))
        have HE := Stow.mk (HE.out.trans (Turn.of_grown (F := E) hOa (.inl (by rw [HED.out]; dsimp only; omega))) fun j hj => .inl hj)
        obtain ⟨Wa, hWa⟩ : ∃ W, World.setCells (World.drew W10) (w.heap.size + 1) 0 [.slice (some ⟨g, 0, none⟩) k c1, .int .i64 hops] = W := ⟨_, rfl⟩
        rw [hWa] at HR6 HT8 HT11 HR7 HF9 HWR HE
        rw [hWa]
        refine hK.out _ _ ⟨HT8.out.range, HT11.out.range⟩ (fun hHeld => ?_)
        clear hK K hOa hWa
        try simp only [List.getElem_toArray, List.getElem_cons_zero, List.getElem_cons_succ, Act.put]
        refine wpAnyH_ready (rs := [3]) (by kernel_rfl) (by simp) ?_
        refine AllReadyH.cons rfl (fun K hK => ?_) AllReadyH.nil
        rw [if_pos (by rfl)]
        refine wp_store_mid 98 (.tmp 7) (.tmp 97) ?sobp (w.heap.size + 1 + 1) 0 (wantc 2 [] [] [] none 0 0 [] y.c.st y.c.body x').toArray ?sxbp ?sybp ?stbp ?sibp (all_oneCell_toArray (wantc_one _ _ _ _ _ _ _ _ _ _ _)) ?shbp
        case sobp => rfl
        case sxbp => rfl
        case sybp => rfl
        case stbp => exact HR7.out.there
        case sibp => rw [List.size_toArray, wantc_len]; kernel_rfl
        rw [List.toList_toArray]
        have hOa := only_all (g := w.heap.size + 1 + 1) (wantc 2 [] [] [] none 0 0 [] y.c.st y.c.body x') Wa 0
        have HR7 := Stow.mk (HR7.out.over (wantc 2 [] [] [] none 0 0 [] y.c.st y.c.body x') rfl)
        have HT8 := Stow.mk (HT8.out.offO hOa (by omega))
        have HT11 := Stow.mk (HT11.out.offO hOa (by omega))
        have HR6 := Stow.mk (HR6.out.offO hOa (by omega))
        have HF9 := Stow.mk (HF9.out.only hOa (by omega))
        have HWR := Stow.mk (HWR.out.only hOa (by omega))
        have HE := Stow.mk (HE.out.trans (Turn.of_grown (F := E) hOa (.inl (by rw [HED.out]; dsimp only; omega))) fun j hj => .inl hj)
        obtain ⟨Wb, hWb⟩ : ∃ W, World.setCells Wa (w.heap.size + 1 + 1) 0 (wantc 2 [] [] [] none 0 0 [] y.c.st y.c.body x') = W := ⟨_, rfl⟩
        rw [hWb] at HR6 HT8 HT11 HR7 HF9 HWR HE
        rw [hWb]
        refine hK.out _ _ ⟨HT8.out.range, HT11.out.range⟩ (fun hHeld => ?_)
        clear hK K hOa hWb
        refine wpAnyH_done (by kernel_rfl) ?_ _
        try simp only [List.getElem_toArray, List.getElem_cons_zero, List.getElem_cons_succ, Act.put]
        clear hHeld
        go_wp2_with fail
        show bodyPost _ _ _ Exit.ret _ _
        refine bodyPost_ret (flrun_results Wb (w.heap.size + 1) (w.heap.size + 1 + 1) _ _ _ HR6.out HR7.out rfl rfl rfl rfl) rfl ?_
        have hdr := RunI.drop HI.out HE.out (fun j hj => by rw [HED.out] at hj; omega) HF0.out (by omega)
        have hex : ∀ j, E j → (j < W.heap.size ∨ j = g) ∨ w1.heap.size ≤ j := fun j hj => by rw [HED.out] at hj; omega
        have hst := HST.out Wb ((HT2.out.trans HI.out.turn HDW.out).trans HE.out hex)
        have hrl : runL (L.map Fm.c) S sh = (Q.map Fm.c, .done y.c.st y.c.body y.c, S') := by
          rw [← HC1.out, List.map_append, List.map_singleton, runL_end, HRN.out]
          rfl
        have hrow := (FlO.read HF9.out.flo).take k (by simp [HQ.out])
        rw [← List.map_take, List.take_left' HQ.out] at hrow
        rw [hrl]
        refine ⟨some ⟨g, 0, none⟩, c1, Q, _, F, ?_, rfl, ⟨⟨?_, fun z hz => hst z (List.mem_append_left _ hz)⟩, fun ad e => by cases e; show w.heap.size ≤ g; omega, fun z hz => HNS.out z (List.mem_append_left _ hz)⟩, HWR.out.mono (by omega), hdr.1, hdr.2.1, hdr.2.2⟩
        · rw [List.length_map, HQ.out]
        · rw [HQ.out]; exact hrow
end Go.Proofs.Ythbpcdoddcacdaa
