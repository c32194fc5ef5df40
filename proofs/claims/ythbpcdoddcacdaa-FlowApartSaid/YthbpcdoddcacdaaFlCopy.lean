/- Walk of flow's copied. Conditions: the frames' memory; lists not longer than a thousand. -/
import Derived.Test.YthbpcdoddcacdaaFlOwn
import Derived.Deep.RegionHeld3
import Derived.Deep.Onto
import Derived.Deep.AppendLies
namespace Go.Proofs.Ythbpcdoddcacdaa
open Go.RowKit
set_option linter.unusedVariables false

/-- A flow whose frames are its own: the row, and its lists apart from it. -/
structure FlW (w : World) (B : Nat) (A : Option Addr) (cap : Nat) (L : List Fm) : Prop where
  own : FlO w B A cap L
  each : ∀ x ∈ L, FmR w x
  apart : ∀ x ∈ L, FmN (fun b => B ≤ b ∧ ∀ ad, A = some ad → b ≠ ad.block) x
theorem FlW.read {w : World} {B : Nat} {A : Option Addr} {cap : Nat} {L : List Fm} (h : FlW w B A cap L) : FlR w A cap L := ⟨h.own.read, h.each⟩
theorem FlW.keep {w w' : World} {B : Nat} {A : Option Addr} {cap : Nat} {L : List Fm} (h : FlW w B A cap L) (hb : Below w.heap.size w w') : FlW w' B A cap L := ⟨own_kept h.own hb, fun x hx => (h.each x hx).keep hb, h.apart⟩
theorem slr_only {w w' : World} {g c n cap : Nat} {A : Option Addr} {L : List (List Value)} (h : SlR w c (.slice A n cap) L) (ho : Only g w w') (hA : ∀ ad, A = some ad → ad.block ≠ g) : SlR w' c (.slice A n cap) L := by
  obtain ⟨A', cap', hv, h1, h2, h3⟩ := h
  simp only [Value.slice.injEq] at hv
  obtain ⟨rfl, rfl, rfl⟩ := hv
  refine ⟨_, _, rfl, h1, h2, fun hL => ?_⟩
  obtain ⟨b, off, rfl, hlt, hc⟩ := h3 hL
  refine ⟨b, off, rfl, Nat.lt_of_lt_of_le hlt ho.size, fun i x hx j u hu => ?_⟩
  have hb := ho.block b hlt (by have := hA _ rfl; simpa using this)
  have : w'.cell? ⟨b, off + i * c + j, none⟩ = w.cell? ⟨b, off + i * c + j, none⟩ := World.cell?_of_block (w := w) hb
  rw [this]
  exact hc i x hx j u hu
theorem FmR.only {w w' : World} {g : Nat} {x : Fm} (h : FmR w x) (ho : Only g w w') (hN : FmN (fun b => b ≠ g) x) : FmR w' x := ⟨slr_only h.ops ho hN.1, slr_only h.heads ho hN.2⟩
def putL : List Value → Nat → List Value → List Value
  | xs, _, [] => xs
  | xs, i, v :: t => putL (xs.set i v) (i + 1) t
theorem own_putAll {B : Nat} {e : TypeId} {c g n cap : Nat} : ∀ (cs : List Value) (w : World) (i : Nat) (xs : List Value), w.ownsRow B e c (.slice (some ⟨g, 0, none⟩) n cap) n xs → (w.setCells g i cs).ownsRow B e c (.slice (some ⟨g, 0, none⟩) n cap) n (putL xs i cs)
  | [], _, _, _, h => h
  | v :: t, w, i, xs, h => own_putAll t _ (i + 1) _ (World.ownsRow.stored h i v).1
theorem putL_mid : ∀ (cs pre old post : List Value), cs.length = old.length → putL (pre ++ (old ++ post)) pre.length cs = pre ++ (cs ++ post)
  | [], pre, old, post, h => by
    obtain rfl := List.eq_nil_of_length_eq_zero h.symm
    rfl
  | v :: t, pre, old, post, h => by
    rcases old with _ | ⟨u, r⟩
    · cases h
    · unfold putL
      rw [List.set_append_right _ _ (Nat.le_refl _), Nat.sub_self]
      have h1 := putL_mid t (pre ++ [v]) r post (by simpa using h)
      rw [List.length_append] at h1
      simpa using h1
/-- One frame of a row is written over. -/
theorem own_putFm {w : World} {B g n cap : Nat} {Q R : List Fm} {x y : Fm} (h : w.ownsRow B 30 13 (.slice (some ⟨g, 0, none⟩) n cap) n ((Q ++ x :: R).flatMap Fm.cells)) :
    (w.setCells g (Q.length * 13) y.cells).ownsRow B 30 13 (.slice (some ⟨g, 0, none⟩) n cap) n ((Q ++ y :: R).flatMap Fm.cells) := by
  have h1 := own_putAll y.cells w (Q.length * 13) _ h
  have e1 : (Q ++ x :: R).flatMap Fm.cells = Q.flatMap Fm.cells ++ (x.cells ++ R.flatMap Fm.cells) := by rw [List.flatMap_append, List.flatMap_cons]
  have e2 : (Q ++ y :: R).flatMap Fm.cells = Q.flatMap Fm.cells ++ (y.cells ++ R.flatMap Fm.cells) := by rw [List.flatMap_append, List.flatMap_cons]
  have h2 := putL_mid y.cells (Q.flatMap Fm.cells) x.cells (R.flatMap Fm.cells) rfl
  rw [fm_flat_len] at h2
  rw [e1, h2, ← e2] at h1
  exact h1
theorem own_there {w : World} {B : Nat} {e : TypeId} {c g n cap k : Nat} {xs : List Value} (h : w.ownsRow B e c (.slice (some ⟨g, 0, none⟩) n cap) n xs) (hk : k < n) : w.there g (k * c) c := fun j hj => by
  have hlt : k * c + j < n * c := by
    have : (k + 1) * c ≤ n * c := Nat.mul_le_mul_right c hk
    rw [Nat.succ_mul] at this; omega
  refine ⟨?_, h.frozenAt _⟩
  have hl := h.1
  rw [h.cellAt (k * c + j) hlt, List.getElem?_eq_getElem (by rw [hl]; exact hlt)]
  rfl
/-- The copying, j frames on. -/
structure CpF (w : World) (B g n cap : Nat) (L Q : List Fm) (j : Nat) : Prop where
  len : Q.length = j
  same : Q.map Fm.c = (L.take j).map Fm.c
  own : w.ownsRow B 30 13 (.slice (some ⟨g, 0, none⟩) n cap) n ((Q ++ L.drop j).flatMap Fm.cells)
  each : ∀ x ∈ Q, FmR w x
  apart : ∀ x ∈ Q, FmN (fun b => B ≤ b ∧ b ≠ g) x
theorem CpF.keep {w w' : World} {B g n cap j : Nat} {L Q : List Fm} (h : CpF w B g n cap L Q j) (hb : Below w.heap.size w w') : CpF w' B g n cap L Q j :=
  ⟨h.len, h.same, own_kept h.own hb, fun x hx => (h.each x hx).keep hb, h.apart⟩
theorem CpF.next {w : World} {B g n cap j : Nat} {L Q : List Fm} {y : Fm} (h : CpF w B g n cap L Q j) (hj : j < L.length) (hy : y.c = L[j].c) (hR : FmR w y) (hN : FmN (fun b => B ≤ b ∧ b ≠ g) y) :
    CpF (w.setCells g (j * 13) y.cells) B g n cap L (Q ++ [y]) (j + 1) := by
  have ho : Only g w (w.setCells g (j * 13) y.cells) := only_all _ _ _
  refine ⟨by simp [h.len], ?_, ?_, ?_, ?_⟩
  · rw [List.map_append, h.same, List.take_succ_eq_append_getElem hj, List.map_append]
    simp [hy]
  · have h1 := h.own
    rw [List.drop_eq_getElem_cons hj] at h1
    have h2 := own_putFm (y := y) h1
    rw [h.len] at h2
    rw [List.append_assoc]
    exact h2
  · intro x hx
    rcases List.mem_append.1 hx with hx | hx
    · exact (h.each x hx).only ho ((h.apart x hx).mono fun b hb => hb.2)
    · obtain rfl : x = y := by simpa using hx
      exact hR.only ho (hN.mono fun b hb => hb.2)
  · intro x hx
    rcases List.mem_append.1 hx with hx | hx
    · exact h.apart x hx
    · obtain rfl : x = y := by simpa using hx
      exact hN
theorem flcp_results (W : World) (g : Nat) (v : Value) (k : Int) (tmps : Array Value) (hH : Held W g [v, .int .i64 k]) (h2 : tmps[2]?.getD undef = .pointer (some ⟨g, 0, none⟩)) :
    (results Try.f62 tmps).run Try.prog W = .ok (.agg #[v, .int .i64 k]) W := by
  have c0 := hH.cell (i := 0) rfl
  have c1 := hH.cell (i := 1) rfl
  simp [results, Try.results62, go_sem, h2, c0, c1]
theorem FlW.only {w w' : World} {B g : Nat} {A : Option Addr} {cap : Nat} {L : List Fm} (h : FlW w B A cap L) (ho : Only g w w') (hg : g < B) : FlW w' B A cap L :=
  ⟨own_undr h.own ho hg, fun x hx => (h.each x hx).only ho ((h.apart x hx).mono fun b hb => by have := hb.1; omega), h.apart⟩
theorem FlW.low {w : World} {B B' : Nat} {A : Option Addr} {cap : Nat} {L : List Fm} (h : FlW w B' A cap L) (hb : B ≤ B') : FlW w B A cap L :=
  ⟨World.ownsRow.mono h.own hb, h.each, fun x hx => (h.apart x hx).mono fun b hb' => ⟨Nat.le_trans hb hb'.1, hb'.2⟩⟩
set_option maxHeartbeats 2000000 in
set_option maxRecDepth 100000 in
theorem flCopied_any (A : Option Addr) (cap : Nat) (L : List Fm) (hops : Int) (w : World) (h : FlR w A cap L) (hn : L.length ≤ 1000) (hs : ∀ x ∈ L, x.c.small) :
    Calls Try.prog 62 #[flv A L.length cap hops] w fun e w' => ∃ A' cap' L', e = .returned (flv A' L.length cap' hops) ∧ L'.map Fm.c = L.map Fm.c ∧ FlW w' w.heap.size A' cap' L' ∧ Below w.heap.size w w' := by
  have HX := Stow.mk ((Held.made w [.slice A L.length cap, .int .i64 hops] 24).kept (Below.alloc' (Below.self _) (.cells #[.slice none 0 0, .int .i64 0] 24)))
  have HR := Stow.mk (Held.made (w.alloc (.cells #[.slice A L.length cap, .int .i64 hops] 24)) [.slice none 0 0, .int .i64 0] 24)
  have HB := Stow.mk (Below.alloc' (Below.alloc' (Below.self w) (.cells #[.slice A L.length cap, .int .i64 hops] 24)) (.cells #[.slice none 0 0, .int .i64 0] 24))
  obtain ⟨W0, hW0⟩ : ∃ W, (w.alloc (.cells #[.slice A L.length cap, .int .i64 hops] 24)).alloc (.cells #[.slice none 0 0, .int .i64 0] 24) = W := ⟨_, rfl⟩
  have hsz : W0.heap.size = w.heap.size + 1 + 1 := by rw [← hW0]; simp
  rw [show (w.alloc (.cells [.slice A L.length cap, .int .i64 hops].toArray 24)).alloc (.cells #[.slice none 0 0, .int .i64 0] 24) = W0 from hW0] at HX
  rw [hW0] at HB
  rw [show (w.alloc (.cells #[.slice A L.length cap, .int .i64 hops] 24)).alloc (.cells [.slice none 0 0, .int .i64 0].toArray 24) = W0 from hW0] at HR
  simp only [World.size_alloc] at HR
  have HF := Stow.mk h
  have HSM := Stow.mk hs
  have HC := Stow.mk (cloneF_any L A cap W0 (h.keep HB.out).row hn)
  have q0 := HX.out.cell (i := 0) rfl
  clear h hs
  go_enter Try.func62, Try.ntmps62
  go_wp2_with fail
  refine HC.out.mono ?_
  rintro e w1 ⟨A1, c1, rfl, hO1, hb1⟩
  have HX := Stow.mk (HX.out.kept hb1)
  have HR := Stow.mk (HR.out.kept hb1)
  have HB := Stow.mk (HB.out.trans (hb1.mono HB.out.size))
  have s1 := hb1.size
  have f0 := HX.out.free 0
  clear q0 hb1 HC hW0
  have q0 := HX.out.cell (i := 0) rfl
  have hOn : Only w.heap.size w1 (w1.setCell ⟨w.heap.size, 0, none⟩ (.slice A1 L.length c1)) := Only.set _ _ 0 _
  have HX := Stow.mk (HX.out.set 0 (.slice A1 L.length c1))
  have HR := Stow.mk (HR.out.offO hOn (by omega))
  have HO1 := Stow.mk (own_undr hO1 hOn (by omega))
  have HB := Stow.mk (HB.out.trans (hOn.below (Nat.le_refl _) HB.out.size))
  have s2 := hOn.size
  go_upto_region 2 with fail
  obtain ⟨W1, hW1⟩ : ∃ W, w1.setCell ⟨w.heap.size, 0, none⟩ (.slice A1 L.length c1) = W := ⟨_, rfl⟩
  rw [hW1] at HX HR HB HO1 s2
  rw [hW1]
  clear hW1 hOn hO1 q0 f0
  have q0 := HX.out.cell (i := 0) rfl
  have hsz1 : w.heap.size + 1 < W0.heap.size := by omega
  have hlen0 : (L.length : Int) ≤ 1000 := by omega
  by_cases hL0 : L = []
  · have hni : ¬ (0 : Int) < L.length := by rw [hL0]; simp
    have HW := Stow.mk (show FlW W1 W0.heap.size A1 c1 L from ⟨HO1.out, (fun x hx => by rw [hL0] at hx; cases hx), (fun x hx => by rw [hL0] at hx; cases hx)⟩)
    obtain ⟨L', hL'⟩ : ∃ L' : List Fm, L' = L := ⟨_, rfl⟩
    rw [← hL'] at HW
    have HSA := Stow.mk (show L'.map Fm.c = L.map Fm.c by rw [hL'])
    have HLN := Stow.mk (show L'.length = L.length by rw [hL'])
    clear hL' hL0
    go_wp2_with fail
    go_loopw [12] (fun v wr => v = .int .i64 0 ∧ wr = W1) (fun _ _ => 0)
    case atStart => exact ⟨rfl, rfl⟩
    case round =>
      obtain ⟨rfl, rfl⟩ := hrel
      clear q0
      have q0 := HX.out.cell (i := 0) rfl
      have q1 := HX.out.cell (i := 1) rfl
      have s0 := HR.out.free 0
      have s1 := HR.out.free 1
      have r0 := HR.out.cell (i := 0) rfl
      have r1 := HR.out.cell (i := 1) rfl
      have hO1 : Only (w.heap.size + 1) wr (World.setCell wr ⟨w.heap.size + 1, 0, none⟩ (.slice A1 L.length c1)) := Only.set _ _ 0 _
      have hO2 : Only (w.heap.size + 1) (World.setCell wr ⟨w.heap.size + 1, 0, none⟩ (.slice A1 L.length c1)) ((World.setCell wr ⟨w.heap.size + 1, 0, none⟩ (.slice A1 L.length c1)).setCell ⟨w.heap.size + 1, 1, none⟩ (.int .i64 hops)) := Only.set _ _ 1 _
      have hO := hO1.trans hO2
      have HN := Stow.mk ((HR.out.set 0 (.slice A1 L.length c1)).set 1 (.int .i64 hops))
      have HW2 := Stow.mk (HW.out.only hO hsz1)
      have HB2 := Stow.mk (HB.out.trans (hO.below (Nat.le_succ _) HB.out.size))
      clear hO1 hO2 hO HW HX HR
      go_wp2_with fail
      refine bodyPost_ret (flcp_results _ (w.heap.size + 1) (.slice A1 L.length c1) hops _ HN.out rfl) rfl ?_
      exact ⟨A1, c1, L', rfl, HSA.out, HW2.out.low (by omega), HB2.out⟩
  · obtain ⟨g, c1', hform, hge, hlt⟩ := World.ownsRow.form HO1.out (by rcases L with _ | ⟨y, t⟩; exact absurd rfl hL0; simp)
    simp only [Value.slice.injEq, true_and] at hform
    obtain ⟨rfl, rfl⟩ := hform
    have HCP := Stow.mk (show CpF W1 W0.heap.size g L.length c1 L [] 0 from ⟨rfl, rfl, HO1.out, (fun x hx => by cases hx), (fun x hx => by cases hx)⟩)
    have hxg : w.heap.size ≠ g := by omega
    clear HO1 hlt
    go_wp2_with fail
    go_loopw [12] (fun v wr => ∃ j : Nat, v = .int .i64 (j : Int) ∧ j ≤ L.length ∧ Stow (∃ Q, CpF wr W0.heap.size g L.length c1 L Q j) ∧ Stow (Held wr w.heap.size [.slice (some ⟨g, 0, none⟩) L.length c1, .int .i64 hops]) ∧ Stow (Held wr (w.heap.size + 1) [.slice none 0 0, .int .i64 0]) ∧ Stow (Below w.heap.size w wr) ∧ W0.heap.size ≤ wr.heap.size) (fun v _ => L.length - (intOf v).toNat)
    case atStart => exact ⟨0, rfl, by omega, ⟨[], HCP.out⟩, HX, HR, HB, by omega⟩
    case round =>
      obtain ⟨j, rfl, hj, HCQ, HXX, HRR, HBR, hge2⟩ := hrel
      clear HX HR HB HCP q0
      have HX := HXX
      have HR := HRR
      have HB := HBR
      by_cases hjl : j < L.length
      · obtain ⟨Q, hQ⟩ := HCQ.out
        have hjQ : j < (Q ++ L.drop j).length := by simp [hQ.len]; omega
        obtain ⟨hgl, hra⟩ := fm_at (own_of_cells (fun _ => rfl) hQ.own (by simp [hQ.len]; omega)) hjQ
        have hel : (Q ++ L.drop j)[j] = L[j] := by
          rw [List.getElem_append_right (by rw [hQ.len]; exact Nat.le_refl _)]
          simp [hQ.len]
        rw [hel, Nat.zero_add] at hra
        have HFM := Stow.mk ((HF.out.each _ (List.getElem_mem hjl)).keep HB.out)
        have hsm := HSM.out _ (List.getElem_mem hjl)
        obtain ⟨y, hy⟩ : ∃ y, L[j] = y := ⟨_, rfl⟩
        rw [hy] at hra HFM hsm
        have HYJ := Stow.mk (congrArg Fm.c hy)
        have HQ := Stow.mk hQ
        have HRA := Stow.mk hra
        have HSY := Stow.mk hsm
        have q0 := HX.out.cell (i := 0) rfl
        have hji : (j : Int) < L.length := by omega
        have hj0 : (0 : Int) ≤ j := by omega
        have hxl := HX.out.lt
        clear hQ hjQ hel hra hsm hy HCQ
        have ba := Below.alloc' (Below.self wr) (.cells fmz.cells.toArray 30)
        have hZ := Held.made wr fmz.cells 30
        have HZT := Stow.mk (show (wr.alloc (.cells fmz.cells.toArray 30)).there wr.heap.size 0 y.cells.length from hZ.there)
        have HYH := Stow.mk (hZ.over y.cells rfl)
        have hbx : Below wr.heap.size wr ((wr.alloc (.cells fmz.cells.toArray 30)).setCells wr.heap.size 0 y.cells) := ba.trans ((only_all y.cells _ 0).below (Nat.le_refl _) ba.size)
        obtain ⟨W2, hW2⟩ : ∃ W, (wr.alloc (.cells fmz.cells.toArray 30)).setCells wr.heap.size 0 y.cells = W := ⟨_, rfl⟩
        rw [hW2] at HYH hbx
        have HW2 := Stow.mk hW2
        have HBX := Stow.mk hbx
        clear ba hZ hbx hW2
        go_upto_region 5 with (first
          | (refine wpList_load_mid rfl 30 (.tmp 15) rfl g (j * 13) rfl y.cells _ HRA.out Try.underlying30 rfl (by rw [Fm.cells_len]; kernel_rfl) ?_)
          | (refine wpList_store_hx rfl 30 (.tmp 4) (.tmp 16) rfl rfl wr.heap.size 0 y.cells rfl rfl HZT.out (by rw [Fm.cells_len]; kernel_rfl) (Fm.one y) ?_))
        generalize hW : World.setCells _ _ _ _ = W3
        obtain rfl : W3 = W2 := hW.symm.trans HW2.out
        clear hW HW2 HZT HRA q0
        have HX := Stow.mk (HX.out.kept HBX.out)
        have HR := Stow.mk (HR.out.kept HBX.out)
        have HQ := Stow.mk (HQ.out.keep HBX.out)
        have HFM := Stow.mk (HFM.out.keep HBX.out)
        have HB := Stow.mk (HB.out.trans (HBX.out.mono HB.out.size))
        have HC := Stow.mk (flOwn_any y W3.drew (HFM.out.keep (Below.drew (Below.self W3))) HSY.out)
        have hbs := HBX.out.size
        refine wp_region_held_drew (S := fun W => W.cell? ⟨w.heap.size, 0, none⟩ = some (.slice (some ⟨g, 0, none⟩) L.length c1) ∧ W.rangeAt wr.heap.size 0 y.cells) (by kernel_rfl) ⟨HX.out.cell (i := 0) rfl, HYH.out.range⟩ (fun hHeld => ?_)
        refine wpAnyH_take (i := 0) (v := ?v0) rfl (by kernel_rfl) (by kernel_rfl) (by kernel_rfl) (fun _ _ _ h => h) (Or.inl ⟨by rfl, ?hy0⟩) (by assumption) ?rest0
        case hy0 =>
          intro W hSW
          try dsimp only at hSW
          obtain ⟨hs0, hs1⟩ := hSW
          go_simp
          try with_reducible rfl
        try simp only [List.getElem_toArray, List.getElem_cons_zero, Act.put, List.setIfInBounds_toArray, List.set_cons_zero, List.set_cons_succ]
        refine wpAnyH_take (i := 1) (v := ?v1) rfl (by kernel_rfl) (by kernel_rfl) (by kernel_rfl) (fun _ _ _ h => h) (Or.inl ⟨by rfl, ?hy1⟩) (by assumption) ?rest1
        case hy1 =>
          intro W hSW
          try dsimp only at hSW
          obtain ⟨hs0, hs1⟩ := hSW
          go_simp
          try with_reducible rfl
        try simp only [List.getElem_toArray, List.getElem_cons_zero, List.getElem_cons_succ, Act.put, List.setIfInBounds_toArray, List.set_cons_zero, List.set_cons_succ]
        refine wpAnyH_take (i := 2) (v := ?v2) rfl (by kernel_rfl) (by kernel_rfl) (by kernel_rfl) (fun _ _ _ h => h) (Or.inl ⟨by rfl, ?hy2⟩) (by assumption) ?rest2
        case hy2 =>
          intro W hSW
          try dsimp only at hSW
          obtain ⟨hs0, hs1⟩ := hSW
          go_simp
          try with_reducible rfl
        try simp only [List.getElem_toArray, List.getElem_cons_zero, List.getElem_cons_succ, Act.put, List.setIfInBounds_toArray, List.set_cons_zero, List.set_cons_succ]
        refine wpAnyH_take (i := 3) (v := .agg y.cells.toArray) rfl (by kernel_rfl) (by kernel_rfl) (by kernel_rfl) (fun _ _ _ h => h) (yieldsIf_load_mid ?yw3 30 (.tmp 4) ?yo3 wr.heap.size 0 ?yx3 y.cells _ ?ys3 Try.underlying30 rfl ?yi3) (by assumption) ?rest3
        case yw3 => rfl
        case yo3 => rfl
        case yx3 => rfl
        case ys3 => exact fun W hW => hW.2
        case yi3 => rw [Fm.cells_len]; kernel_rfl
        try simp only [List.getElem_toArray, List.getElem_cons_zero, List.getElem_cons_succ, Act.put, List.setIfInBounds_toArray, List.set_cons_zero, List.set_cons_succ]
        refine wpAnyH_ready (rs := [4]) (by kernel_rfl) (by simp) ?_
        refine AllReadyH.cons rfl (fun K hK => ?_) AllReadyH.nil
        rw [if_pos (by rfl)]
        go_simp
        refine HC.out.mono ?_
        rintro e w4 ⟨x', rfl, hx', hR', hN', hb4⟩
        have hb4' : Below W3.heap.size W3 w4 := (Below.drew (Below.self W3)).trans hb4
        have HX := Stow.mk (HX.out.kept hb4')
        have HR := Stow.mk (HR.out.kept hb4')
        have HQ := Stow.mk (HQ.out.keep hb4')
        have HYH := Stow.mk (HYH.out.kept hb4')
        have HB := Stow.mk (HB.out.trans (hb4'.mono HB.out.size))
        have hs4 := hb4'.size
        have HXR := Stow.mk hR'
        have HXN := Stow.mk hN'
        have HXC := Stow.mk hx'
        dsimp only
        refine hK.out _ _ ⟨HX.out.cell (i := 0) rfl, HYH.out.range⟩ (fun hHeld => ?_)
        clear hK K hR' hN' hx' hb4 hb4'
        try simp only [List.getElem_toArray, List.getElem_cons_zero, List.getElem_cons_succ, Act.put, List.setIfInBounds_toArray, List.set_cons_zero, List.set_cons_succ]
        refine wpAnyH_take (i := 5) (v := ?v5) rfl (by kernel_rfl) (by kernel_rfl) (by kernel_rfl) (fun _ _ _ h => h) (Or.inl ⟨by rfl, ?hy5⟩) (by assumption) ?rest5
        case hy5 =>
          intro W hSW
          try dsimp only at hSW
          obtain ⟨hs0, hs1⟩ := hSW
          go_simp
          try with_reducible rfl
        try simp only [List.getElem_toArray, List.getElem_cons_zero, List.getElem_cons_succ, Act.put, List.setIfInBounds_toArray, List.set_cons_zero, List.set_cons_succ]
        refine wpAnyH_ready (rs := [6]) (by kernel_rfl) (by simp) ?_
        refine AllReadyH.cons rfl (fun K hK => ?_) AllReadyH.nil
        rw [if_pos (by rfl)]
        refine wp_store_mid 30 (.tmp 22) (.tmp 21) ?yo6 g (j * 13) x'.cells.toArray ?yx6 ?yy6 ?yt6 ?yi6 (all_oneCell_toArray (Fm.one x')) ?yh6
        case yo6 => rfl
        case yx6 => simp [Act.eval]
        case yy6 => rfl
        case yt6 => exact own_there HQ.out.own hjl
        case yi6 => rw [List.size_toArray, Fm.cells_len]; kernel_rfl
        rw [List.toList_toArray]
        have hO : Only g w4 (w4.setCells g (j * 13) x'.cells) := only_all _ _ _
        have HX := Stow.mk (HX.out.offO hO hxg)
        have HR := Stow.mk (HR.out.offO hO (by omega))
        have HYH := Stow.mk (HYH.out.offO hO (by omega))
        have HB := Stow.mk (HB.out.trans (hO.below (show w.heap.size ≤ g by omega) HB.out.size))
        have HNX : Stow (∃ Q, CpF (w4.setCells g (j * 13) x'.cells) W0.heap.size g L.length c1 L Q (j + 1)) := ⟨_, HQ.out.next hjl (HXC.out.trans HYJ.out.symm) HXR.out (HXN.out.mono fun b hb => ⟨by have := hb.1; simp at this; omega, by have := hb.1; simp at this; omega⟩)⟩
        have hs5 := hO.size
        obtain ⟨W5, hW5⟩ : ∃ W, w4.setCells g (j * 13) x'.cells = W := ⟨_, rfl⟩
        rw [hW5] at HX HR HYH HB HNX hs5
        rw [hW5]
        refine hK.out _ _ ⟨HX.out.cell (i := 0) rfl, HYH.out.range⟩ (fun hHeld => ?_)
        clear hK K hO hW5
        refine wpAnyH_done (by kernel_rfl) ?_ _
        try simp only [List.getElem_toArray, List.getElem_cons_zero, List.getElem_cons_succ, Act.put]
        clear hHeld
        go_wp2_with fail
        exact ⟨⟨j + 1, rfl, by omega, HNX, HX, HR, HB, by omega⟩, by simp [intOf]; omega⟩
      · obtain rfl : j = L.length := by omega
        obtain ⟨L', hQ⟩ := HCQ.out
        have HW := Stow.mk (show FlW wr W0.heap.size (some ⟨g, 0, none⟩) c1 L' from ⟨by unfold FlO; rw [hQ.len]; simpa using hQ.own, hQ.each, fun x hx => (hQ.apart x hx).mono fun b hb => ⟨hb.1, fun ad e => by cases e; exact hb.2⟩⟩)
        have HSA := Stow.mk (show L'.map Fm.c = L.map Fm.c by rw [hQ.same, List.take_length])
        have HLN := Stow.mk hQ.len
        clear hQ HCQ
        have q0 := HX.out.cell (i := 0) rfl
        have q1 := HX.out.cell (i := 1) rfl
        have s0 := HR.out.free 0
        have s1 := HR.out.free 1
        have r0 := HR.out.cell (i := 0) rfl
        have r1 := HR.out.cell (i := 1) rfl
        have hO1 : Only (w.heap.size + 1) wr (World.setCell wr ⟨w.heap.size + 1, 0, none⟩ (.slice (some ⟨g, 0, none⟩) L.length c1)) := Only.set _ _ 0 _
        have hO2 : Only (w.heap.size + 1) (World.setCell wr ⟨w.heap.size + 1, 0, none⟩ (.slice (some ⟨g, 0, none⟩) L.length c1)) ((World.setCell wr ⟨w.heap.size + 1, 0, none⟩ (.slice (some ⟨g, 0, none⟩) L.length c1)).setCell ⟨w.heap.size + 1, 1, none⟩ (.int .i64 hops)) := Only.set _ _ 1 _
        have hO := hO1.trans hO2
        have HN := Stow.mk ((HR.out.set 0 (.slice (some ⟨g, 0, none⟩) L.length c1)).set 1 (.int .i64 hops))
        have HW2 := Stow.mk (HW.out.only hO hsz1)
        have HB2 := Stow.mk (HB.out.trans (hO.below (Nat.le_succ _) HB.out.size))
        clear hO1 hO2 hO HW HX HR
        go_wp2_with fail
        refine bodyPost_ret (flcp_results _ (w.heap.size + 1) (.slice (some ⟨g, 0, none⟩) L.length c1) hops _ HN.out rfl) rfl ?_
        exact ⟨(some ⟨g, 0, none⟩), c1, L', rfl, HSA.out, HW2.out.low (by omega), HB2.out⟩
end Go.Proofs.Ythbpcdoddcacdaa
