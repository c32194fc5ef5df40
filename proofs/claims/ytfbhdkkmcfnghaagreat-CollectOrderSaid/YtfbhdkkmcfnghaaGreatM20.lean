/- Traces in memory: what stands where; walks of slices.IndexFunc and Clone at traces and spans, store.find, own. Conditions: a slice's own; lists not longer than a thousand.; Walks of store.find, own. Conditions: a slice's own; lists not longer than a thousand.; Walk of store.copied. Conditions: a slice's own; lists not longer than a thousand. -/
import Derived.Test.YtfbhdkkmcfnghaaGreatM02
import Derived.Test.YtfbhdkkmcfnghaaGreatM07
import Derived.Test.YtfbhdkkmcfnghaaGreatM08
import Derived.Test.YtfbhdkkmcfnghaaGreatM19
import Derived.Lib.Hide

section
namespace Go.Proofs.YtfbhdkkmcfnghaaGreat
open Go.RowKit
set_option linter.unusedVariables false

/-- A trace with where its spans lie. -/
structure Km where
  k : Kp
  A : Option Addr
  cap : Nat
def Km.cells (m : Km) : List Value := [.int .u64 (m.k.hi : Int), .int .u64 (m.k.lo : Int), .slice m.A m.k.L.length m.cap, .bool m.k.x, .bool m.k.c]
def Km.val (m : Km) : Value := .agg #[.int .u64 (m.k.hi : Int), .int .u64 (m.k.lo : Int), .slice m.A m.k.L.length m.cap, .bool m.k.x, .bool m.k.c]
theorem Km.cells_len (m : Km) : m.cells.length = 5 := rfl
theorem Km.one (m : Km) : ∀ u ∈ m.cells, u.oneCell' = true := by
  intro u hu
  simp [Km.cells] at hu
  rcases hu with rfl | rfl | rfl | rfl | rfl <;> rfl
theorem Sp.one (s : Sp) : ∀ u ∈ s.cells, u.oneCell' = true := by
  intro u hu
  simp [Sp.cells] at hu
  rcases hu with rfl | rfl | rfl | rfl | rfl | rfl | rfl | rfl | rfl | rfl | rfl <;> rfl
def KmR (w : World) (m : Km) : Prop := SlR w 11 (.slice m.A m.k.L.length m.cap) (m.k.L.map Sp.cells)
theorem KmR.keep {w w' : World} {m : Km} (h : KmR w m) (hb : Below w.heap.size w w') : KmR w' m := SlR.keep h hb
/-- A list of traces that can be read. -/
structure KsR (w : World) (A : Option Addr) (cap : Nat) (R : List Km) : Prop where
  row : SlR w 5 (.slice A R.length cap) (R.map Km.cells)
  each : ∀ m ∈ R, KmR w m
theorem KsR.keep {w w' : World} {A : Option Addr} {cap : Nat} {R : List Km} (h : KsR w A cap R) (hb : Below w.heap.size w w') : KsR w' A cap R := ⟨h.row.keep hb, fun m hm => (h.each m hm).keep hb⟩
theorem km_at {w : World} {b off n cap k : Nat} {R : List Km} (h : SlR w 5 (.slice (some ⟨b, off, none⟩) n cap) (R.map Km.cells)) (hk : k < R.length) : b < w.heap.size ∧ w.rangeAt b (off + k * 5) R[k].cells := by
  obtain ⟨hb, hc⟩ := h.cells (i := k) (x := R[k].cells) (by rw [List.getElem?_map, List.getElem?_eq_getElem hk]; rfl)
  exact ⟨hb, fun j v hj => hc j v hj⟩
theorem sp_at {w : World} {b off n cap k : Nat} {L : List Sp} (h : SlR w 11 (.slice (some ⟨b, off, none⟩) n cap) (L.map Sp.cells)) (hk : k < L.length) : b < w.heap.size ∧ w.rangeAt b (off + k * 11) L[k].cells := by
  obtain ⟨hb, hc⟩ := h.cells (i := k) (x := L[k].cells) (by rw [List.getElem?_map, List.getElem?_eq_getElem hk]; rfl)
  exact ⟨hb, fun j v hj => hc j v hj⟩
theorem info_kept : (Tryz.prog.info? 40).map (fun i => (i.zero, i.size, i.bytes)) = some (some (.agg #[.int .u64 0, .int .u64 0, .slice none 0 0, .bool false, .bool false]), 5, 48) := by kernel_rfl
theorem info_spn : (Tryz.prog.info? 64).map (fun i => (i.zero, i.size, i.bytes)) = some (some (.agg #[.int .u64 0, .int .u64 0, .int .u64 0, .int .u64 0, .string ByteArray.empty, .int .i64 0, .int .i64 0, .int .i64 0, .bool false, .int .i64 0, .int .i64 0]), 11, 96) := by kernel_rfl
theorem ite_ok (p : Prop) [Decidable p] (b : Bool) (w : World) : (if p then Result.ok b w else Result.ok false w) = Result.ok (decide p && b) w := by
  by_cases h : p <;> simp [h]
theorem eql_tr (a b c d : Nat) (w : World) : (Op.equalIn 10000 25 (.agg #[.int .u64 a, .int .u64 b]) (.agg #[.int .u64 c, .int .u64 d])).run Tryz.prog w = .ok (a == c && b == d) w := by
  have hu := Tryz.underlying23
  simp [go_sem, Tryz.underlying25]
  simp only [ite_ok, Bool.and_true]
  refine congrArg (fun b => Result.ok b w) ?_
  rw [Bool.eq_iff_iff]
  simp [Int.natCast_inj]
theorem eql_sp (a b : Sp) (w : World) : (Op.equalIn 10000 64 a.val b.val).run Tryz.prog w = .ok (Sp.eq a b) w := by
  have hu := Tryz.underlying23
  have hj := Tryz.underlying3
  have hs := Tryz.underlying9
  have hb := Tryz.underlying4
  simp [go_sem, Sp.val, Sp.eq, Tryz.underlying64, Tryz.underlying25]
  simp only [ite_ok, Bool.and_true]
  refine congrArg (fun b => Result.ok b w) ?_
  rw [Bool.eq_iff_iff]
  simp [Int.natCast_inj, and_assoc]

set_option maxHeartbeats 1000000 in
set_option maxRecDepth 100000 in
theorem cloneS_any (L : List Sp) (A : Option Addr) (cap : Nat) (w : World) (hS : SlR w 11 (.slice A L.length cap) (L.map Sp.cells)) (hn : L.length ≤ 1000) :
    Calls Tryz.prog 104 #[.slice A L.length cap] w fun e w' => ∃ A' c', e = .returned (.slice A' L.length c') ∧ w'.ownsRow w.heap.size 64 11 (.slice A' L.length c') L.length (L.flatMap Sp.cells) ∧ Below w.heap.size w w' := by
  have q22 := fun (w : World) (a : Option Addr) (n c n' c' : Nat) => Lib.run_eql_slice_nil (P := Tryz.prog) w 38 64 a n c n' c' Tryz.underlying38
  rcases A with _ | ad
  · have hL := slr_none hS
    obtain rfl : L = [] := by simpa using hL
    clear hS
    go_enter Tryz.func104, Tryz.ntmps104
    go_wp2_with fail
    go_ret
    exact ⟨none, 0, rfl, World.ownsRow_nil _ _ _ _, Below.self _⟩
  · have HS := Stow.mk (hS.alloc (.cells #[] 64))
    clear hS
    have K : Stow ((∀ x ∈ L.map Sp.cells, x.length = 11) ∧ (∀ x ∈ L.map Sp.cells, ∀ u ∈ x, u.oneCell' = true) ∧ 0 + L.length ≤ maxLen ∧ (0 + L.length) * 96 ≤ 140737488355328) := ⟨fun x hx => by
      obtain ⟨y, _, rfl⟩ := List.mem_map.1 hx
      rfl, fun x hx u hu => by
      obtain ⟨y, _, rfl⟩ := List.mem_map.1 hx
      exact Sp.one y u hu, by unfold maxLen; omega, by omega⟩
    go_enter Tryz.func104, Tryz.ntmps104
    go_wp2_with (at_builtin; refine wpList_append_slr (World.ownsRow_made w #[] 0 (Nat.le_refl _) (Nat.zero_le _) (by simp)) (L.map Sp.cells) (some ad) L.length cap HS.out (fun h => by cases h) K.out.1 K.out.2.1 rfl (.tmp 5) (.tmp 6) 38 rfl Tryz.underlying38 info_spn rfl (by decide) rfl rfl K.out.2.2.1 K.out.2.2.2 (by simp) ?_; intro A4 c4 w4 h4 hg4 hb4)
    have HB := Stow.mk ((Below.alloc' (Below.self w) (.cells #[] 64)).trans hb4)
    rw [Nat.zero_add, List.nil_append, ← List.flatMap_def] at h4
    have H4 := Stow.mk h4
    clear hg4 hb4 h4
    go_ret
    exact ⟨A4, c4, rfl, H4.out, HB.out⟩
set_option maxHeartbeats 1000000 in
set_option maxRecDepth 100000 in
theorem cloneK_any (L : List Km) (A : Option Addr) (cap : Nat) (w : World) (hS : SlR w 5 (.slice A L.length cap) (L.map Km.cells)) (hn : L.length ≤ 1000) :
    Calls Tryz.prog 131 #[.slice A L.length cap] w fun e w' => ∃ A' c', e = .returned (.slice A' L.length c') ∧ w'.ownsRow w.heap.size 40 5 (.slice A' L.length c') L.length (L.flatMap Km.cells) ∧ Below w.heap.size w w' := by
  have q22 := fun (w : World) (a : Option Addr) (n c n' c' : Nat) => Lib.run_eql_slice_nil (P := Tryz.prog) w 30 40 a n c n' c' Tryz.underlying30
  rcases A with _ | ad
  · have hL := slr_none hS
    obtain rfl : L = [] := by simpa using hL
    clear hS
    go_enter Tryz.func131, Tryz.ntmps131
    go_wp2_with fail
    go_ret
    exact ⟨none, 0, rfl, World.ownsRow_nil _ _ _ _, Below.self _⟩
  · have HS := Stow.mk (hS.alloc (.cells #[] 40))
    clear hS
    have K : Stow ((∀ x ∈ L.map Km.cells, x.length = 5) ∧ (∀ x ∈ L.map Km.cells, ∀ u ∈ x, u.oneCell' = true) ∧ 0 + L.length ≤ maxLen ∧ (0 + L.length) * 48 ≤ 140737488355328) := ⟨fun x hx => by
      obtain ⟨y, _, rfl⟩ := List.mem_map.1 hx
      rfl, fun x hx u hu => by
      obtain ⟨y, _, rfl⟩ := List.mem_map.1 hx
      exact Km.one y u hu, by unfold maxLen; omega, by omega⟩
    go_enter Tryz.func131, Tryz.ntmps131
    go_wp2_with (at_builtin; refine wpList_append_slr (World.ownsRow_made w #[] 0 (Nat.le_refl _) (Nat.zero_le _) (by simp)) (L.map Km.cells) (some ad) L.length cap HS.out (fun h => by cases h) K.out.1 K.out.2.1 rfl (.tmp 5) (.tmp 6) 30 rfl Tryz.underlying30 info_kept rfl (by decide) rfl rfl K.out.2.2.1 K.out.2.2.2 (by simp) ?_; intro A4 c4 w4 h4 hg4 hb4)
    have HB := Stow.mk ((Below.alloc' (Below.self w) (.cells #[] 40)).trans hb4)
    rw [Nat.zero_add, List.nil_append, ← List.flatMap_def] at h4
    have H4 := Stow.mk h4
    clear hg4 hb4 h4
    go_ret
    exact ⟨A4, c4, rfl, H4.out, HB.out⟩

set_option maxHeartbeats 2000000 in
set_option maxRecDepth 100000 in
theorem indexS_any (K : Nat) (caps : Array Value) (hcf : ∀ (args : Array Value) (w : World), (callFunc K args).run Tryz.prog w = .ok (.enter K args) w) (p : Sp → Bool) (A : Option Addr) (cap : Nat) (L : List Sp) (w : World)
    (hf : ∀ W s, Below w.heap.size w W → s ∈ L → Calls Tryz.prog K (#[.agg (Sp.cells s).toArray] ++ caps) W fun e w' => e = .returned (.bool (p s)) ∧ Below W.heap.size W w') (hS : SlR w 11 (.slice A L.length cap) (L.map Sp.cells)) (hn : L.length ≤ 1000000) :
    Calls Tryz.prog 132 #[.slice A L.length cap, .func (.func K) #[] caps] w fun e w' => e = .returned (.int .i64 (St.ixInt (L.findIdx? p))) ∧ Below w.heap.size w w' := by
  have HS := Stow.mk hS
  have HF := Stow.mk hf
  clear hS hf
  go_enter Tryz.func132, Tryz.ntmps132
  go_wp2_with fail
  go_loopw [5, 8] (fun _ u wr => ∃ i : Nat, u = .int .i64 (i : Int) ∧ i ≤ L.length ∧ Stow (∀ j (hj : j < L.length), j < i → p L[j] = false) ∧ Stow (Below w.heap.size w wr)) (fun _ u _ => L.length - (intOf u).toNat)
  case atStart => exact ⟨0, rfl, by omega, ⟨fun j _ h => by omega⟩, ⟨Below.self _⟩⟩
  case round =>
    obtain ⟨i, rfl, hi, HN, HBR⟩ := hrel
    by_cases hlt : i < L.length
    · obtain ⟨b, off, rfl, hblt, _⟩ := HS.out.open (by simp; omega)
      have HRA := Stow.mk (sp_at (HS.out.keep HBR.out) hlt).2
      obtain ⟨s, hs⟩ : ∃ s, L[i] = s := ⟨_, rfl⟩
      have hsL : s ∈ L := hs ▸ List.getElem_mem hlt
      rw [hs] at HRA
      have hii : (i : Int) < L.length := by omega
      have hi0 : (0 : Int) ≤ i := by omega
      have KF := HF.out wr s HBR.out hsL
      obtain ⟨r, hr⟩ : ∃ r, p s = r := ⟨_, rfl⟩
      rw [hr] at KF
      have HKF := Stow.mk KF
      have HPS : Stow (p (L[i]'hlt) = r) := ⟨by rw [hs]; exact hr⟩
      clear KF hr hs hsL
      cases r
      · go_wp2_with (refine wpList_load_mid rfl 64 (.tmp 14) rfl b (off + i * 11) rfl (Sp.cells s) _ HRA.out Tryz.underlying64 rfl (by rw [Sp.cells_len]; kernel_rfl) ?_)
        refine HKF.out.mono ?_
        rintro e w1 ⟨rfl, hb1⟩
        have HB1 := Stow.mk (HBR.out.trans (hb1.mono HBR.out.size))
        clear hb1
        go_wp2_with fail
        exact ⟨⟨i + 1, rfl, by omega, ⟨fun j hj hji => by
          by_cases h : j < i
          · exact HN.out j hj h
          · obtain rfl : j = i := by omega
            exact HPS.out⟩, HB1⟩, by simp [intOf]; omega⟩
      · have HE : Stow (L.findIdx? p = some i) := ⟨St.find_some hlt HPS.out fun j hj => HN.out j (by omega) hj⟩
        go_wp2_with (refine wpList_load_mid rfl 64 (.tmp 14) rfl b (off + i * 11) rfl (Sp.cells s) _ HRA.out Tryz.underlying64 rfl (by rw [Sp.cells_len]; kernel_rfl) ?_)
        refine HKF.out.mono ?_
        rintro e w1 ⟨rfl, hb1⟩
        have HB1 := Stow.mk (HBR.out.trans (hb1.mono HBR.out.size))
        clear hb1
        go_wp2_with fail
        go_ret
        exact ⟨by rw [HE.out]; rfl, HB1.out⟩
    · obtain rfl : i = L.length := by omega
      have hni : ¬ (L.length : Int) < L.length := by omega
      have HE : Stow (L.findIdx? p = none) := ⟨St.find_none fun j hj => HN.out j hj hj⟩
      go_wp2_with fail
      go_ret
      exact ⟨by rw [HE.out]; rfl, HBR.out⟩
set_option maxHeartbeats 2000000 in
set_option maxRecDepth 100000 in
theorem indexK_any (K : Nat) (caps : Array Value) (hcf : ∀ (args : Array Value) (w : World), (callFunc K args).run Tryz.prog w = .ok (.enter K args) w) (p : Km → Bool) (A : Option Addr) (cap : Nat) (L : List Km) (w : World)
    (hf : ∀ W s, Below w.heap.size w W → s ∈ L → Calls Tryz.prog K (#[.agg (Km.cells s).toArray] ++ caps) W fun e w' => e = .returned (.bool (p s)) ∧ Below W.heap.size W w') (hS : SlR w 5 (.slice A L.length cap) (L.map Km.cells)) (hn : L.length ≤ 1000000) :
    Calls Tryz.prog 102 #[.slice A L.length cap, .func (.func K) #[] caps] w fun e w' => e = .returned (.int .i64 (St.ixInt (L.findIdx? p))) ∧ Below w.heap.size w w' := by
  have HS := Stow.mk hS
  have HF := Stow.mk hf
  clear hS hf
  go_enter Tryz.func102, Tryz.ntmps102
  go_wp2_with fail
  go_loopw [5, 8] (fun _ u wr => ∃ i : Nat, u = .int .i64 (i : Int) ∧ i ≤ L.length ∧ Stow (∀ j (hj : j < L.length), j < i → p L[j] = false) ∧ Stow (Below w.heap.size w wr)) (fun _ u _ => L.length - (intOf u).toNat)
  case atStart => exact ⟨0, rfl, by omega, ⟨fun j _ h => by omega⟩, ⟨Below.self _⟩⟩
  case round =>
    obtain ⟨i, rfl, hi, HN, HBR⟩ := hrel
    by_cases hlt : i < L.length
    · obtain ⟨b, off, rfl, hblt, _⟩ := HS.out.open (by simp; omega)
      have HRA := Stow.mk (km_at (HS.out.keep HBR.out) hlt).2
      obtain ⟨s, hs⟩ : ∃ s, L[i] = s := ⟨_, rfl⟩
      have hsL : s ∈ L := hs ▸ List.getElem_mem hlt
      rw [hs] at HRA
      have hii : (i : Int) < L.length := by omega
      have hi0 : (0 : Int) ≤ i := by omega
      have KF := HF.out wr s HBR.out hsL
      obtain ⟨r, hr⟩ : ∃ r, p s = r := ⟨_, rfl⟩
      rw [hr] at KF
      have HKF := Stow.mk KF
      have HPS : Stow (p (L[i]'hlt) = r) := ⟨by rw [hs]; exact hr⟩
      clear KF hr hs hsL
      cases r
      · go_wp2_with (refine wpList_load_mid rfl 40 (.tmp 14) rfl b (off + i * 5) rfl (Km.cells s) _ HRA.out Tryz.underlying40 rfl (by rw [Km.cells_len]; kernel_rfl) ?_)
        refine HKF.out.mono ?_
        rintro e w1 ⟨rfl, hb1⟩
        have HB1 := Stow.mk (HBR.out.trans (hb1.mono HBR.out.size))
        clear hb1
        go_wp2_with fail
        exact ⟨⟨i + 1, rfl, by omega, ⟨fun j hj hji => by
          by_cases h : j < i
          · exact HN.out j hj h
          · obtain rfl : j = i := by omega
            exact HPS.out⟩, HB1⟩, by simp [intOf]; omega⟩
      · have HE : Stow (L.findIdx? p = some i) := ⟨St.find_some hlt HPS.out fun j hj => HN.out j (by omega) hj⟩
        go_wp2_with (refine wpList_load_mid rfl 40 (.tmp 14) rfl b (off + i * 5) rfl (Km.cells s) _ HRA.out Tryz.underlying40 rfl (by rw [Km.cells_len]; kernel_rfl) ?_)
        refine HKF.out.mono ?_
        rintro e w1 ⟨rfl, hb1⟩
        have HB1 := Stow.mk (HBR.out.trans (hb1.mono HBR.out.size))
        clear hb1
        go_wp2_with fail
        go_ret
        exact ⟨by rw [HE.out]; rfl, HB1.out⟩
    · obtain rfl : i = L.length := by omega
      have hni : ¬ (L.length : Int) < L.length := by omega
      have HE : Stow (L.findIdx? p = none) := ⟨St.find_none fun j hj => HN.out j hj hj⟩
      go_wp2_with fail
      go_ret
      exact ⟨by rw [HE.out]; rfl, HBR.out⟩
end Go.Proofs.YtfbhdkkmcfnghaaGreat
end

section
namespace Go.Proofs.YtfbhdkkmcfnghaaGreat
open Go.RowKit
set_option linter.unusedVariables false

set_option maxHeartbeats 1000000 in
set_option maxRecDepth 100000 in
theorem stFindB_any (hi lo g : Nat) (m : Km) (w : World) (hH : Held w g [.int .u64 (hi : Int), .int .u64 (lo : Int)]) :
    Calls Tryz.prog 103 #[.agg m.cells.toArray, .pointer (some ⟨g, 0, none⟩)] w fun e w' => e = .returned (.bool (St.is_ hi lo m.k)) ∧ Below w.heap.size w w' := by
  have ba := Below.alloc' (Below.self w) (.cells m.cells.toArray 40)
  have hk := Held.made w m.cells 40
  have hg := hH.kept ba
  obtain ⟨W, hW⟩ : ∃ W, w.alloc (.cells m.cells.toArray 40) = W := ⟨_, rfl⟩
  rw [hW] at ba hk hg
  have c0 := hk.cell (i := 0) rfl
  have c1 := hk.cell (i := 1) rfl
  have d0 := hg.cell (i := 0) rfl
  have d1 := hg.cell (i := 1) rfl
  have HB := Stow.mk ba
  have HW := Stow.mk hW
  have he := eql_tr m.k.hi m.k.lo hi lo
  obtain ⟨⟨mh, ml, mL, mx, mc⟩, mA, mcap⟩ := m
  unfold Km.cells at HW ⊢
  unfold St.is_
  simp only at he c0 c1 HW ⊢
  obtain ⟨r, hr⟩ : ∃ r, (mh == hi && ml == lo) = r := ⟨_, rfl⟩
  rw [hr] at he ⊢
  clear hk hg hH ba hW hr
  go_enter Tryz.func103, Tryz.ntmps103
  go_upto_region 1 with fail
  generalize hX : World.alloc w _ = X
  obtain rfl : W = X := HW.out.symm.trans hX
  clear hX HW
  go_wp2_with fail
  go_ret
  exact ⟨by first | rfl | simp, HB.out⟩
set_option maxHeartbeats 1000000 in
set_option maxRecDepth 100000 in
theorem stFind_any (hi lo : Nat) (A : Option Addr) (cap : Nat) (R : List Km) (w : World) (hS : SlR w 5 (.slice A R.length cap) (R.map Km.cells)) (hn : R.length ≤ 1000) :
    Calls Tryz.prog 64 #[.slice A R.length cap, .agg #[.int .u64 (hi : Int), .int .u64 (lo : Int)]] w fun e w' => e = .returned (.int .i64 (St.ixInt (St.at_ (R.map Km.k) hi lo))) ∧ Below w.heap.size w w' := by
  have hcf := enters_of Tryz.func103 (by kernel_rfl) rfl
  have HC := Stow.mk hcf; clear hcf
  have hmf : ∀ (fn : Fn) (first cap : Array Value) (w : World), (Instr.makeFunc fn first cap).run Tryz.prog w = .ok (.func fn first cap) w := fun _ _ _ _ => rfl
  have ba := Below.alloc' (Below.self w) (.cells #[.int .u64 (hi : Int), .int .u64 (lo : Int)] 25)
  have hk := Held.made w [.int .u64 (hi : Int), .int .u64 (lo : Int)] 25
  have HS := Stow.mk (SlR.keep hS ba)
  obtain ⟨W, hW⟩ : ∃ W, w.alloc (.cells #[.int .u64 (hi : Int), .int .u64 (lo : Int)] 25) = W := ⟨_, rfl⟩
  rw [show w.alloc (.cells [.int .u64 (hi : Int), .int .u64 (lo : Int)].toArray 25) = W from hW] at hk
  rw [hW] at ba HS
  have HB := Stow.mk ba
  have HW := Stow.mk hW
  have HK := Stow.mk (indexK_any 103 #[.pointer (some ⟨w.heap.size, 0, none⟩)] HC.out (fun m => St.is_ hi lo m.k) A cap R W (fun W' m hb _ => stFindB_any hi lo w.heap.size m W' (hk.kept hb)) HS.out (by omega))
  have HE : Stow (St.at_ (R.map Km.k) hi lo = R.findIdx? (fun m => St.is_ hi lo m.k)) := ⟨by unfold St.at_; rw [List.findIdx?_map]; rfl⟩
  clear ba hk hW hS
  go_enter Tryz.func64, Tryz.ntmps64
  go_upto_region 1 with fail
  generalize hX : World.alloc w _ = X
  obtain rfl : W = X := HW.out.symm.trans hX
  clear hX HW
  go_wp2_with fail
  refine HK.out.mono ?_
  rintro e w1 ⟨rfl, hb1⟩
  have HB1 := Stow.mk (HB.out.trans (hb1.mono HB.out.size))
  clear hb1
  go_wp2_with fail
  go_ret
  exact ⟨by rw [HE.out]; rfl, HB1.out⟩
theorem stOwn_results (W : World) (g : Nat) (a b c d e : Value) (tmps : Array Value) (hH : Held W g [a, b, c, d, e]) (h2 : tmps[2]?.getD undef = .pointer (some ⟨g, 0, none⟩)) :
    (results Tryz.f65 tmps).run Tryz.prog W = .ok (.agg #[a, b, c, d, e]) W := by
  have c0 := hH.cell (i := 0) rfl
  have c1 := hH.cell (i := 1) rfl
  have c2 := hH.cell (i := 2) rfl
  have c3 := hH.cell (i := 3) rfl
  have c4 := hH.cell (i := 4) rfl
  simp [results, Tryz.results65, go_sem, h2, c0, c1, c2, c3, c4]
/-- A trace whose spans are its own. -/
def KmO (w : World) (B : Nat) (m : Km) : Prop := w.ownsRow B 64 11 (.slice m.A m.k.L.length m.cap) m.k.L.length (m.k.L.flatMap Sp.cells)
theorem KmO.read {w : World} {B : Nat} {m : Km} (h : KmO w B m) : KmR w m := by
  refine SlR.of_own h (by simp) ?_
  rw [List.flatMap_def]
  exact flat_at (fun x hx => by obtain ⟨y, _, rfl⟩ := List.mem_map.1 hx; rfl)
theorem KmO.keep {w w' : World} {B : Nat} {m : Km} (h : KmO w B m) (hb : Below w.heap.size w w') : KmO w' B m := own_kept h hb
theorem KmO.low {w : World} {B B' : Nat} {m : Km} (h : KmO w B' m) (hb : B ≤ B') : KmO w B m := World.ownsRow.mono h hb
set_option maxHeartbeats 2000000 in
set_option maxRecDepth 100000 in
theorem stOwn_any (m : Km) (w : World) (hR : KmR w m) (hn : m.k.L.length ≤ 1000) :
    Calls Tryz.prog 65 #[.agg m.cells.toArray] w fun e w' => ∃ m' : Km, e = .returned (.agg m'.cells.toArray) ∧ m'.k = m.k ∧ KmO w' w.heap.size m' ∧ Below w.heap.size w w' := by
  obtain ⟨⟨mh, ml, mL, mx, mc⟩, mA, mcap⟩ := m
  unfold KmR at hR
  simp only at hR hn
  have ba := Below.alloc' (Below.self w) (.cells #[.int .u64 (mh : Int), .int .u64 (ml : Int), .slice mA mL.length mcap, .bool mx, .bool mc] 40)
  have bz := Below.alloc' (Below.self (w.alloc (.cells #[.int .u64 (mh : Int), .int .u64 (ml : Int), .slice mA mL.length mcap, .bool mx, .bool mc] 40))) (.cells #[.int .u64 0, .int .u64 0, .slice none 0 0, .bool false, .bool false] 40)
  have h1 := (Held.made w [.int .u64 (mh : Int), .int .u64 (ml : Int), .slice mA mL.length mcap, .bool mx, .bool mc] 40).kept bz
  have h2 := Held.made (w.alloc (.cells #[.int .u64 (mh : Int), .int .u64 (ml : Int), .slice mA mL.length mcap, .bool mx, .bool mc] 40)) [.int .u64 0, .int .u64 0, .slice none 0 0, .bool false, .bool false] 40
  have hb := Below.call ba bz
  obtain ⟨W, hW⟩ : ∃ W, (w.alloc (.cells #[.int .u64 (mh : Int), .int .u64 (ml : Int), .slice mA mL.length mcap, .bool mx, .bool mc] 40)).alloc (.cells #[.int .u64 0, .int .u64 0, .slice none 0 0, .bool false, .bool false] 40) = W := ⟨_, rfl⟩
  rw [show (w.alloc (.cells #[.int .u64 (mh : Int), .int .u64 (ml : Int), .slice mA mL.length mcap, .bool mx, .bool mc] 40)).alloc (.cells [.int .u64 0, .int .u64 0, .slice none 0 0, .bool false, .bool false].toArray 40) = W from hW] at h2
  rw [show (w.alloc (.cells [.int .u64 (mh : Int), .int .u64 (ml : Int), .slice mA mL.length mcap, .bool mx, .bool mc].toArray 40)).alloc (.cells #[.int .u64 0, .int .u64 0, .slice none 0 0, .bool false, .bool false] 40) = W from hW] at h1
  rw [hW] at hb
  simp only [World.size_alloc] at h2
  have hsz : W.heap.size = w.heap.size + 1 + 1 := by rw [← hW]; simp
  have H1 := Stow.mk h1
  have H2 := Stow.mk h2
  have HB := Stow.mk hb
  have HW := Stow.mk hW
  have HC := Stow.mk (cloneS_any mL mA mcap W (hR.keep hb) hn)
  have HSZ := Stow.mk hsz
  have c2 := H1.out.cell (i := 2) rfl
  clear ba bz h1 h2 hb hW hR hsz
  unfold Km.cells
  simp only
  go_enter Tryz.func65, Tryz.ntmps65
  go_upto_region 1 with fail
  generalize hX : World.alloc (World.alloc w _) _ = X
  obtain rfl : W = X := HW.out.symm.trans hX
  clear hX HW
  go_wp2_with fail
  refine HC.out.mono ?_
  rintro e w1 ⟨A1, c1, rfl, hO1, hb1⟩
  have hz := HSZ.out
  have hs1 := hb1.size
  have f2 := (H1.out.kept hb1).free 2
  have d2 := (H1.out.kept hb1).cell (i := 2) rfl
  clear c2
  have H1 := Stow.mk ((H1.out.kept hb1).set 2 (.slice A1 mL.length c1))
  have hOn : Only w.heap.size w1 (w1.setCell ⟨w.heap.size, 2, none⟩ (.slice A1 mL.length c1)) := Only.set _ _ 2 _
  have H2 := Stow.mk ((H2.out.kept hb1).offO hOn (by omega))
  have HB := Stow.mk ((HB.out.trans (hb1.mono HB.out.size)).trans (hOn.below (Nat.le_refl _) (Nat.le_trans HB.out.size hb1.size)))
  have HO := Stow.mk (own_undr hO1 hOn (by omega))
  have hs2 := hOn.size
  go_upto_region 2 with fail
  obtain ⟨W2, hW2⟩ : ∃ W, w1.setCell ⟨w.heap.size, 2, none⟩ (.slice A1 mL.length c1) = W := ⟨_, rfl⟩
  rw [hW2] at H1 H2 HB HO hs2
  rw [hW2]
  clear hW2 hOn f2 d2 hO1 hb1
  have HRA := Stow.mk H1.out.range
  have H2T := Stow.mk H2.out.there
  have hO2 : Only (w.heap.size + 1) W2 (W2.setCells (w.heap.size + 1) 0 [.int .u64 (mh : Int), .int .u64 (ml : Int), .slice A1 mL.length c1, .bool mx, .bool mc]) := only_all _ _ _
  have H2 := Stow.mk (H2.out.over [.int .u64 (mh : Int), .int .u64 (ml : Int), .slice A1 mL.length c1, .bool mx, .bool mc] rfl)
  have HO := Stow.mk (own_undr HO.out hO2 (by omega))
  have HB := Stow.mk (HB.out.trans (hO2.below (Nat.le_succ _) HB.out.size))
  go_wp2_with (first
    | (refine wpList_load_mid rfl 40 (.tmp 1) rfl w.heap.size 0 rfl [.int .u64 (mh : Int), .int .u64 (ml : Int), .slice A1 mL.length c1, .bool mx, .bool mc] _ HRA.out Tryz.underlying40 rfl (by kernel_rfl) ?_)
    | (refine wpList_store_hx rfl 40 (.tmp 2) (.tmp 7) rfl rfl (w.heap.size + 1) 0 [.int .u64 (mh : Int), .int .u64 (ml : Int), .slice A1 mL.length c1, .bool mx, .bool mc] rfl rfl H2T.out (by kernel_rfl) (by intro u hu; simp at hu; rcases hu with rfl | rfl | rfl | rfl | rfl <;> rfl) ?_))
  refine bodyPost_ret (stOwn_results _ (w.heap.size + 1) _ _ _ _ _ _ H2.out rfl) rfl ?_
  exact ⟨⟨⟨mh, ml, mL, mx, mc⟩, A1, c1⟩, rfl, rfl, World.ownsRow.mono HO.out (by omega), HB.out⟩
end Go.Proofs.YtfbhdkkmcfnghaaGreat
end

section
namespace Go.Proofs.YtfbhdkkmcfnghaaGreat
open Go.RowKit
set_option linter.unusedVariables false

theorem own_other {w w' : World} {B : Nat} {e : TypeId} {size n cap g : Nat} {A : Option Addr} {xs : List Value} (h : w.ownsRow B e size (.slice A n cap) n xs) (ho : Only g w w') (hne : ∀ a, A = some a → a.block ≠ g) : w'.ownsRow B e size (.slice A n cap) n xs := by
  refine World.ownsRow.kept h ho ?_
  rcases A with _ | a
  · exact .inl rfl
  · right
    intro e
    exact hne a rfl (by simpa [Value.ownBlock] using e)
theorem own_block {w : World} {B : Nat} {e : TypeId} {size n cap : Nat} {A : Option Addr} {xs : List Value} (h : w.ownsRow B e size (.slice A n cap) n xs) : ∀ a, A = some a → B ≤ a.block ∧ a.block < w.heap.size := fun a hA => by
  subst hA
  exact World.ownsRow.lt h a.block rfl
def kz : List Value := [.int .u64 0, .int .u64 0, .slice none 0 0, .bool false, .bool false]
/-- Traces whose rows are their own, apart from each other. -/
structure KO (w : World) (B : Nat) (A : Option Addr) (cap : Nat) (R : List Km) : Prop where
  row : w.ownsRow B 40 5 (.slice A R.length cap) R.length (R.flatMap Km.cells)
  each : ∀ m ∈ R, KmO w B m
  off : ∀ m ∈ R, ∀ a b, A = some a → m.A = some b → b.block ≠ a.block
  apart : R.Pairwise fun m m' => ∀ a b, m.A = some a → m'.A = some b → a.block ≠ b.block
theorem KO.read {w : World} {B : Nat} {A : Option Addr} {cap : Nat} {R : List Km} (h : KO w B A cap R) : KsR w A cap R := ⟨own_of_cells (fun _ => rfl) h.row rfl, fun m hm => (h.each m hm).read⟩
theorem KO.keep {w w' : World} {B : Nat} {A : Option Addr} {cap : Nat} {R : List Km} (h : KO w B A cap R) (hb : Below w.heap.size w w') : KO w' B A cap R := ⟨own_kept h.row hb, fun m hm => (h.each m hm).keep hb, h.off, h.apart⟩
theorem KO.low {w : World} {B B' : Nat} {A : Option Addr} {cap : Nat} {R : List Km} (h : KO w B' A cap R) (hb : B ≤ B') : KO w B A cap R := ⟨World.ownsRow.mono h.row hb, fun m hm => (h.each m hm).low hb, h.off, h.apart⟩
theorem km_flat_len : ∀ R : List Km, (R.flatMap Km.cells).length = R.length * 5
  | [] => rfl
  | x :: t => by rw [List.flatMap_cons, List.length_append, km_flat_len t, Km.cells_len, List.length_cons, Nat.succ_mul]; omega
/-- One trace of a row is written over. -/
theorem own_putKm {w : World} {B g n cap : Nat} {Q R : List Km} {x y : Km} (h : w.ownsRow B 40 5 (.slice (some ⟨g, 0, none⟩) n cap) n ((Q ++ x :: R).flatMap Km.cells)) :
    (w.setCells g (Q.length * 5) y.cells).ownsRow B 40 5 (.slice (some ⟨g, 0, none⟩) n cap) n ((Q ++ y :: R).flatMap Km.cells) := by
  have h1 := own_putAll y.cells w (Q.length * 5) _ h
  have e1 : (Q ++ x :: R).flatMap Km.cells = Q.flatMap Km.cells ++ (x.cells ++ R.flatMap Km.cells) := by rw [List.flatMap_append, List.flatMap_cons]
  have e2 : (Q ++ y :: R).flatMap Km.cells = Q.flatMap Km.cells ++ (y.cells ++ R.flatMap Km.cells) := by rw [List.flatMap_append, List.flatMap_cons]
  have h2 := putL_mid y.cells (Q.flatMap Km.cells) x.cells (R.flatMap Km.cells) rfl
  rw [km_flat_len] at h2
  rw [e1, h2, ← e2] at h1
  exact h1
/-- The copying, j traces on. -/
structure CpK (w : World) (B g n cap : Nat) (R Q : List Km) (j : Nat) : Prop where
  len : Q.length = j
  same : Q.map Km.k = (R.take j).map Km.k
  own : w.ownsRow B 40 5 (.slice (some ⟨g, 0, none⟩) n cap) n ((Q ++ R.drop j).flatMap Km.cells)
  each : ∀ m ∈ Q, KmO w B m
  off : ∀ m ∈ Q, ∀ b, m.A = some b → b.block ≠ g
  apart : Q.Pairwise fun m m' => ∀ a b, m.A = some a → m'.A = some b → a.block ≠ b.block
theorem CpK.keep {w w' : World} {B g n cap j : Nat} {R Q : List Km} (h : CpK w B g n cap R Q j) (hb : Below w.heap.size w w') : CpK w' B g n cap R Q j :=
  ⟨h.len, h.same, own_kept h.own hb, fun x hx => (h.each x hx).keep hb, h.off, h.apart⟩
theorem CpK.next {w w1 : World} {B g n cap j : Nat} {R Q : List Km} {y : Km} (h : CpK w B g n cap R Q j) (hj : j < R.length) (hy : y.k = R[j].k) (hb : Below w.heap.size w w1) (hO : KmO w1 w.heap.size y) (hB : B ≤ w.heap.size) (hg : g < w.heap.size) :
    CpK (w1.setCells g (j * 5) y.cells) B g n cap R (Q ++ [y]) (j + 1) := by
  have ho : Only g w1 (w1.setCells g (j * 5) y.cells) := only_all _ _ _
  have hyb := own_block hO
  refine ⟨by simp [h.len], ?_, ?_, ?_, ?_, ?_⟩
  · rw [List.map_append, h.same, List.take_succ_eq_append_getElem hj, List.map_append]
    simp [hy]
  · have h1 := own_kept h.own hb
    rw [List.drop_eq_getElem_cons hj] at h1
    have h2 := own_putKm (y := y) h1
    rw [h.len] at h2
    rw [List.append_assoc]
    exact h2
  · intro x hx
    rcases List.mem_append.1 hx with hx | hx
    · exact own_other ((h.each x hx).keep hb) ho (h.off x hx)
    · obtain rfl : x = y := by simpa using hx
      exact own_other (hO.low hB) ho fun a ha => by have := (hyb a ha).1; omega
  · intro x hx b hb'
    rcases List.mem_append.1 hx with hx | hx
    · exact h.off x hx b hb'
    · obtain rfl : x = y := by simpa using hx
      have := (hyb b hb').1
      omega
  · refine List.pairwise_append.2 ⟨h.apart, by simp, fun m hm m' hm' a b ha hb' => ?_⟩
    obtain rfl : m' = y := by simpa using hm'
    have h1 := (own_block (h.each m hm) a ha).2
    have h2 := (hyb b hb').1
    omega
set_option maxHeartbeats 2000000 in
set_option maxRecDepth 100000 in
theorem stCopied_any (A : Option Addr) (cap : Nat) (R : List Km) (w : World) (h : KsR w A cap R) (hn : R.length ≤ 1000) (hs : ∀ m ∈ R, m.k.L.length ≤ 1000) :
    Calls Tryz.prog 91 #[.slice A R.length cap] w fun e w' => ∃ A' cap' R', e = .returned (.slice A' R.length cap') ∧ R'.map Km.k = R.map Km.k ∧ KO w' w.heap.size A' cap' R' ∧ Below w.heap.size w w' := by
  have HF := Stow.mk h
  have HSM := Stow.mk hs
  have HC := Stow.mk (cloneK_any R A cap w h.row hn)
  clear h hs
  go_enter Tryz.func91, Tryz.ntmps91
  go_wp2_with fail
  refine HC.out.mono ?_
  rintro e w1 ⟨A1, c1, rfl, hO1, hb1⟩
  have HB := Stow.mk hb1
  have HO1 := Stow.mk hO1
  have hlen0 : (R.length : Int) ≤ 1000 := by omega
  clear hb1 HC hO1
  by_cases hL0 : R = []
  · have hni : ¬ (0 : Int) < R.length := by rw [hL0]; simp
    have HW := Stow.mk (show ∃ R', R'.map Km.k = R.map Km.k ∧ KO w1 w.heap.size A1 c1 R' from ⟨R, rfl, HO1.out, (fun x hx => by rw [hL0] at hx; cases hx), (fun x hx => by rw [hL0] at hx; cases hx), by rw [hL0]; exact List.Pairwise.nil⟩)
    clear hL0
    go_wp2_with fail
    go_loopw [10] (fun v wr => v = .int .i64 0 ∧ wr = w1) (fun _ _ => 0)
    case atStart => exact ⟨rfl, rfl⟩
    case round =>
      obtain ⟨rfl, rfl⟩ := hrel
      go_wp2_with fail
      go_ret
      obtain ⟨R', h1, h2⟩ := HW.out
      exact ⟨A1, c1, R', rfl, h1, h2, HB.out⟩
  · obtain ⟨g, c1', hform, hge, hlt⟩ := World.ownsRow.form HO1.out (by rcases R with _ | ⟨y, t⟩; exact absurd rfl hL0; simp)
    simp only [Value.slice.injEq, true_and] at hform
    obtain ⟨rfl, rfl⟩ := hform
    have HCP := Stow.mk (show CpK w1 w.heap.size g R.length c1 R [] 0 from ⟨rfl, rfl, HO1.out, (fun x hx => by cases hx), (fun x hx => by cases hx), List.Pairwise.nil⟩)
    clear HO1
    go_wp2_with fail
    go_loopw [4, 5, 10] (fun _ _ v wr => ∃ j : Nat, v = .int .i64 (j : Int) ∧ j ≤ R.length ∧ Stow (∃ Q, CpK wr w.heap.size g R.length c1 R Q j) ∧ Stow (Below w.heap.size w wr) ∧ g < wr.heap.size) (fun _ _ v _ => R.length - (intOf v).toNat)
    case atStart => exact ⟨0, rfl, by omega, ⟨[], HCP.out⟩, HB, hlt⟩
    case round =>
      obtain ⟨j, rfl, hj, HCQ, HBR, hglt⟩ := hrel
      clear HB HCP
      have HB := HBR
      by_cases hjl : j < R.length
      · obtain ⟨Q, hQ⟩ := HCQ.out
        have hjQ : j < (Q ++ R.drop j).length := by simp [hQ.len]; omega
        obtain ⟨hgl, hra⟩ := km_at (own_of_cells (fun _ => rfl) hQ.own (by simp [hQ.len]; omega)) hjQ
        have hel : (Q ++ R.drop j)[j] = R[j] := by
          rw [List.getElem_append_right (by rw [hQ.len]; exact Nat.le_refl _)]
          simp [hQ.len]
        rw [hel, Nat.zero_add] at hra
        have HFM := Stow.mk ((HF.out.each _ (List.getElem_mem hjl)).keep HB.out)
        have hsm := HSM.out _ (List.getElem_mem hjl)
        obtain ⟨y, hy⟩ : ∃ y, R[j] = y := ⟨_, rfl⟩
        rw [hy] at hra HFM hsm
        have HYJ := Stow.mk (congrArg Km.k hy)
        have HQ := Stow.mk hQ
        have HRA := Stow.mk hra
        have HSY := Stow.mk hsm
        have hji : (j : Int) < R.length := by omega
        have hj0 : (0 : Int) ≤ j := by omega
        clear hQ hjQ hel hra hsm hy HCQ hgl
        have ba := Below.alloc' (Below.self wr) (.cells kz.toArray 40)
        have hZ := Held.made wr kz 40
        have HZT := Stow.mk (show (wr.alloc (.cells kz.toArray 40)).there wr.heap.size 0 y.cells.length from hZ.there)
        have HYH := Stow.mk (hZ.over y.cells rfl)
        have hbx : Below wr.heap.size wr ((wr.alloc (.cells kz.toArray 40)).setCells wr.heap.size 0 y.cells) := ba.trans ((only_all y.cells _ 0).below (Nat.le_refl _) ba.size)
        obtain ⟨W2, hW2⟩ : ∃ W, (wr.alloc (.cells kz.toArray 40)).setCells wr.heap.size 0 y.cells = W := ⟨_, rfl⟩
        rw [hW2] at HYH hbx
        have HW2 := Stow.mk hW2
        have HBX := Stow.mk hbx
        clear ba hZ hbx hW2
        go_upto_region 5 with (first
          | (refine wpList_load_mid rfl 40 (.tmp 13) rfl g (j * 5) rfl y.cells _ HRA.out Tryz.underlying40 rfl (by rw [Km.cells_len]; kernel_rfl) ?_)
          | (refine wpList_store_hx rfl 40 (.tmp 5) (.tmp 14) rfl rfl wr.heap.size 0 y.cells rfl rfl HZT.out (by rw [Km.cells_len]; kernel_rfl) (Km.one y) ?_))
        generalize hW : World.setCells _ _ _ _ = W3
        obtain rfl : W2 = W3 := HW2.out.symm.trans hW
        clear hW HW2 HZT HRA
        have HQ := Stow.mk (HQ.out.keep HBX.out)
        have HFM := Stow.mk (HFM.out.keep HBX.out)
        have HB := Stow.mk (HB.out.trans (HBX.out.mono HB.out.size))
        have HC := Stow.mk (stOwn_any y W2 HFM.out HSY.out)
        have HYG := Stow.mk HYH.out.range
        have hbs := HBX.out.size
        go_wp2_with (refine wpList_load_mid rfl 40 (.tmp 5) rfl wr.heap.size 0 rfl y.cells _ HYG.out Tryz.underlying40 rfl (by rw [Km.cells_len]; kernel_rfl) ?_)
        refine HC.out.mono ?_
        rintro e w4 ⟨m4, rfl, hk4, hO4, hb4⟩
        have hB2 := HB.out.size
        have hs4 := hb4.size
        have HQ4 := Stow.mk (HQ.out.next (y := m4) hjl (hk4.trans HYJ.out.symm) hb4 hO4 hB2 (by omega))
        have HTH := Stow.mk (show w4.there g (j * 5) m4.cells.length from own_there (own_kept HQ.out.own hb4) hjl)
        have hO : Only g w4 (w4.setCells g (j * 5) m4.cells) := only_all _ _ _
        have HB := Stow.mk ((HB.out.trans (hb4.mono HB.out.size)).trans (hO.below hge (Nat.le_trans HB.out.size hb4.size)))
        have hs5 := hO.size
        clear hb4 hO4 hO
        obtain ⟨W5, hW5⟩ : ∃ W, w4.setCells g (j * 5) m4.cells = W := ⟨_, rfl⟩
        rw [hW5] at HQ4 HB hs5
        have HW5 := Stow.mk hW5
        clear hW5
        go_upto_region 6 with (refine wpList_store_hx rfl 40 (.tmp 19) (.tmp 18) rfl rfl g (j * 5) m4.cells rfl rfl HTH.out (by rw [Km.cells_len]; kernel_rfl) (Km.one _) ?_)
        generalize hX : World.setCells _ _ _ _ = X
        obtain rfl : W5 = X := HW5.out.symm.trans hX
        clear hX HW5 HTH HYG HYH HC HFM
        have HNX : Stow (∃ Q, CpK W5 w.heap.size g R.length c1 R Q (j + 1)) := ⟨_, HQ4.out⟩
        clear HQ4 HQ
        go_wp2_with fail
        exact ⟨⟨j + 1, rfl, by omega, HNX, HB, by omega⟩, by simp [intOf]; omega⟩
      · obtain rfl : j = R.length := by omega
        have hni : ¬ ((R.length : Int) < R.length) := by omega
        go_wp2_with fail
        go_ret
        obtain ⟨R', hQ⟩ := HCQ.out
        have h1 : R'.map Km.k = R.map Km.k := by rw [hQ.same, List.take_length]
        have h2 : KO wr w.heap.size (some ⟨g, 0, none⟩) c1 R' := ⟨by rw [hQ.len]; simpa using hQ.own, hQ.each, fun m hm a b e hb => by cases e; exact hQ.off m hm b hb, hQ.apart⟩
        first
          | exact ⟨_, c1, rfl, R', h1, h2, HB.out⟩
          | exact ⟨_, c1, rfl, ⟨R', h1, h2⟩, HB.out⟩
          | exact ⟨_, c1, R', rfl, h1, h2, HB.out⟩
end Go.Proofs.YtfbhdkkmcfnghaaGreat
end
