/- Walk of the reference's New. No condition. -/
import Derived.Test.YthbpcdoddcacdaaBkWith
namespace Go.Proofs.Ythbpcdoddcacdaa
open Go.RowKit
set_option linter.unusedVariables false

theorem rfnew_results (W : World) (g : Nat) (x z : Int) (v : Value) (tmps : Array Value) (hH : Held W g [.int .i64 x, v, .int .i64 z])
    (h2 : tmps[2]?.getD undef = .pointer (some ⟨g, 0, none⟩)) :
    (results Try.f48 tmps).run Try.prog W = .ok (.agg #[.int .i64 x, v, .int .i64 z]) W := by
  have c0 := hH.cell (i := 0) rfl
  have c1 := hH.cell (i := 1) rfl
  have c2 := hH.cell (i := 2) rfl
  simp [results, Try.results48, go_sem, h2, c0, c1, c2]
theorem info_entries : (Try.prog.info? 85).map (fun i => (i.zero, i.size, i.bytes)) = some (some (.slice none 0 0), 1, 24) := by kernel_rfl
theorem own_under {w w' : World} {B : Nat} {e : TypeId} {size n : Nat} {v : Value} {xs : List Value} (h : w.ownsRow B e size v n xs) {g : Nat} (ho : Only g w w') (hg : g < B) : w'.ownsRow B e size v n xs := by
  refine World.ownsRow.kept h ho ?_
  cases hv : v.ownBlock with
  | none => exact .inl rfl
  | some k =>
    right
    have := (World.ownsRow.lt h k hv).1
    intro e; cases e; omega
theorem Held.under' {w w' : World} {g B : Nat} {cs : List Value} (h : Held w g cs) (hb : Below B w w') (hg : g < B) : Held w' g cs := by
  obtain ⟨t, h⟩ := h
  exact ⟨t, (hb.block g hg).trans h⟩
theorem Held.off {w w' : World} {g ga : Nat} {cs : List Value} (h : Held w g cs) (ho : Only ga w w') (hne : g ≠ ga) : Held w' g cs := by
  have := h.lt
  obtain ⟨t, h⟩ := h
  exact ⟨t, (ho.block g this (by simpa using hne)).trans h⟩
abbrev OwE (w : World) (B : Nat) (A : Option Addr) (cap : Nat) (rows : List Value) : Prop := w.ownsRow B 85 1 (.slice A rows.length cap) rows.length rows
theorem OwE.read {w : World} {B : Nat} {A : Option Addr} {cap : Nat} {rows : List Value} (h : OwE w B A cap rows) : SlR w 1 (.slice A rows.length cap) (rows.map fun v => [v]) := by
  refine SlR.of_own h (by simp) ?_
  intro i x hx j u hu
  rw [List.getElem?_map] at hx
  rcases j with _ | j
  · cases hr : rows[i]? with
    | none => rw [hr] at hx; simp at hx
    | some y => rw [hr] at hx; simp at hx; subst hx; simp at hu; subst hu; simpa using hr
  · cases hr : rows[i]? with
    | none => rw [hr] at hx; simp at hx
    | some y => rw [hr] at hx; simp at hx; subst hx; simp at hu

set_option maxHeartbeats 2000000 in
set_option maxRecDepth 100000 in
theorem refNew_any (n : Int) (w : World) :
    Calls Try.prog 48 #[.int .i64 n] w fun e w' => ∃ A cap rows, e = .returned (rfv A cap (Bk.new n)) ∧ RfR w' A cap rows (Bk.new n) ∧ RfN (fun b => w.heap.size ≤ b ∧ b < w'.heap.size) A rows ∧ Below w.heap.size w w' := by
  obtain ⟨k, hk⟩ : ∃ k, (Bk.new n).nodes = k := ⟨_, rfl⟩
  have hkv : (k : Int) = max 0 (min n 8) := by rw [← hk]; unfold Bk.new; dsimp only; omega
  have HK := Stow.mk hk
  clear hk
  have h0 := Held.made w [.int .i64 0, .slice none 0 0, .int .i64 0] 73
  have hb0 : Below w.heap.size w ((w.alloc (.cells #[.int .i64 0, .slice none 0 0, .int .i64 0] 73)).alloc (.cells #[.int .i64 (k : Nat), .slice none 0 0, .int .i64 0] 73)) := Below.alloc' (Below.alloc' (Below.self w) _) _
  have HB := Stow.mk hb0
  have HR := Stow.mk (h0.kept (Below.alloc' (Below.self _) (.cells #[.int .i64 (k : Nat), .slice none 0 0, .int .i64 0] 73)))
  have HX := Stow.mk (Held.made (w.alloc (.cells #[.int .i64 0, .slice none 0 0, .int .i64 0] 73)) [.int .i64 (k : Nat), .slice none 0 0, .int .i64 0] 73)
  clear h0 hb0
  have hmx : max (0 : Int) (min n 8) = (k : Int) := hkv.symm
  have hk8 : k ≤ 8 := by omega
  have e1 : IntKind.i64.wrap (2 * (k : Int)) = ((2 * k : Nat) : Int) := by rw [IntWalk.i64_in _ (by omega)]; simp
  clear hkv
  obtain ⟨W0, hW0⟩ : ∃ W, (w.alloc (.cells #[.int .i64 0, .slice none 0 0, .int .i64 0] 73)).alloc (.cells #[.int .i64 (k : Nat), .slice none 0 0, .int .i64 0] 73) = W := ⟨_, rfl⟩
  have hsz : W0.heap.size = w.heap.size + 1 + 1 := by rw [← hW0]; simp
  rw [hW0] at HB HR HX
  simp only [World.size_alloc] at HX
  have HW0 := Stow.mk hW0
  clear hW0
  go_enter Try.func48, Try.ntmps48
  go_wp2_with fail
  rw [HW0.out]
  clear HW0
  go_loopw [4] (fun u wr => ∃ (j : Nat) (Ao : Option Addr) (co : Nat), u = .int .i64 (j : Int) ∧ j ≤ 2 * k ∧ Stow (Held wr w.heap.size [.int .i64 0, .slice none 0 0, .int .i64 0]) ∧ Stow (Held wr (w.heap.size + 1) [.int .i64 (k : Nat), .slice Ao j co, .int .i64 0]) ∧ Stow (wr.ownsRow W0.heap.size 85 1 (.slice Ao j co) j (List.replicate j (.slice none 0 0))) ∧ Stow (Below w.heap.size w wr) ∧ W0.heap.size ≤ wr.heap.size) (fun u _ => 2 * k - (intOf u).toNat)
  case atStart => exact ⟨0, none, 0, rfl, by omega, HR, HX, ⟨World.ownsRow_nil _ _ _ _⟩, HB, Nat.le_refl _⟩
  case round =>
    obtain ⟨j, Ao, co, rfl, hj, HRR, HXX, HO, HBR, hge⟩ := hrel
    have q1 := HXX.out.cell (i := 1) rfl
    have f1 := HXX.out.free 1
    have q0 := HXX.out.cell (i := 0) rfl
    have q2 := HXX.out.cell (i := 2) rfl
    have hsz1 : w.heap.size + 1 < W0.heap.size := by omega
    have hsz0 : w.heap.size < W0.heap.size := by omega
    by_cases hlt : j < 2 * k
    · have K8 : Stow ((j + 1) * 24 ≤ 140737488355328 ∧ j + 1 ≤ maxLen ∧ (∀ u ∈ ([.slice none 0 0] : List Value), u.oneCell' = true)) := ⟨by omega, by unfold maxLen; omega, by intro u hu; simp at hu; subst hu; rfl⟩
      have hji : (j : Int) < ((2 * k : Nat) : Int) := by omega
      have hji2 : (j : Int) < 2 * (k : Int) := by omega
      go_wp2_with (at_builtin; refine wpList_append_elem_form wr [.slice none 0 0] _ rfl (.tmp 17) (.tmp 18) 71 rfl W0.heap.size 85 _ 1 24 Try.underlying71 info_entries _ _ _ HO.out rfl _ rfl rfl rfl (by decide) rfl K8.out.2.2 K8.out.1 K8.out.2.1 hge ?_; intro A4 c4 w4 h4 hg4 hb4 hs4; have HX4 := Stow.mk (HXX.out.under' hb4 hsz1); have p1 := HX4.out.cell (i := 1) rfl; have g1 := HX4.out.free 1)
      have hO : Only (w.heap.size + 1) w4 (w4.setCell ⟨w.heap.size + 1, 1, none⟩ (.slice A4 (j + 1) c4)) := Only.set _ _ 1 _
      have hB4 : Below w.heap.size w (w4.setCell ⟨w.heap.size + 1, 1, none⟩ (.slice A4 (j + 1) c4)) := (HBR.out.trans (hb4.mono (by omega))).setCell (p := ⟨w.heap.size + 1, 1, none⟩) (Nat.le_succ _) _
      exact ⟨⟨j + 1, A4, c4, rfl, by omega, ⟨(HRR.out.under' hb4 hsz0).off hO (by omega)⟩, ⟨HX4.out.set 1 _⟩, ⟨by rw [List.replicate_succ']; exact own_under h4 hO hsz1⟩, ⟨hB4⟩, by have := hO.size; omega⟩, by simp [intOf]; omega⟩
    · obtain rfl : j = 2 * k := by omega
      have hni : ¬ ((2 * k : Nat) : Int) < 2 * (k : Int) := by omega
      have r0 := HRR.out.cell (i := 0) rfl
      have r1 := HRR.out.cell (i := 1) rfl
      have r2 := HRR.out.cell (i := 2) rfl
      have s0 := HRR.out.free 0
      have s1 := HRR.out.free 1
      have s2 := HRR.out.free 2
      have HN := Stow.mk (((HRR.out.set 0 (.int .i64 (k : Nat))).set 1 (.slice Ao (2 * k) co)).set 2 (.int .i64 0))
      have hO1 : Only w.heap.size wr (wr.setCell ⟨w.heap.size, 0, none⟩ (.int .i64 (k : Nat))) := Only.set _ _ 0 _
      have hO2 : Only w.heap.size (wr.setCell ⟨w.heap.size, 0, none⟩ (.int .i64 (k : Nat))) ((wr.setCell ⟨w.heap.size, 0, none⟩ (.int .i64 (k : Nat))).setCell ⟨w.heap.size, 1, none⟩ (.slice Ao (2 * k) co)) := Only.set _ _ 1 _
      have hO3 : Only w.heap.size ((wr.setCell ⟨w.heap.size, 0, none⟩ (.int .i64 (k : Nat))).setCell ⟨w.heap.size, 1, none⟩ (.slice Ao (2 * k) co)) (((wr.setCell ⟨w.heap.size, 0, none⟩ (.int .i64 (k : Nat))).setCell ⟨w.heap.size, 1, none⟩ (.slice Ao (2 * k) co)).setCell ⟨w.heap.size, 2, none⟩ (.int .i64 0)) := Only.set _ _ 2 _
      have HOW := Stow.mk (own_under (own_under (own_under HO.out hO1 hsz0) hO2 hsz0) hO3 hsz0)
      have HBW := Stow.mk (((HBR.out.setCell (p := ⟨w.heap.size, 0, none⟩) (Nat.le_refl _) (.int .i64 (k : Nat))).setCell (p := ⟨w.heap.size, 1, none⟩) (Nat.le_refl _) (.slice Ao (2 * k) co)).setCell (p := ⟨w.heap.size, 2, none⟩) (Nat.le_refl _) (.int .i64 0))
      clear hO1 hO2 hO3 HO HBR HRR HXX
      go_wp2_with fail
      refine bodyPost_ret (rfnew_results _ w.heap.size k 0 (.slice Ao (2 * k) co) _ HN.out rfl) rfl ⟨Ao, co, ?_, List.replicate (2 * k) (.slice none 0 0), ?_, ⟨fun ad h => ?_, fun v hv ad n c e => by rw [(List.mem_replicate.1 hv).2] at e; cases e⟩, HBW.out⟩
      · show _ = Ending.returned (.agg #[.int .i64 ((Bk.new n).nodes : Nat), .slice Ao (2 * (Bk.new n).nodes) co, .int .i64 ((Bk.new n).lost : Nat)])
        rw [HK.out]
        rfl
      · refine ⟨by rw [HK.out]; simp, ?_, fun i hi => ?_, by rw [HK.out]; exact hk8⟩
        · rw [HK.out]
          have := OwE.read (rows := List.replicate (2 * k) (.slice none 0 0)) (A := Ao) (cap := co) (B := W0.heap.size) (by unfold OwE; rw [List.length_replicate]; exact HOW.out)
          rw [List.length_replicate] at this
          exact this
        · rw [HK.out] at hi
          exact ⟨none, 0, by rw [List.getElem?_replicate, if_pos hi]; rfl, SlR.nil _ _⟩
      · subst h
        have := World.ownsRow.lt HOW.out ad.block rfl
        exact ⟨by omega, this.2⟩
end Go.Proofs.Ythbpcdoddcacdaa
