/- Walk of the reference's Put. Conditions: the books' memory. -/
import Derived.Test.YthbpcdoddcacdaaBkRefNew
import Derived.Test.YthbpcdoddcacdaaApp
import Derived.Deep.AppendLies
namespace Go.Proofs.Ythbpcdoddcacdaa
open Go.RowKit
set_option linter.unusedVariables false

theorem rfput_results (W : World) (g : Nat) (x z : Int) (v : Value) (b : Bool) (tmps : Array Value) (hH : Held W g [.int .i64 x, v, .int .i64 z])
    (h10 : tmps[10]?.getD undef = .pointer (some ⟨g, 0, none⟩)) (h11 : tmps[11]?.getD undef = .bool b) :
    (results Try.f49 tmps).run Try.prog W = .ok (.tuple #[.agg #[.int .i64 x, v, .int .i64 z], .bool b]) W := by
  have c0 := hH.cell (i := 0) rfl
  have c1 := hH.cell (i := 1) rfl
  have c2 := hH.cell (i := 2) rfl
  simp [results, Try.results49, go_sem, h10, h11, c0, c1, c2]
theorem flat_one : ∀ rows : List Value, (rows.map fun v => [v]).flatten = rows
  | [] => rfl
  | v :: r => by rw [List.map_cons, List.flatten_cons, flat_one r]; rfl
theorem Bk.put_no {S : Bk.St} {n : Int} {s : Bool} {k v : Bk.Tx} (h : ¬ (0 ≤ n ∧ n < S.nodes)) : S.put n s k v = (S, false) := by unfold Bk.St.put; rw [if_neg h]

theorem RfR.put {w W : World} {A : Option Addr} {cap : Nat} {rows : List Value} {S : Bk.St} (h : RfR w A cap rows S) {m : Nat} {s : Bool} {i : Nat} (hi2 : i < 2 * S.nodes) (hI : i / 2 = m ∧ decide (i % 2 = 1) = s) (hb : Below w.heap.size w W) {L' : Bk.Bd} {A4 A5 : Option Addr} {c4 c5 B : Nat}
    (hrow : W.ownsRow B 85 1 (.slice A4 (2 * S.nodes) c4) (2 * S.nodes) (rows.set i (.slice A5 L'.length c5))) (hE : EnR W A5 c5 L') :
    RfR W A4 c4 (rows.set i (.slice A5 L'.length c5)) { S with bk := fun n' s' => if n' = m ∧ s' = s then L' else S.bk n' s' } := by
  have hlen : (rows.set i (.slice A5 L'.length c5)).length = 2 * S.nodes := by rw [List.length_set, h.len]
  refine ⟨hlen, ?_, fun j hj => ?_, h.nodes⟩
  · have := OwE.read (w := W) (B := B) (A := A4) (cap := c4) (rows := rows.set i (.slice A5 L'.length c5)) (by unfold OwE; rw [hlen]; exact hrow)
    rw [hlen] at this
    exact this
  · dsimp only at hj ⊢
    by_cases hji : j = i
    · subst hji
      rw [if_pos hI]
      exact ⟨A5, c5, by rw [List.getElem?_set_self (by rw [h.len]; exact hj)], hE⟩
    · rw [if_neg (by
        rintro ⟨h1, h2⟩
        apply hji
        have h3 : (j % 2 = 1) ↔ (i % 2 = 1) := by
          rw [← hI.2] at h2
          simpa using h2
        have h4 := hI.1
        omega)]
      obtain ⟨A', c', h1, h2⟩ := h.each j hj
      exact ⟨A', c', by rw [List.getElem?_set_ne (Ne.symm hji)]; exact h1, h2.keep hb⟩

set_option maxHeartbeats 4000000 in
set_option maxRecDepth 100000 in
theorem refPut_any (w : World) (A : Option Addr) (cap : Nat) (rows : List Value) (S : Bk.St) (n : Int) (s : Bool) (k v : Bk.Tx) (h : RfR w A cap rows S) (hok : S.Ok) :
    Calls Try.prog 49 #[rfv A cap S, .int .i64 n, .bool s, .string (bs k), .string (bs v)] w fun e w' => ∃ A' cap' rows', e = .returned (.tuple #[rfv A' cap' (S.put n s k v).1, .bool (S.put n s k v).2]) ∧ RfR w' A' cap' rows' (S.put n s k v).1 ∧ (∀ N, RfN N A rows → RfN (fun b => N b ∨ (w.heap.size ≤ b ∧ b < w'.heap.size)) A' rows') ∧ Below w.heap.size w w' := by
  have h0 := Held.made w [.int .i64 (S.nodes : Nat), .slice A (2 * S.nodes) cap, .int .i64 (S.lost : Nat)] 73
  have hb0 : Below w.heap.size w ((w.alloc (.cells #[.int .i64 (S.nodes : Nat), .slice A (2 * S.nodes) cap, .int .i64 (S.lost : Nat)] 73)).alloc (.cells #[.int .i64 0, .slice none 0 0, .int .i64 0] 73)) := Below.alloc' (Below.alloc' (Below.self w) _) _
  have HB := Stow.mk hb0
  have HX := Stow.mk (h0.kept (Below.alloc' (Below.self _) (.cells #[.int .i64 0, .slice none 0 0, .int .i64 0] 73)))
  have HR := Stow.mk (Held.made (w.alloc (.cells #[.int .i64 (S.nodes : Nat), .slice A (2 * S.nodes) cap, .int .i64 (S.lost : Nat)] 73)) [.int .i64 0, .slice none 0 0, .int .i64 0] 73)
  have HH := Stow.mk h
  have HOK := Stow.mk hok
  clear h0 hb0 h hok
  obtain ⟨W0, hW0⟩ : ∃ W, (w.alloc (.cells #[.int .i64 (S.nodes : Nat), .slice A (2 * S.nodes) cap, .int .i64 (S.lost : Nat)] 73)).alloc (.cells #[.int .i64 0, .slice none 0 0, .int .i64 0] 73) = W := ⟨_, rfl⟩
  have hsz : W0.heap.size = w.heap.size + 1 + 1 := by rw [← hW0]; simp
  rw [hW0] at HB HX HR
  simp only [World.size_alloc] at HR
  have HW0 := Stow.mk hW0
  clear hW0
  have HA := Stow.mk (refAt_any S.nodes (.slice A (2 * S.nodes) cap) (.int .i64 (S.lost : Nat)) n s W0 HH.out.nodes)
  have hm := (Bk.Ok.of1 HOK.out n s)
  by_cases hn : 0 ≤ n ∧ n < S.nodes
  · obtain ⟨m, rfl⟩ : ∃ m : Nat, n = m := ⟨n.toNat, by omega⟩
    have hk : m < S.nodes := by omega
    have hof : S.of (m : Int) s = S.bk m s := by unfold Bk.St.of; rw [if_pos hn]; rfl
    rw [Bk.at_yes hk] at HA
    have HG := fun W (hb : Below w.heap.size w W) => refGet_any W A cap rows S (m : Int) s k (HH.out.keep hb) HOK.out
    rw [hof] at HG hm
    have HPF := Stow.mk (fun h1 h2 => Bk.put_full (S := S) (n := m) (s := s) (k := k) (v := v) hk h1 h2)
    have HPY := Stow.mk (fun h1 => Bk.put_yes (S := S) (n := m) (s := s) (k := k) (v := v) hk h1)
    have hlo := HOK.out.lost
    have hN8 := HH.out.nodes
    obtain ⟨i, hi⟩ : ∃ i, (if s then 2 * m + 1 else 2 * m : Nat) = i := ⟨_, rfl⟩
    rw [hi] at HA
    have hi2 : i < 2 * S.nodes := by rw [← hi]; split <;> omega
    obtain ⟨A', c', hrow, hE⟩ := HH.out.each i hi2
    have e1 : i / 2 = m := by rw [← hi]; split <;> omega
    have e2 : decide (i % 2 = 1) = s := by
      rw [← hi]
      cases s
      · simp
      · simp
    have HI := Stow.mk (And.intro e1 e2)
    rw [e1, e2] at hrow hE
    obtain ⟨L, hL⟩ : ∃ L, S.bk m s = L := ⟨_, rfl⟩
    have HL := Stow.mk hL
    rw [hL] at HG hm HPF HPY hrow hE
    obtain ⟨got, hgot⟩ : ∃ x, (Bk.get L k).getD [] = x := ⟨_, rfl⟩
    obtain ⟨r, hr⟩ : ∃ x, Bk.has L k = x := ⟨_, rfl⟩
    rw [hgot, hr] at HG
    rw [hr] at HPF HPY
    have HG := Stow.mk HG
    have HM := Stow.mk hm
    have h16 := hm.1
    have HE := Stow.mk hE
    have HROW := Stow.mk hrow
    obtain ⟨b, off, rfl, hblt, _⟩ := HH.out.row.open (by simp only [List.length_map, HH.out.len]; omega)
    have HC : Stow (∀ W, Below w.heap.size w W → W.cell? ⟨b, off + i, none⟩ = some (.slice A' L.length c')) := ⟨fun W hW => by
      have hc := ((HH.out.keep hW).row.cells (i := i) (x := [.slice A' L.length c']) (by rw [List.getElem?_map, hrow]; rfl)).2 0 _ rfl
      simp only [Nat.add_zero, Nat.mul_one] at hc
      exact hc⟩
    have hii : (i : Int) < 2 * (S.nodes : Int) := by omega
    have hi3 : (i : Int) < ((2 * S.nodes : Nat) : Int) := by omega
    have hi0 : (0 : Int) ≤ i := by omega
    have d0 : decide ((i : Int) < 0) = false := by simp
    have HSL := Stow.mk (fun W (hW : Below w.heap.size w W) => (HH.out.keep hW).row)
    have HON : Stow ((∀ x ∈ rows.map (fun v => [v]), x.length = 1) ∧ ∀ x ∈ rows.map (fun v => [v]), ∀ u ∈ x, u.oneCell' = true) := ⟨fun x hx => by
      obtain ⟨y, _, rfl⟩ := List.mem_map.1 hx
      rfl, fun x hx u hu => by
      obtain ⟨y, hy, rfl⟩ := List.mem_map.1 hx
      obtain rfl : u = y := by simpa using hu
      obtain ⟨j, hj, rfl⟩ := List.getElem_of_mem hy
      obtain ⟨A2, c2, h2, _⟩ := HH.out.each j (by rw [← HH.out.len]; exact hj)
      rw [List.getElem?_eq_getElem hj] at h2
      have h3 := Option.some.inj h2
      show (rows[j]).oneCell' = true
      rw [h3]
      rfl⟩
    have K8 : Stow (0 + 2 * S.nodes ≤ maxLen ∧ (0 + 2 * S.nodes) * 24 ≤ 140737488355328) := ⟨by unfold maxLen; omega, by omega⟩
    clear hrow hE hi e1 e2 hof hn hm hL hgot hr
    go_enter Try.func49, Try.ntmps49
    go_upto_region 1 with fail
    rw [HW0.out]
    clear HW0
    have q0 := HX.out.cell (i := 0) rfl
    have q1 := HX.out.cell (i := 1) rfl
    have q2 := HX.out.cell (i := 2) rfl
    go_wp2_with fail
    refine HA.out.mono ?_
    rintro e w1 ⟨rfl, hb1⟩
    have HX := Stow.mk (HX.out.kept hb1)
    have HR := Stow.mk (HR.out.kept hb1)
    have HB := Stow.mk (HB.out.trans (hb1.mono HB.out.size))
    have hs1 := hb1.size
    clear hb1 HA q0 q1 q2
    have q0 := HX.out.cell (i := 0) rfl
    have q1 := HX.out.cell (i := 1) rfl
    have q2 := HX.out.cell (i := 2) rfl
    go_wp2_with fail
    refine (HG.out _ HB.out).mono ?_
    rintro e w2 ⟨rfl, hb2⟩
    have HX := Stow.mk (HX.out.kept hb2)
    have HR := Stow.mk (HR.out.kept hb2)
    have HB := Stow.mk (HB.out.trans (hb2.mono HB.out.size))
    have hs2 := hb2.size
    clear hb2 HG q0 q1 q2
    have q0 := HX.out.cell (i := 0) rfl
    have q1 := HX.out.cell (i := 1) rfl
    have q2 := HX.out.cell (i := 2) rfl
    have f2 := HX.out.free 2
    have c0 := HC.out _ HB.out
    by_cases hfull : r = false ∧ 16 ≤ L.length
    · obtain ⟨rfl, h16'⟩ := hfull
      have HPF := Stow.mk (HPF.out rfl h16')
      have d1 : decide ((16 : Int) ≤ L.length) = true := by simp; omega
      have d1' : decide (16 ≤ L.length) = true := by simpa using h16'
      by_cases hm1 : S.lost < 1099511627776
      · obtain ⟨l1, hl1⟩ : ∃ l1, S.lost + 1 = l1 := ⟨_, rfl⟩
        have e1 : IntKind.i64.wrap ((S.lost : Int) + 1) = (l1 : Int) := by rw [IntWalk.i64_in _ (by omega)]; omega
        have HSQ : Stow (S.put m s k v = ({ S with lost := l1 }, false)) := ⟨by rw [HPF.out, ← hl1]; unfold Bk.bump; rw [if_pos hm1]⟩
        have e4 : min (l1 : Int) 1099511627776 = (l1 : Int) := Int.min_eq_left (by omega)
        clear hl1 hm1 hlo HPF
        have HX := Stow.mk (HX.out.set 2 (.int .i64 (l1 : Nat)))
        have hO0 : Only w.heap.size w2 (w2.setCell ⟨w.heap.size, 2, none⟩ (.int .i64 (l1 : Nat))) := Only.set _ _ 2 _
        have HR := Stow.mk (HR.out.off hO0 (by omega))
        clear hO0
        have HB := Stow.mk (HB.out.setCell (p := ⟨w.heap.size, 2, none⟩) (Nat.le_refl _) (.int .i64 (l1 : Nat)))
        go_upto_region 7 with fail
        obtain ⟨W3, hW3⟩ : ∃ W, w2.setCell ⟨w.heap.size, 2, none⟩ (.int .i64 (l1 : Nat)) = W := ⟨_, rfl⟩
        rw [hW3] at HX HR HB
        rw [hW3]
        clear hW3 q0 q1 q2 f2 c0
        have q0 := HX.out.cell (i := 0) rfl
        have q1 := HX.out.cell (i := 1) rfl
        have q2 := HX.out.cell (i := 2) rfl
        have r0 := HR.out.cell (i := 0) rfl
        have r1 := HR.out.cell (i := 1) rfl
        have r2 := HR.out.cell (i := 2) rfl
        have s0 := HR.out.free 0
        have s1 := HR.out.free 1
        have s2 := HR.out.free 2
        have z1 := HX.out.lt
        have HN := Stow.mk (((HR.out.set 0 (.int .i64 (S.nodes : Nat))).set 1 (.slice (some ⟨b, off, none⟩) (2 * S.nodes) cap)).set 2 (.int .i64 (l1 : Nat)))
        have hO1 : Only (w.heap.size + 1) W3 (World.setCell W3 ⟨w.heap.size + 1, 0, none⟩ (.int .i64 (S.nodes : Nat))) := Only.set _ _ 0 _
        have hO2 : Only (w.heap.size + 1) (World.setCell W3 ⟨w.heap.size + 1, 0, none⟩ (.int .i64 (S.nodes : Nat))) ((World.setCell W3 ⟨w.heap.size + 1, 0, none⟩ (.int .i64 (S.nodes : Nat))).setCell ⟨w.heap.size + 1, 1, none⟩ (.slice (some ⟨b, off, none⟩) (2 * S.nodes) cap)) := Only.set _ _ 1 _
        have hO3 : Only (w.heap.size + 1) ((World.setCell W3 ⟨w.heap.size + 1, 0, none⟩ (.int .i64 (S.nodes : Nat))).setCell ⟨w.heap.size + 1, 1, none⟩ (.slice (some ⟨b, off, none⟩) (2 * S.nodes) cap)) (((World.setCell W3 ⟨w.heap.size + 1, 0, none⟩ (.int .i64 (S.nodes : Nat))).setCell ⟨w.heap.size + 1, 1, none⟩ (.slice (some ⟨b, off, none⟩) (2 * S.nodes) cap)).setCell ⟨w.heap.size + 1, 2, none⟩ (.int .i64 (l1 : Nat))) := Only.set _ _ 2 _
        have HO3 := Stow.mk (And.intro hO1 (And.intro hO2 hO3))
        have HBW := Stow.mk (((HB.out.setCell (p := ⟨w.heap.size + 1, 0, none⟩) (Nat.le_succ _) (.int .i64 (S.nodes : Nat))).setCell (p := ⟨w.heap.size + 1, 1, none⟩) (Nat.le_succ _) (.slice (some ⟨b, off, none⟩) (2 * S.nodes) cap)).setCell (p := ⟨w.heap.size + 1, 2, none⟩) (Nat.le_succ _) (.int .i64 (l1 : Nat)))
        clear hO1 hO2 hO3 HX HR HB
        go_wp2_with fail
        refine bodyPost_ret (rfput_results _ (w.heap.size + 1) S.nodes l1 (.slice (some ⟨b, off, none⟩) (2 * S.nodes) cap) false _ HN.out rfl rfl) rfl ?_
        rw [HSQ.out]
        have hf := HH.out.keep HBW.out
        exact ⟨some ⟨b, off, none⟩, cap, rows, rfl, ⟨hf.len, hf.row, hf.each, hf.nodes⟩, fun N h => h.mono fun b hb => .inl hb, HBW.out⟩
      · have e1 : IntKind.i64.wrap ((S.lost : Int) + 1) = 1099511627777 := by rw [IntWalk.i64_in _ (by omega)]; omega
        obtain ⟨l1, hl1⟩ : ∃ l1, S.lost = l1 := ⟨_, rfl⟩
        have HSQ : Stow (S.put m s k v = ({ S with lost := l1 }, false)) := ⟨by rw [HPF.out, ← hl1]; unfold Bk.bump; rw [if_neg hm1]⟩
        have e4 : min (1099511627777 : Int) 1099511627776 = (l1 : Int) := by rw [Int.min_eq_right (by omega)]; omega
        clear hl1 hm1 hlo HPF
        have HX := Stow.mk (HX.out.set 2 (.int .i64 (l1 : Nat)))
        have hO0 : Only w.heap.size w2 (w2.setCell ⟨w.heap.size, 2, none⟩ (.int .i64 (l1 : Nat))) := Only.set _ _ 2 _
        have HR := Stow.mk (HR.out.off hO0 (by omega))
        clear hO0
        have HB := Stow.mk (HB.out.setCell (p := ⟨w.heap.size, 2, none⟩) (Nat.le_refl _) (.int .i64 (l1 : Nat)))
        go_upto_region 7 with fail
        obtain ⟨W3, hW3⟩ : ∃ W, w2.setCell ⟨w.heap.size, 2, none⟩ (.int .i64 (l1 : Nat)) = W := ⟨_, rfl⟩
        rw [hW3] at HX HR HB
        rw [hW3]
        clear hW3 q0 q1 q2 f2 c0
        have q0 := HX.out.cell (i := 0) rfl
        have q1 := HX.out.cell (i := 1) rfl
        have q2 := HX.out.cell (i := 2) rfl
        have r0 := HR.out.cell (i := 0) rfl
        have r1 := HR.out.cell (i := 1) rfl
        have r2 := HR.out.cell (i := 2) rfl
        have s0 := HR.out.free 0
        have s1 := HR.out.free 1
        have s2 := HR.out.free 2
        have z1 := HX.out.lt
        have HN := Stow.mk (((HR.out.set 0 (.int .i64 (S.nodes : Nat))).set 1 (.slice (some ⟨b, off, none⟩) (2 * S.nodes) cap)).set 2 (.int .i64 (l1 : Nat)))
        have hO1 : Only (w.heap.size + 1) W3 (World.setCell W3 ⟨w.heap.size + 1, 0, none⟩ (.int .i64 (S.nodes : Nat))) := Only.set _ _ 0 _
        have hO2 : Only (w.heap.size + 1) (World.setCell W3 ⟨w.heap.size + 1, 0, none⟩ (.int .i64 (S.nodes : Nat))) ((World.setCell W3 ⟨w.heap.size + 1, 0, none⟩ (.int .i64 (S.nodes : Nat))).setCell ⟨w.heap.size + 1, 1, none⟩ (.slice (some ⟨b, off, none⟩) (2 * S.nodes) cap)) := Only.set _ _ 1 _
        have hO3 : Only (w.heap.size + 1) ((World.setCell W3 ⟨w.heap.size + 1, 0, none⟩ (.int .i64 (S.nodes : Nat))).setCell ⟨w.heap.size + 1, 1, none⟩ (.slice (some ⟨b, off, none⟩) (2 * S.nodes) cap)) (((World.setCell W3 ⟨w.heap.size + 1, 0, none⟩ (.int .i64 (S.nodes : Nat))).setCell ⟨w.heap.size + 1, 1, none⟩ (.slice (some ⟨b, off, none⟩) (2 * S.nodes) cap)).setCell ⟨w.heap.size + 1, 2, none⟩ (.int .i64 (l1 : Nat))) := Only.set _ _ 2 _
        have HO3 := Stow.mk (And.intro hO1 (And.intro hO2 hO3))
        have HBW := Stow.mk (((HB.out.setCell (p := ⟨w.heap.size + 1, 0, none⟩) (Nat.le_succ _) (.int .i64 (S.nodes : Nat))).setCell (p := ⟨w.heap.size + 1, 1, none⟩) (Nat.le_succ _) (.slice (some ⟨b, off, none⟩) (2 * S.nodes) cap)).setCell (p := ⟨w.heap.size + 1, 2, none⟩) (Nat.le_succ _) (.int .i64 (l1 : Nat)))
        clear hO1 hO2 hO3 HX HR HB
        go_wp2_with fail
        refine bodyPost_ret (rfput_results _ (w.heap.size + 1) S.nodes l1 (.slice (some ⟨b, off, none⟩) (2 * S.nodes) cap) false _ HN.out rfl rfl) rfl ?_
        rw [HSQ.out]
        have hf := HH.out.keep HBW.out
        exact ⟨some ⟨b, off, none⟩, cap, rows, rfl, ⟨hf.len, hf.row, hf.each, hf.nodes⟩, fun N h => h.mono fun b hb => .inl hb, HBW.out⟩
    · have HPZ := Stow.mk (HPY.out hfull)
      clear HPY HPF
      cases r
      · have h16 : ¬ 16 ≤ L.length := fun h => hfull ⟨rfl, h⟩
        have d1 : decide ((16 : Int) ≤ L.length) = false := by simp; omega
        have d1' : decide (16 ≤ L.length) = false := by simp; omega
        go_upto_region 10 with (at_builtin; refine wpList_append_slr (World.ownsRow_nil w2 W0.heap.size 85 1) (rows.map fun v => [v]) (some ⟨b, off, none⟩) (2 * S.nodes) cap (HSL.out _ HB.out) (fun h => by cases h) (fun x hx => HON.out.1 x hx) (fun x hx => HON.out.2 x hx) rfl (.tmp 48) (.tmp 50) 71 rfl Try.underlying71 info_entries rfl (by decide) rfl rfl K8.out.1 K8.out.2 (Nat.le_trans hs1 hs2) ?_; intro A4 c4 w4 h4 hg4 hb4; rw [Nat.zero_add, flat_one, List.nil_append] at h4; rw [Nat.zero_add])
        have HX := Stow.mk (HX.out.under' hb4 (by omega))
        have HR := Stow.mk (HR.out.under' hb4 (by omega))
        have HB := Stow.mk (HB.out.trans (hb4.mono (by omega)))
        obtain ⟨g4, c4', hform, hge4, hlt4⟩ := World.ownsRow.form h4 (by omega)
        simp only [Value.slice.injEq, true_and] at hform
        obtain ⟨rfl, rfl⟩ := hform
        have p4 := h4.cellAt i (by omega)
        rw [HROW.out] at p4
        have H4 := Stow.mk h4
        have HW := Stow.mk (refWith_any w4 A' c' L k v (HE.out.keep HB.out) HM.out.1 HM.out.2)
        clear q0 q1 q2 f2 c0 h4 hg4 hb4 hfull
        go_wp2_with fail
        refine HW.out.mono ?_
        rintro e w5 ⟨A5, c5, rfl, hO5, hb5⟩
        have HX := Stow.mk (HX.out.kept hb5)
        have HR := Stow.mk (HR.out.kept hb5)
        have HB := Stow.mk (HB.out.trans (hb5.mono HB.out.size))
        have h5 := own_kept H4.out hb5
        have p5 := h5.cellAt i (by omega)
        rw [HROW.out] at p5
        have z5 := h5.frozenAt i
        have hO : Only g4 w5 (w5.setCell ⟨g4, i, none⟩ (.slice A5 (Bk.put L k v).length c5)) := Only.set _ _ i _
        have HST := Stow.mk (h5.stored i (.slice A5 (Bk.put L k v).length c5)).1
        have HN5 := Stow.mk (own_under hO5 hO hlt4)
        have HX := Stow.mk (HX.out.off hO (by omega))
        have HR := Stow.mk (HR.out.off hO (by omega))
        have HB := Stow.mk (HB.out.setCell (p := ⟨g4, i, none⟩) (show w.heap.size ≤ g4 by omega) (.slice A5 (Bk.put L k v).length c5))
        clear p4 hO5 hb5 HW H4 h5 hO
        go_upto_region 11 with fail
        obtain ⟨W6, hW6⟩ : ∃ W, w5.setCell ⟨g4, i, none⟩ (.slice A5 (Bk.put L k v).length c5) = W := ⟨_, rfl⟩
        rw [hW6] at HX HR HB HST HN5
        rw [hW6]
        clear hW6 p5 z5
        have q1 := HX.out.cell (i := 1) rfl
        have f1 := HX.out.free 1
        have hO : Only w.heap.size W6 (W6.setCell ⟨w.heap.size, 1, none⟩ (.slice (some ⟨g4, 0, none⟩) (2 * S.nodes) c4)) := Only.set _ _ 1 _
        have HST := Stow.mk (own_under HST.out hO (by omega))
        have HN5 := Stow.mk (own_under HN5.out hO (by omega))
        have HX := Stow.mk (HX.out.set 1 (.slice (some ⟨g4, 0, none⟩) (2 * S.nodes) c4))
        have HR := Stow.mk (HR.out.off hO (by omega))
        have HB := Stow.mk (HB.out.setCell (p := ⟨w.heap.size, 1, none⟩) (Nat.le_refl _) (.slice (some ⟨g4, 0, none⟩) (2 * S.nodes) c4))
        clear hO
        go_upto_region 12 with fail
        obtain ⟨W7, hW7⟩ : ∃ W, W6.setCell ⟨w.heap.size, 1, none⟩ (.slice (some ⟨g4, 0, none⟩) (2 * S.nodes) c4) = W := ⟨_, rfl⟩
        rw [hW7] at HX HR HB HST HN5
        rw [hW7]
        clear hW7 q1 f1
        have q0 := HX.out.cell (i := 0) rfl
        have q1 := HX.out.cell (i := 1) rfl
        have q2 := HX.out.cell (i := 2) rfl
        have r0 := HR.out.cell (i := 0) rfl
        have r1 := HR.out.cell (i := 1) rfl
        have r2 := HR.out.cell (i := 2) rfl
        have s0 := HR.out.free 0
        have s1 := HR.out.free 1
        have s2 := HR.out.free 2
        have z1 := HX.out.lt
        have HN := Stow.mk (((HR.out.set 0 (.int .i64 (S.nodes : Nat))).set 1 (.slice (some ⟨g4, 0, none⟩) (2 * S.nodes) c4)).set 2 (.int .i64 (S.lost : Nat)))
        have hO1 : Only (w.heap.size + 1) W7 (World.setCell W7 ⟨w.heap.size + 1, 0, none⟩ (.int .i64 (S.nodes : Nat))) := Only.set _ _ 0 _
        have hO2 : Only (w.heap.size + 1) (World.setCell W7 ⟨w.heap.size + 1, 0, none⟩ (.int .i64 (S.nodes : Nat))) ((World.setCell W7 ⟨w.heap.size + 1, 0, none⟩ (.int .i64 (S.nodes : Nat))).setCell ⟨w.heap.size + 1, 1, none⟩ (.slice (some ⟨g4, 0, none⟩) (2 * S.nodes) c4)) := Only.set _ _ 1 _
        have hO3 : Only (w.heap.size + 1) ((World.setCell W7 ⟨w.heap.size + 1, 0, none⟩ (.int .i64 (S.nodes : Nat))).setCell ⟨w.heap.size + 1, 1, none⟩ (.slice (some ⟨g4, 0, none⟩) (2 * S.nodes) c4)) (((World.setCell W7 ⟨w.heap.size + 1, 0, none⟩ (.int .i64 (S.nodes : Nat))).setCell ⟨w.heap.size + 1, 1, none⟩ (.slice (some ⟨g4, 0, none⟩) (2 * S.nodes) c4)).setCell ⟨w.heap.size + 1, 2, none⟩ (.int .i64 (S.lost : Nat))) := Only.set _ _ 2 _
        have HO3 := Stow.mk (And.intro hO1 (And.intro hO2 hO3))
        have HBW := Stow.mk (((HB.out.setCell (p := ⟨w.heap.size + 1, 0, none⟩) (Nat.le_succ _) (.int .i64 (S.nodes : Nat))).setCell (p := ⟨w.heap.size + 1, 1, none⟩) (Nat.le_succ _) (.slice (some ⟨g4, 0, none⟩) (2 * S.nodes) c4)).setCell (p := ⟨w.heap.size + 1, 2, none⟩) (Nat.le_succ _) (.int .i64 (S.lost : Nat)))
        clear hO1 hO2 hO3 HX HR HB
        go_wp2_with fail
        refine bodyPost_ret (rfput_results _ (w.heap.size + 1) S.nodes S.lost (.slice (some ⟨g4, 0, none⟩) (2 * S.nodes) c4) true _ HN.out rfl rfl) rfl ?_
        rw [HPZ.out]
        have HRF := own_under (own_under (own_under HST.out HO3.out.1 (by omega)) HO3.out.2.1 (by omega)) HO3.out.2.2 (by omega)
        have HEF := own_under (own_under (own_under HN5.out HO3.out.1 (by omega)) HO3.out.2.1 (by omega)) HO3.out.2.2 (by omega)
        refine ⟨some ⟨g4, 0, none⟩, c4, _, rfl, RfR.put HH.out hi2 HI.out HBW.out HRF (EnO.read HEF), fun N h => h.set (fun b hb => .inl hb) (fun ad e => .inr ?_) _ _ _ (fun ad e => .inr ?_), HBW.out⟩
        · subst e
          have := World.ownsRow.lt HEF ad.block rfl
          exact ⟨by omega, this.2⟩
        · cases e
          exact ⟨show w.heap.size ≤ g4 by omega, (World.ownsRow.lt HRF g4 rfl).2⟩
      · go_upto_region 10 with (at_builtin; refine wpList_append_slr (World.ownsRow_nil w2 W0.heap.size 85 1) (rows.map fun v => [v]) (some ⟨b, off, none⟩) (2 * S.nodes) cap (HSL.out _ HB.out) (fun h => by cases h) (fun x hx => HON.out.1 x hx) (fun x hx => HON.out.2 x hx) rfl (.tmp 48) (.tmp 50) 71 rfl Try.underlying71 info_entries rfl (by decide) rfl rfl K8.out.1 K8.out.2 (Nat.le_trans hs1 hs2) ?_; intro A4 c4 w4 h4 hg4 hb4; rw [Nat.zero_add, flat_one, List.nil_append] at h4; rw [Nat.zero_add])
        have HX := Stow.mk (HX.out.under' hb4 (by omega))
        have HR := Stow.mk (HR.out.under' hb4 (by omega))
        have HB := Stow.mk (HB.out.trans (hb4.mono (by omega)))
        obtain ⟨g4, c4', hform, hge4, hlt4⟩ := World.ownsRow.form h4 (by omega)
        simp only [Value.slice.injEq, true_and] at hform
        obtain ⟨rfl, rfl⟩ := hform
        have p4 := h4.cellAt i (by omega)
        rw [HROW.out] at p4
        have H4 := Stow.mk h4
        have HW := Stow.mk (refWith_any w4 A' c' L k v (HE.out.keep HB.out) HM.out.1 HM.out.2)
        clear q0 q1 q2 f2 c0 h4 hg4 hb4 hfull
        go_wp2_with fail
        refine HW.out.mono ?_
        rintro e w5 ⟨A5, c5, rfl, hO5, hb5⟩
        have HX := Stow.mk (HX.out.kept hb5)
        have HR := Stow.mk (HR.out.kept hb5)
        have HB := Stow.mk (HB.out.trans (hb5.mono HB.out.size))
        have h5 := own_kept H4.out hb5
        have p5 := h5.cellAt i (by omega)
        rw [HROW.out] at p5
        have z5 := h5.frozenAt i
        have hO : Only g4 w5 (w5.setCell ⟨g4, i, none⟩ (.slice A5 (Bk.put L k v).length c5)) := Only.set _ _ i _
        have HST := Stow.mk (h5.stored i (.slice A5 (Bk.put L k v).length c5)).1
        have HN5 := Stow.mk (own_under hO5 hO hlt4)
        have HX := Stow.mk (HX.out.off hO (by omega))
        have HR := Stow.mk (HR.out.off hO (by omega))
        have HB := Stow.mk (HB.out.setCell (p := ⟨g4, i, none⟩) (show w.heap.size ≤ g4 by omega) (.slice A5 (Bk.put L k v).length c5))
        clear p4 hO5 hb5 HW H4 h5 hO
        go_upto_region 11 with fail
        obtain ⟨W6, hW6⟩ : ∃ W, w5.setCell ⟨g4, i, none⟩ (.slice A5 (Bk.put L k v).length c5) = W := ⟨_, rfl⟩
        rw [hW6] at HX HR HB HST HN5
        rw [hW6]
        clear hW6 p5 z5
        have q1 := HX.out.cell (i := 1) rfl
        have f1 := HX.out.free 1
        have hO : Only w.heap.size W6 (W6.setCell ⟨w.heap.size, 1, none⟩ (.slice (some ⟨g4, 0, none⟩) (2 * S.nodes) c4)) := Only.set _ _ 1 _
        have HST := Stow.mk (own_under HST.out hO (by omega))
        have HN5 := Stow.mk (own_under HN5.out hO (by omega))
        have HX := Stow.mk (HX.out.set 1 (.slice (some ⟨g4, 0, none⟩) (2 * S.nodes) c4))
        have HR := Stow.mk (HR.out.off hO (by omega))
        have HB := Stow.mk (HB.out.setCell (p := ⟨w.heap.size, 1, none⟩) (Nat.le_refl _) (.slice (some ⟨g4, 0, none⟩) (2 * S.nodes) c4))
        clear hO
        go_upto_region 12 with fail
        obtain ⟨W7, hW7⟩ : ∃ W, W6.setCell ⟨w.heap.size, 1, none⟩ (.slice (some ⟨g4, 0, none⟩) (2 * S.nodes) c4) = W := ⟨_, rfl⟩
        rw [hW7] at HX HR HB HST HN5
        rw [hW7]
        clear hW7 q1 f1
        have q0 := HX.out.cell (i := 0) rfl
        have q1 := HX.out.cell (i := 1) rfl
        have q2 := HX.out.cell (i := 2) rfl
        have r0 := HR.out.cell (i := 0) rfl
        have r1 := HR.out.cell (i := 1) rfl
        have r2 := HR.out.cell (i := 2) rfl
        have s0 := HR.out.free 0
        have s1 := HR.out.free 1
        have s2 := HR.out.free 2
        have z1 := HX.out.lt
        have HN := Stow.mk (((HR.out.set 0 (.int .i64 (S.nodes : Nat))).set 1 (.slice (some ⟨g4, 0, none⟩) (2 * S.nodes) c4)).set 2 (.int .i64 (S.lost : Nat)))
        have hO1 : Only (w.heap.size + 1) W7 (World.setCell W7 ⟨w.heap.size + 1, 0, none⟩ (.int .i64 (S.nodes : Nat))) := Only.set _ _ 0 _
        have hO2 : Only (w.heap.size + 1) (World.setCell W7 ⟨w.heap.size + 1, 0, none⟩ (.int .i64 (S.nodes : Nat))) ((World.setCell W7 ⟨w.heap.size + 1, 0, none⟩ (.int .i64 (S.nodes : Nat))).setCell ⟨w.heap.size + 1, 1, none⟩ (.slice (some ⟨g4, 0, none⟩) (2 * S.nodes) c4)) := Only.set _ _ 1 _
        have hO3 : Only (w.heap.size + 1) ((World.setCell W7 ⟨w.heap.size + 1, 0, none⟩ (.int .i64 (S.nodes : Nat))).setCell ⟨w.heap.size + 1, 1, none⟩ (.slice (some ⟨g4, 0, none⟩) (2 * S.nodes) c4)) (((World.setCell W7 ⟨w.heap.size + 1, 0, none⟩ (.int .i64 (S.nodes : Nat))).setCell ⟨w.heap.size + 1, 1, none⟩ (.slice (some ⟨g4, 0, none⟩) (2 * S.nodes) c4)).setCell ⟨w.heap.size + 1, 2, none⟩ (.int .i64 (S.lost : Nat))) := Only.set _ _ 2 _
        have HO3 := Stow.mk (And.intro hO1 (And.intro hO2 hO3))
        have HBW := Stow.mk (((HB.out.setCell (p := ⟨w.heap.size + 1, 0, none⟩) (Nat.le_succ _) (.int .i64 (S.nodes : Nat))).setCell (p := ⟨w.heap.size + 1, 1, none⟩) (Nat.le_succ _) (.slice (some ⟨g4, 0, none⟩) (2 * S.nodes) c4)).setCell (p := ⟨w.heap.size + 1, 2, none⟩) (Nat.le_succ _) (.int .i64 (S.lost : Nat)))
        clear hO1 hO2 hO3 HX HR HB
        go_wp2_with fail
        refine bodyPost_ret (rfput_results _ (w.heap.size + 1) S.nodes S.lost (.slice (some ⟨g4, 0, none⟩) (2 * S.nodes) c4) true _ HN.out rfl rfl) rfl ?_
        rw [HPZ.out]
        have HRF := own_under (own_under (own_under HST.out HO3.out.1 (by omega)) HO3.out.2.1 (by omega)) HO3.out.2.2 (by omega)
        have HEF := own_under (own_under (own_under HN5.out HO3.out.1 (by omega)) HO3.out.2.1 (by omega)) HO3.out.2.2 (by omega)
        refine ⟨some ⟨g4, 0, none⟩, c4, _, rfl, RfR.put HH.out hi2 HI.out HBW.out HRF (EnO.read HEF), fun N h => h.set (fun b hb => .inl hb) (fun ad e => .inr ?_) _ _ _ (fun ad e => .inr ?_), HBW.out⟩
        · subst e
          have := World.ownsRow.lt HEF ad.block rfl
          exact ⟨by omega, this.2⟩
        · cases e
          exact ⟨show w.heap.size ≤ g4 by omega, (World.ownsRow.lt HRF g4 rfl).2⟩
  · have HP := Stow.mk (Bk.put_no (k := k) (v := v) (s := s) hn)
    rw [Bk.at_no hn] at HA
    clear hn hm
    go_enter Try.func49, Try.ntmps49
    go_upto_region 1 with fail
    rw [HW0.out]
    clear HW0
    have q0 := HX.out.cell (i := 0) rfl
    have q1 := HX.out.cell (i := 1) rfl
    have q2 := HX.out.cell (i := 2) rfl
    go_wp2_with fail
    refine HA.out.mono ?_
    rintro e w1 ⟨rfl, hb1⟩
    have HX := Stow.mk (HX.out.kept hb1)
    have HR := Stow.mk (HR.out.kept hb1)
    have HB := Stow.mk (HB.out.trans (hb1.mono HB.out.size))
    clear hb1 HA q0 q1 q2
    have q0 := HX.out.cell (i := 0) rfl
    have q1 := HX.out.cell (i := 1) rfl
    have q2 := HX.out.cell (i := 2) rfl
    have r0 := HR.out.cell (i := 0) rfl
    have r1 := HR.out.cell (i := 1) rfl
    have r2 := HR.out.cell (i := 2) rfl
    have s0 := HR.out.free 0
    have s1 := HR.out.free 1
    have s2 := HR.out.free 2
    have z1 := HX.out.lt
    have HN := Stow.mk (((HR.out.set 0 (.int .i64 (S.nodes : Nat))).set 1 (.slice A (2 * S.nodes) cap)).set 2 (.int .i64 (S.lost : Nat)))
    have hO1 : Only (w.heap.size + 1) w1 (World.setCell w1 ⟨w.heap.size + 1, 0, none⟩ (.int .i64 (S.nodes : Nat))) := Only.set _ _ 0 _
    have hO2 : Only (w.heap.size + 1) (World.setCell w1 ⟨w.heap.size + 1, 0, none⟩ (.int .i64 (S.nodes : Nat))) ((World.setCell w1 ⟨w.heap.size + 1, 0, none⟩ (.int .i64 (S.nodes : Nat))).setCell ⟨w.heap.size + 1, 1, none⟩ (.slice A (2 * S.nodes) cap)) := Only.set _ _ 1 _
    have hO3 : Only (w.heap.size + 1) ((World.setCell w1 ⟨w.heap.size + 1, 0, none⟩ (.int .i64 (S.nodes : Nat))).setCell ⟨w.heap.size + 1, 1, none⟩ (.slice A (2 * S.nodes) cap)) (((World.setCell w1 ⟨w.heap.size + 1, 0, none⟩ (.int .i64 (S.nodes : Nat))).setCell ⟨w.heap.size + 1, 1, none⟩ (.slice A (2 * S.nodes) cap)).setCell ⟨w.heap.size + 1, 2, none⟩ (.int .i64 (S.lost : Nat))) := Only.set _ _ 2 _
    have HO3 := Stow.mk (And.intro hO1 (And.intro hO2 hO3))
    have HBW := Stow.mk (((HB.out.setCell (p := ⟨w.heap.size + 1, 0, none⟩) (Nat.le_succ _) (.int .i64 (S.nodes : Nat))).setCell (p := ⟨w.heap.size + 1, 1, none⟩) (Nat.le_succ _) (.slice A (2 * S.nodes) cap)).setCell (p := ⟨w.heap.size + 1, 2, none⟩) (Nat.le_succ _) (.int .i64 (S.lost : Nat)))
    clear hO1 hO2 hO3 HX HR HB
    go_wp2_with fail
    refine bodyPost_ret (rfput_results _ (w.heap.size + 1) S.nodes S.lost (.slice A (2 * S.nodes) cap) false _ HN.out rfl rfl) rfl ?_
    rw [HP.out]
    exact ⟨A, cap, rows, rfl, HH.out.keep HBW.out, fun N h => h.mono fun b hb => .inl hb, HBW.out⟩
end Go.Proofs.Ythbpcdoddcacdaa
