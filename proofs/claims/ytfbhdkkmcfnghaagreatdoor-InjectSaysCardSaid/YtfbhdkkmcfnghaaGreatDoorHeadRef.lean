/- Walks of the reference's All and Get on headers. Condition: not more headers than 2^40. -/
import Derived.Test.YtfbhdkkmcfnghaaGreatDoorHead
namespace Go.Proofs.YtfbhdkkmcfnghaaGreatDoor
open Go.RowKit
set_option linter.unusedVariables false

/-- All values of a name. -/
def hdAll (L : List Hd) (name : List UInt8) : List (List UInt8) := (L.filter fun h => h.1 == name).map (·.2)
theorem hdAll_get {L : List Hd} {name : List UInt8} : hdGet L name = (hdAll L name).head? := by
  unfold hdGet hdAll
  rw [List.head?_map, List.head?_filter]
theorem hdAll_yes {L : List Hd} {name : List UInt8} {k : Nat} (hk : k < L.length) (hb : (L[k].1 == name) = true) : hdAll (L.take (k + 1)) name = hdAll (L.take k) name ++ [L[k].2] := by
  unfold hdAll
  rw [List.take_succ_eq_append_getElem hk, List.filter_append, List.map_append]
  simp [hb]
theorem hdAll_no {L : List Hd} {name : List UInt8} {k : Nat} (hk : k < L.length) (hb : (L[k].1 == name) = false) : hdAll (L.take (k + 1)) name = hdAll (L.take k) name := by
  unfold hdAll
  rw [List.take_succ_eq_append_getElem hk, List.filter_append, List.map_append]
  simp [hb]
theorem hdAll_len (L : List Hd) (name : List UInt8) : (hdAll L name).length ≤ L.length := by
  unfold hdAll
  rw [List.length_map]
  exact List.length_filter_le _ _

theorem info_string : (Tryz.prog.info? 9).map (fun i => (i.zero, i.size, i.bytes)) = some (some (.string ⟨#[]⟩), 1, 16) := by kernel_rfl

/-- A slice of texts of the call's own. -/
def TRow (w : World) (B : Nat) (v : Value) (l : List (List UInt8)) : Prop := w.ownsRow B 9 1 v l.length (l.map fun x => Value.string (bs x))
theorem TRow.alloc {w : World} {B : Nat} {v : Value} {l : List (List UInt8)} (h : TRow w B v l) (o : Obj) : TRow (w.alloc o) B v l := World.ownsRow.alloc h o

theorem trow_slr {w : World} {B : Nat} {v : Value} {L : List (List UInt8)} (h : TRow w B v L) : SlR w 1 v (L.map fun x => [Value.string (bs x)]) := by
  refine SlR.of_own h (by simp) fun i x hi j u hu => ?_
  rw [List.getElem?_map] at hi
  obtain ⟨y, hy, rfl⟩ := Option.map_eq_some_iff.1 hi
  have hj : j = 0 := by
    rcases Nat.lt_or_ge j 1 with h | h
    · omega
    · simp [List.getElem?_eq_none (show ([Value.string (bs y)] : List Value).length ≤ j by simp; omega)] at hu
  subst hj
  simp at hu
  subst hu
  simp [hy]

set_option maxHeartbeats 1000000 in
set_option maxRecDepth 100000 in
theorem refAll_any (name : List UInt8) (A : Option Addr) (cap : Nat) (L : List Hd) (w : World) (hS : SlR w 2 (.slice A L.length cap) (L.map Hd.cells)) (hn : L.length ≤ 1099511627776) :
    Calls Tryz.prog 80 #[.slice A L.length cap, .string (bs name)] w fun e w' => ∃ v, e = .returned v ∧ TRow w' w.heap.size v (hdAll L name) ∧ Below w.heap.size w w' := by
  have HS := Stow.mk hS
  clear hS
  by_cases h0 : L.length = 0
  · obtain rfl := List.eq_nil_of_length_eq_zero h0
    go_enter Tryz.func80, Tryz.ntmps80
    go_wp2_with fail
    go_loopw [5, 6] (fun o v wr => o = .slice none 0 0 ∧ v = .int .i64 0 ∧ Below w.heap.size w wr) (fun _ _ _ => 0)
    case atStart => exact ⟨rfl, rfl, Below.self _⟩
    case round =>
      obtain ⟨rfl, rfl, hbr⟩ := hrel
      go_wp2_with fail
      go_ret
      exact ⟨_, rfl, World.ownsRow_nil _ _ _ _, hbr⟩
  obtain ⟨b, off, rfl, hblt, _⟩ := HS.out.open (by simp; omega)
  clear h0
  go_enter Tryz.func80, Tryz.ntmps80
  go_wp2_with fail
  go_loopw [5, 6] (fun v c wr => ∃ j : Nat, c = .int .i64 j ∧ j ≤ L.length ∧ TRow wr w.heap.size v (hdAll (L.take j) name) ∧ Below w.heap.size w wr) (fun _ v _ => L.length - (intOf v).toNat)
  case atStart => exact ⟨0, rfl, by omega, World.ownsRow_nil _ _ _ _, Below.self _⟩
  case round =>
    obtain ⟨j, rfl, hj, hown, hbr⟩ := hrel
    by_cases hlt : j < L.length
    · have hsp := head_at (HS.out.keep hbr) hlt
      have hln : (hdAll (L.take j) name).length ≤ j := Nat.le_trans (hdAll_len _ _) (by simp; omega)
      obtain ⟨s, hs⟩ : ∃ s, L[j] = s := ⟨_, rfl⟩
      have HSJ := Stow.mk hs
      rw [hs] at hsp
      clear hs
      obtain ⟨x, y⟩ := s
      obtain ⟨hltb, q0, q1⟩ := hsp
      simp only at q0 q1
      obtain ⟨c, hc⟩ : ∃ c, (x == name) = c := ⟨_, rfl⟩
      have HCS := Stow.mk hc
      cases c
      · have HN : Stow (hdAll (L.take (j + 1)) name = hdAll (L.take j) name) := ⟨hdAll_no hlt (by rw [HSJ.out, HCS.out])⟩
        go_wp2_with fail
        exact ⟨⟨j + 1, rfl, by omega, by rw [HN.out]; exact hown, hbr⟩, by simp [intOf]; omega⟩
      · have HN : Stow (hdAll (L.take (j + 1)) name = hdAll (L.take j) name ++ [y]) := ⟨by rw [hdAll_yes hlt (by rw [HSJ.out, HCS.out]), HSJ.out]⟩
        generalize hdAll (L.take j) name = acc at hown HN hln
        have k1 : ∀ u ∈ [Value.string (bs y)], u.oneCell' = true := by intro u hu; simp at hu; subst hu; rfl
        have K1 := Stow.mk k1
        clear k1
        have k2 : (acc.length + 1) * 16 ≤ 140737488355328 := by omega
        have k3 : acc.length + 1 ≤ maxLen := by unfold maxLen; omega
        have K4 := Stow.mk hbr.size
        have HO := Stow.mk hown
        clear hown
        go_wp2_with (at_builtin; refine wpList_append_elem _ _ _ rfl (.tmp 20) (.tmp 26) 38 rfl w.heap.size 9 _ 1 16 Tryz.underlying38 info_string _ _ _ HO.out rfl _ rfl rfl rfl (by decide) rfl K1.out k2 k3 K4.out ?_; intro v4 w4 hown4 hg4 hb4 hs4)
        refine ⟨⟨j + 1, rfl, by omega, ?_, hbr.trans hb4⟩, by simp [intOf]; omega⟩
        rw [HN.out]
        unfold TRow
        simpa using hown4
    · obtain rfl : j = L.length := by omega
      rw [List.take_length] at hown
      go_wp2_with fail
      go_ret
      exact ⟨_, rfl, hown, hbr⟩

theorem trow_form {w : World} {B : Nat} {v : Value} {l : List (List UInt8)} (h : TRow w B v l) : ∃ A cap, v = .slice A l.length cap ∧ ∀ t u, l = t :: u → ∃ g, A = some ⟨g, 0, none⟩ ∧ g < w.heap.size ∧ w.cell? ⟨g, 0, none⟩ = some (.string (bs t)) := by
  have h0 := h
  rcases h.2 with ⟨rfl, h1⟩ | ⟨g, cap, cur, rfl, _, hg, _⟩
  · refine ⟨none, 0, ?_, fun t u e => ?_⟩
    · rw [h1]
    · subst e; simp at h1
  · refine ⟨_, _, rfl, fun t u e => ⟨g, rfl, (Array.getElem?_eq_some_iff.1 hg).1, ?_⟩⟩
    subst e
    have := World.ownsRow.cells h0 rfl 0 _ rfl
    simpa [Addr.add] using this

set_option maxHeartbeats 400000 in
set_option maxRecDepth 100000 in
theorem refHdGet_any (name : List UInt8) (A : Option Addr) (cap : Nat) (L : List Hd) (w : World) (hS : SlR w 2 (.slice A L.length cap) (L.map Hd.cells)) (hn : L.length ≤ 1099511627776) :
    Calls Tryz.prog 37 #[.slice A L.length cap, .string (bs name)] w fun e w' => e = .returned (.tuple #[.string (bs ((hdGet L name).getD [])), .bool (hdGet L name).isSome]) ∧ Below w.heap.size w w' := by
  have HS := Stow.mk hS
  clear hS
  have HG := Stow.mk (hdAll_get (L := L) (name := name))
  obtain ⟨o, ho⟩ : ∃ o, hdAll L name = o := ⟨_, rfl⟩
  rw [ho] at HG
  have hlo := hdAll_len L name
  rw [ho] at hlo
  have HO := Stow.mk ho
  clear ho
  go_enter Tryz.func37, Tryz.ntmps37
  go_wp2_with fail
  refine (refAll_any name A cap L _ HS.out hn).mono ?_
  rw [HO.out]
  rintro e w' ⟨v, rfl, hown, hb⟩
  obtain ⟨A', cap', rfl, hf⟩ := trow_form hown
  clear hown
  cases o with
  | nil =>
    clear hf
    go_wp2_with fail
    go_ret2
    exact ⟨by rw [HG.out]; rfl, hb⟩
  | cons t u =>
    obtain ⟨g, rfl, hg, hcell⟩ := hf t u rfl
    clear hf
    have hne : (((t :: u).length : Int) == 0) = false := by simp; omega
    go_wp2_with fail
    go_ret2
    exact ⟨by rw [HG.out]; rfl, hb⟩
end Go.Proofs.YtfbhdkkmcfnghaaGreatDoor
