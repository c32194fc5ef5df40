/- Windows as they lie in memory. No condition. -/
import Derived.Test.YtbcokngjcgldpaaDdSpec
import Derived.Test.YtbcokngjcgldpaaSlice
import Derived.Test.YtbcokngjcgldpaaProg
namespace Go.Proofs.Ytbcokngjcgldpaa
open Go.RowKit
set_option linter.unusedVariables false

/-- A window in memory: where its numbers lie. -/
structure Wm where
  w : Wi
  A : Option Addr
  cap : Nat
def Wm.v (p : Wm) : Value := .slice p.A p.w.s.length p.cap
def Wm.cells (p : Wm) : List Value := [.int .i64 p.w.n, .int .i64 p.w.h, .slice p.A p.w.s.length p.cap]
def ic (x : Int) : List Value := [.int .i64 x]
def IRow (w : World) (B : Nat) (v : Value) (s : List Int) : Prop := w.ownsRow B 3 1 v s.length (s.map (Value.int .i64))
def WRow (w : World) (B : Nat) (v : Value) (R : List Wm) : Prop := w.ownsRow B 52 3 v R.length (R.flatMap Wm.cells)
theorem info_int : (Try.prog.info? 3).map (fun i => (i.zero, i.size, i.bytes)) = some (some (.int .i64 0), 1, 8) := by kernel_rfl
theorem info_window : (Try.prog.info? 52).map (fun i => (i.zero, i.size, i.bytes)) = some (some (.agg #[.int .i64 0, .int .i64 0, .slice none 0 0]), 3, 40) := by kernel_rfl

theorem IRow.slr {w : World} {B : Nat} {v : Value} {s : List Int} (h : IRow w B v s) : SlR w 1 v (s.map ic) := by
  refine SlR.of_own h (by simp) fun i x hi j u hu => ?_
  rw [List.getElem?_map] at hi
  obtain ⟨y, hy, rfl⟩ := Option.map_eq_some_iff.1 hi
  have hj : j = 0 := by
    rcases Nat.lt_or_ge j 1 with h | h
    · omega
    · simp [ic, List.getElem?_eq_none (show ([Value.int .i64 y] : List Value).length ≤ j by simp; omega)] at hu
  subst hj
  simp [ic] at hu
  subst hu
  simp [hy]
theorem WRow.slr {w : World} {B : Nat} {v : Value} {R : List Wm} (h : WRow w B v R) : SlR w 3 v (R.map Wm.cells) := by
  refine SlR.of_own h (by simp) fun i x hi j u hu => ?_
  have e : R.flatMap Wm.cells = (R.map Wm.cells).flatten := by rw [List.flatMap_def]
  rw [e]
  exact flat_at (c := 3) (fun x hx => by obtain ⟨m, _, rfl⟩ := List.mem_map.1 hx; rfl) i x hi j u hu
theorem IRow.only {w w' : World} {B g : Nat} {v : Value} {s : List Int} (h : IRow w B v s) (ho : Only g w w') (hne : v.ownBlock ≠ some g) : IRow w' B v s := World.ownsRow.kept h ho (.inr hne)
theorem IRow.keep {w w' : World} {B : Nat} {v : Value} {s : List Int} (h : IRow w B v s) (hb : Below w.heap.size w w') : IRow w' B v s := own_kept h hb
theorem WRow.keep {w w' : World} {B : Nat} {v : Value} {R : List Wm} (h : WRow w B v R) (hb : Below w.heap.size w w') : WRow w' B v R := own_kept h hb
theorem WRow.only {w w' : World} {B g : Nat} {v : Value} {R : List Wm} (h : WRow w B v R) (ho : Only g w w') (hne : v.ownBlock ≠ some g) : WRow w' B v R := World.ownsRow.kept h ho (.inr hne)

/-- Windows that are read. -/
structure WinR (w : World) (v : Value) (R : List Wm) : Prop where
  row : SlR w 3 v (R.map Wm.cells)
  ints : ∀ p ∈ R, SlR w 1 p.v (p.w.s.map ic)
  nil : R = [] → v = .slice none 0 0
theorem WinR.keep {w w' : World} {v : Value} {R : List Wm} (h : WinR w v R) (hb : Below w.heap.size w w') : WinR w' v R := ⟨h.row.keep hb, fun p hp => (h.ints p hp).keep hb, h.nil⟩
theorem WinR.none (w : World) : WinR w (.slice none 0 0) [] := ⟨SlR.nil w 3, by simp, fun _ => rfl⟩
/-- Windows of a call's own. -/
structure OwnW (w : World) (B : Nat) (v : Value) (R : List Wm) : Prop where
  row : WRow w B v R
  ints : ∀ p ∈ R, IRow w B p.v p.w.s
  off : ∀ p ∈ R, p.v.ownBlock ≠ v.ownBlock
  apart : R.Pairwise fun p q => p.v.ownBlock ≠ q.v.ownBlock
  nil : R = [] → v = .slice none 0 0
theorem OwnW.win {w : World} {B : Nat} {v : Value} {R : List Wm} (h : OwnW w B v R) : WinR w v R := ⟨h.row.slr, fun p hp => (h.ints p hp).slr, h.nil⟩
theorem OwnW.keep {w w' : World} {B : Nat} {v : Value} {R : List Wm} (h : OwnW w B v R) (hb : Below w.heap.size w w') : OwnW w' B v R := ⟨h.row.keep hb, fun p hp => (h.ints p hp).keep hb, h.off, h.apart, h.nil⟩

/-- A window in a slice: its three cells. -/
structure WinAt (w : World) (b o : Nat) (p : Wm) : Prop where
  lt : b < w.heap.size
  c0 : w.cell? ⟨b, o, none⟩ = some (.int .i64 p.w.n)
  c1 : w.cell? ⟨b, o + 1, none⟩ = some (.int .i64 p.w.h)
  c2 : w.cell? ⟨b, o + 2, none⟩ = some (.slice p.A p.w.s.length p.cap)
theorem win_at {w : World} {b off n cap k : Nat} {R : List Wm} (h : SlR w 3 (.slice (some ⟨b, off, none⟩) n cap) (R.map Wm.cells)) (hk : k < R.length) : WinAt w b (off + k * 3) R[k] := by
  have hi : (R.map Wm.cells)[k]? = some (R[k].cells) := by rw [List.getElem?_map, List.getElem?_eq_getElem hk]; rfl
  obtain ⟨hb, hc⟩ := h.cells hi
  exact ⟨hb, hc 0 _ rfl, hc 1 _ rfl, hc 2 _ rfl⟩

theorem pl_noneI {L : List Wi} {node : Int} (h : ∀ x ∈ L, (x.n == node) = false) : Dd.pl L node = none := by
  unfold Dd.pl
  rw [List.findIdx?_eq_none_iff]
  exact h
theorem pl_someI {L : List Wi} {node : Int} {k : Nat} (hk : k < L.length) (h : ∀ x ∈ L.take k, (x.n == node) = false) (hb : (L[k].n == node) = true) : Dd.pl L node = some k := by
  unfold Dd.pl
  rw [List.findIdx?_eq_some_iff_getElem]
  refine ⟨hk, hb, fun j hj => ?_⟩
  have := h L[j] (List.mem_take_iff_getElem.2 ⟨j, by omega, rfl⟩)
  simp [this]
theorem pl_succ {L : List Wi} {node : Int} {k : Nat} (hk : k < L.length) (h : ∀ x ∈ L.take k, (x.n == node) = false) (hb : (L[k].n == node) = false) : ∀ x ∈ L.take (k + 1), (x.n == node) = false := by
  intro s hs
  rw [List.take_succ_eq_append_getElem hk] at hs
  rcases List.mem_append.1 hs with h1 | h1
  · exact h s h1
  · simp at h1; subst h1; exact hb
abbrev wis (R : List Wm) : List Wi := R.map Wm.w
theorem plR_some {R : List Wm} {node : Int} {k : Nat} (hk : k < R.length) (h : ∀ x ∈ (wis R).take k, (x.n == node) = false) (hb : (R[k].w.n == node) = true) : Dd.pl (wis R) node = some k :=
  pl_someI (by simpa using hk) h (by simpa using hb)
theorem plR_succ {R : List Wm} {node : Int} {k : Nat} (hk : k < R.length) (h : ∀ x ∈ (wis R).take k, (x.n == node) = false) (hb : (R[k].w.n == node) = false) : ∀ x ∈ (wis R).take (k + 1), (x.n == node) = false :=
  pl_succ (by simpa using hk) h (by simpa using hb)
def plInt (o : Option Nat) : Int := match o with | some k => k | none => -1

set_option maxHeartbeats 400000 in
set_option maxRecDepth 100000 in
theorem ddFindBody_any (n h : Int) (A : Option Addr) (m c : Nat) (node : Int) (g : Nat) (w : World) (hg : w.cell? ⟨g, 0, none⟩ = some (.int .i64 node)) (hlt : g < w.heap.size) :
    Calls Try.prog 96 #[.agg #[.int .i64 n, .int .i64 h, .slice A m c], .pointer (some ⟨g, 0, none⟩)] w fun e w' => e = .returned (.bool (n == node)) ∧ Below w.heap.size w w' := by
  have hge : (w.heap.size == g) = false := by simp; omega
  go_enter Try.func96, Try.ntmps96
  go_wp2_with fail
  go_ret
  refine ⟨rfl, ?_⟩
  (repeat (first | exact Below.self _ | refine Below.alloc' ?_ _ | refine Below.drew ?_ | refine Below.drewN' ?_ _ | (refine Below.call ?_ (by assumption))))

set_option maxHeartbeats 1000000 in
set_option maxRecDepth 100000 in
theorem ddIndex_any (K g : Nat) (node : Int) (hcf : ∀ (args : Array Value) (w : World), (callFunc K args).run Try.prog w = .ok (.enter K args) w) (A : Option Addr) (cap : Nat) (R : List Wm) (w : World)
    (hf : Stow (∀ (p : Wm) (w1 : World), Below w.heap.size w w1 → Calls Try.prog K #[.agg #[.int .i64 p.w.n, .int .i64 p.w.h, .slice p.A p.w.s.length p.cap], .pointer (some ⟨g, 0, none⟩)] w1 fun e w' => e = .returned (.bool (p.w.n == node)) ∧ Below w1.heap.size w1 w'))
    (hS : SlR w 3 (.slice A R.length cap) (R.map Wm.cells)) :
    Calls Try.prog 95 #[.slice A R.length cap, .func (.func K) #[] #[.pointer (some ⟨g, 0, none⟩)]] w fun e w' => e = .returned (.int .i64 (plInt (Dd.pl (wis R) node))) ∧ Below w.heap.size w w' := by
  have HS := Stow.mk hS
  have hlen := hS.len
  simp only [List.length_map] at hlen
  clear hS
  go_enter Try.func95, Try.ntmps95
  go_wp2_with fail
  go_loopw [5, 8] (fun _ v wr => ∃ j : Nat, v = .int .i64 j ∧ j ≤ R.length ∧ Stow (∀ x ∈ (wis R).take j, (x.n == node) = false) ∧ Below w.heap.size w wr) (fun _ v _ => R.length - (intOf v).toNat)
  case atStart => exact ⟨0, rfl, by omega, ⟨by simp⟩, Below.self _⟩
  case round =>
    obtain ⟨j, rfl, hj, HJ, hbr⟩ := hrel
    by_cases hlt : j < R.length
    · obtain ⟨b, off, rfl, hblt, _⟩ := HS.out.open (by simp; omega)
      have hsp := win_at (HS.out.keep hbr) hlt
      have HJS := Stow.mk (fun h => plR_some (node := node) hlt HJ.out h)
      have HJN := Stow.mk (fun h => plR_succ (node := node) hlt HJ.out h)
      obtain ⟨p, hp⟩ : ∃ p, R[j] = p := ⟨_, rfl⟩
      rw [hp] at hsp HJS HJN
      clear hp
      have HF := Stow.mk (hf.out p)
      obtain ⟨⟨n, h, s⟩, PA, pc⟩ := p
      obtain ⟨hltb, q0, q1, q2⟩ := hsp
      simp only at q0 q1 q2 HF HJS HJN
      obtain ⟨c, hc⟩ : ∃ c, (n == node) = c := ⟨_, rfl⟩
      have HCS := Stow.mk hc
      clear hc
      have HBR := Stow.mk hbr
      generalize s.length = m at *
      go_wp2_with fail
      clear q0 q1 q2
      refine (HF.out _ HBR.out).mono ?_
      rw [HCS.out]
      rintro e w3 ⟨rfl, hb3⟩
      cases c
      · go_wp2_with fail
        exact ⟨⟨j + 1, rfl, by omega, ⟨HJN.out HCS.out⟩, Below.call hbr hb3⟩, by simp [intOf]; omega⟩
      · go_wp2_with fail
        go_ret
        refine ⟨?_, Below.call hbr hb3⟩
        rw [HJS.out HCS.out]
        rfl
    · obtain rfl : j = R.length := by omega
      go_wp2_with fail
      go_ret
      refine ⟨?_, hbr⟩
      have := HJ.out
      rw [List.take_of_length_le (by simp)] at this
      rw [pl_noneI this]
      rfl

set_option maxHeartbeats 400000 in
set_option maxRecDepth 100000 in
theorem ddFind_any (node : Int) (A : Option Addr) (cap : Nat) (R : List Wm) (w : World) (hS : SlR w 3 (.slice A R.length cap) (R.map Wm.cells)) :
    Calls Try.prog 62 #[.slice A R.length cap, .int .i64 node] w fun e w' => e = .returned (.int .i64 (plInt (Dd.pl (wis R) node))) ∧ Below w.heap.size w w' := by
  have HS := Stow.mk hS
  clear hS
  have hcf := enters_of Try.func96 (by kernel_rfl) rfl
  have HC := Stow.mk hcf; clear hcf
  have hmf : ∀ (fn : Fn) (first cap : Array Value) (w : World), (Instr.makeFunc fn first cap).run Try.prog w = .ok (.func fn first cap) w := fun _ _ _ _ => rfl
  go_enter Try.func62, Try.ntmps62
  go_wp2_with fail
  refine (ddIndex_any 96 _ node HC.out A cap R _ ⟨fun p w1 hb => ddFindBody_any p.w.n p.w.h p.A p.w.s.length p.cap node _ w1 ?_ ?_⟩ (HS.out.alloc _)).mono ?_
  · rw [hb.cell (by simp)]; simp
  · exact Nat.lt_of_lt_of_le (by simp) hb.size
  rintro e w' ⟨rfl, hb⟩
  go_wp2_with fail
  go_ret
  exact ⟨rfl, Below.call (Below.alloc' (Below.self _) _) hb⟩
end Go.Proofs.Ytbcokngjcgldpaa
