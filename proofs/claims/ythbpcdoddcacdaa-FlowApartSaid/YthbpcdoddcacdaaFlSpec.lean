/- Flows and their frames, as values and in memory. No condition. -/
import Derived.Test.YthbpcdoddcacdaaHeadSpec
import Derived.Test.YthbpcdoddcacdaaApp
import Derived.Test.YthbpcdoddcacdaaProg
import Derived.Deep.MidRow
import Derived.Lib.SliceRun
namespace Go.Proofs.Ythbpcdoddcacdaa
open Go.RowKit
set_option linter.unusedVariables false

abbrev Txt := List UInt8
/-- An operation. -/
structure Ox where
  k : Int
  a : Txt
  b : Txt
  n : Int
def Ox.cells (o : Ox) : List Value := [.int .i64 o.k, .string (bs o.a), .string (bs o.b), .int .i64 o.n]
/-- A frame: what it says. -/
structure Fr where
  node : Int
  ops : List Ox
  at_ : Int
  st : Int
  body : Txt
  m : Txt
  h : Txt
  p : Txt
  hs : List Hd
  b : Txt
  kids : Int
  home : Int
  hop : Int
/-- A frame in memory: where its lists lie. -/
structure Fm where
  c : Fr
  oa : Option Addr
  oc : Nat
  ha : Option Addr
  hc : Nat
def Fm.cells (x : Fm) : List Value := [.int .i64 x.c.node, .slice x.oa x.c.ops.length x.oc, .int .i64 x.c.at_, .int .i64 x.c.st, .string (bs x.c.body), .string (bs x.c.m), .string (bs x.c.h), .string (bs x.c.p), .slice x.ha x.c.hs.length x.hc, .string (bs x.c.b), .int .i64 x.c.kids, .int .i64 x.c.home, .int .i64 x.c.hop]
def Fm.val (x : Fm) : Value := .agg x.cells.toArray
theorem Fm.cells_len (x : Fm) : x.cells.length = 13 := rfl
theorem Fm.one (x : Fm) : ∀ u ∈ x.cells, u.oneCell' = true := by
  intro u hu
  simp [Fm.cells] at hu
  rcases hu with rfl | rfl | rfl | rfl | rfl | rfl | rfl | rfl | rfl | rfl | rfl | rfl | rfl <;> rfl
/-- Its lists read as they should. -/
structure FmR (w : World) (x : Fm) : Prop where
  ops : SlR w 4 (.slice x.oa x.c.ops.length x.oc) (x.c.ops.map Ox.cells)
  heads : SlR w 2 (.slice x.ha x.c.hs.length x.hc) (x.c.hs.map Hd.cells)
theorem FmR.keep {w w' : World} {x : Fm} (h : FmR w x) (hb : Below w.heap.size w w') : FmR w' x := ⟨h.ops.keep hb, h.heads.keep hb⟩
/-- The frames of a flow. -/
structure FlR (w : World) (A : Option Addr) (cap : Nat) (L : List Fm) : Prop where
  row : SlR w 13 (.slice A L.length cap) (L.map Fm.cells)
  each : ∀ x ∈ L, FmR w x
theorem FlR.keep {w w' : World} {A : Option Addr} {cap : Nat} {L : List Fm} (h : FlR w A cap L) (hb : Below w.heap.size w w') : FlR w' A cap L := ⟨h.row.keep hb, fun x hx => (h.each x hx).keep hb⟩
abbrev flv (A : Option Addr) (n cap : Nat) (hops : Int) : Value := .agg #[.slice A n cap, .int .i64 hops]
/-- Frames in a row of one's own. -/
abbrev FlO (w : World) (B : Nat) (A : Option Addr) (cap : Nat) (L : List Fm) : Prop := w.ownsRow B 30 13 (.slice A L.length cap) L.length (L.flatMap Fm.cells)
theorem FlO.read {w : World} {B : Nat} {A : Option Addr} {cap : Nat} {L : List Fm} (h : FlO w B A cap L) : SlR w 13 (.slice A L.length cap) (L.map Fm.cells) := by
  refine SlR.of_own h (by simp) ?_
  rw [List.flatMap_def]
  exact flat_at (fun x hx => by obtain ⟨y, _, rfl⟩ := List.mem_map.1 hx; rfl)
theorem fm_flat_len : ∀ L : List Fm, (L.flatMap Fm.cells).length = L.length * 13
  | [] => rfl
  | x :: t => by rw [List.flatMap_cons, List.length_append, fm_flat_len t, Fm.cells_len, List.length_cons, Nat.succ_mul]; omega
/-- A frame in a row: its cells. -/
theorem fm_at {w : World} {b off n cap k : Nat} {L : List Fm} (h : SlR w 13 (.slice (some ⟨b, off, none⟩) n cap) (L.map Fm.cells)) (hk : k < L.length) : b < w.heap.size ∧ w.rangeAt b (off + k * 13) L[k].cells := by
  obtain ⟨hb, hc⟩ := h.cells (i := k) (x := L[k].cells) (by rw [List.getElem?_map, List.getElem?_eq_getElem hk]; rfl)
  exact ⟨hb, fun j v hj => hc j v hj⟩
theorem slr_len {w : World} {c n cap : Nat} {A : Option Addr} {L : List (List Value)} (h : SlR w c (.slice A n cap) L) : n = L.length := by
  obtain ⟨_, _, hv, _⟩ := h
  simp only [Value.slice.injEq] at hv
  exact hv.2.1
theorem slr_none {w : World} {c n cap : Nat} {L : List (List Value)} (h : SlR w c (.slice none n cap) L) : L = [] := by
  obtain ⟨A, cap', hv, _, _, h3⟩ := h
  simp only [Value.slice.injEq] at hv
  obtain ⟨rfl, _, rfl⟩ := hv
  rcases L with _ | ⟨y, t⟩
  · rfl
  · obtain ⟨b, off, hA, _⟩ := h3 (by simp)
    cases hA
theorem info_fr : (Try.prog.info? 30).map (fun i => (i.zero, i.size, i.bytes)) = some (some (.agg #[.int .i64 0, .slice none 0 0, .int .i64 0, .int .i64 0, .string ByteArray.empty, .string ByteArray.empty, .string ByteArray.empty, .string ByteArray.empty, .slice none 0 0, .string ByteArray.empty, .int .i64 0, .int .i64 0, .int .i64 0]), 13, 176) := by kernel_rfl
theorem info_ox : (Try.prog.info? 106).map (fun i => (i.zero, i.size, i.bytes)) = some (some (.agg #[.int .i64 0, .string ByteArray.empty, .string ByteArray.empty, .int .i64 0]), 4, 48) := by kernel_rfl
theorem info_hd : (Try.prog.info? 158).map (fun i => (i.zero, i.size, i.bytes)) = some (some (.agg #[.string ByteArray.empty, .string ByteArray.empty]), 2, 32) := by kernel_rfl

theorem Ox.one (x : Ox) : ∀ u ∈ x.cells, u.oneCell' = true := by
  intro u hu
  simp [Ox.cells] at hu
  rcases hu with rfl | rfl | rfl | rfl <;> rfl
theorem Hd.one (x : Hd) : ∀ u ∈ x.cells, u.oneCell' = true := by
  intro u hu
  simp [Hd.cells] at hu
  rcases hu with rfl | rfl <;> rfl
set_option maxHeartbeats 1000000 in
set_option maxRecDepth 100000 in
theorem cloneF_any (L : List Fm) (A : Option Addr) (cap : Nat) (w : World) (hS : SlR w 13 (.slice A L.length cap) (L.map Fm.cells)) (hn : L.length ≤ 1000) :
    Calls Try.prog 96 #[.slice A L.length cap] w fun e w' => ∃ A' c', e = .returned (.slice A' L.length c') ∧ w'.ownsRow w.heap.size 30 13 (.slice A' L.length c') L.length (L.flatMap Fm.cells) ∧ Below w.heap.size w w' := by
  have q22 := fun (w : World) (a : Option Addr) (n c n' c' : Nat) => Lib.run_eql_slice_nil (P := Try.prog) w 22 30 a n c n' c' Try.underlying22
  rcases A with _ | ad
  · have hL := slr_none hS
    obtain rfl : L = [] := by simpa using hL
    clear hS
    go_enter Try.func96, Try.ntmps96
    go_wp2_with fail
    go_ret
    exact ⟨none, 0, rfl, World.ownsRow_nil _ _ _ _, Below.self _⟩
  · have HS := Stow.mk (hS.alloc (.cells #[] 30))
    clear hS
    have K : Stow ((∀ x ∈ L.map Fm.cells, x.length = 13) ∧ (∀ x ∈ L.map Fm.cells, ∀ u ∈ x, u.oneCell' = true) ∧ 0 + L.length ≤ maxLen ∧ (0 + L.length) * 176 ≤ 140737488355328) := ⟨fun x hx => by
      obtain ⟨y, _, rfl⟩ := List.mem_map.1 hx
      rfl, fun x hx u hu => by
      obtain ⟨y, _, rfl⟩ := List.mem_map.1 hx
      exact Fm.one y u hu, by unfold maxLen; omega, by omega⟩
    go_enter Try.func96, Try.ntmps96
    go_wp2_with (at_builtin; refine wpList_append_slr (World.ownsRow_made w #[] 0 (Nat.le_refl _) (Nat.zero_le _) (by simp)) (L.map Fm.cells) (some ad) L.length cap HS.out (fun h => by cases h) K.out.1 K.out.2.1 rfl (.tmp 5) (.tmp 6) 22 rfl Try.underlying22 info_fr rfl (by decide) rfl rfl K.out.2.2.1 K.out.2.2.2 (by simp) ?_; intro A4 c4 w4 h4 hg4 hb4)
    have HB := Stow.mk ((Below.alloc' (Below.self w) (.cells #[] 30)).trans hb4)
    rw [Nat.zero_add, List.nil_append, ← List.flatMap_def] at h4
    have H4 := Stow.mk h4
    clear hg4 hb4 h4
    go_ret
    exact ⟨A4, c4, rfl, H4.out, HB.out⟩
set_option maxHeartbeats 1000000 in
set_option maxRecDepth 100000 in
theorem cloneO_any (L : List Ox) (A : Option Addr) (cap : Nat) (w : World) (hS : SlR w 4 (.slice A L.length cap) (L.map Ox.cells)) (hn : L.length ≤ 1000) :
    Calls Try.prog 97 #[.slice A L.length cap] w fun e w' => ∃ A' c', e = .returned (.slice A' L.length c') ∧ w'.ownsRow w.heap.size 106 4 (.slice A' L.length c') L.length (L.flatMap Ox.cells) ∧ Below w.heap.size w w' := by
  have q22 := fun (w : World) (a : Option Addr) (n c n' c' : Nat) => Lib.run_eql_slice_nil (P := Try.prog) w 25 106 a n c n' c' Try.underlying25
  rcases A with _ | ad
  · have hL := slr_none hS
    obtain rfl : L = [] := by simpa using hL
    clear hS
    go_enter Try.func97, Try.ntmps97
    go_wp2_with fail
    go_ret
    exact ⟨none, 0, rfl, World.ownsRow_nil _ _ _ _, Below.self _⟩
  · have HS := Stow.mk (hS.alloc (.cells #[] 106))
    clear hS
    have K : Stow ((∀ x ∈ L.map Ox.cells, x.length = 4) ∧ (∀ x ∈ L.map Ox.cells, ∀ u ∈ x, u.oneCell' = true) ∧ 0 + L.length ≤ maxLen ∧ (0 + L.length) * 48 ≤ 140737488355328) := ⟨fun x hx => by
      obtain ⟨y, _, rfl⟩ := List.mem_map.1 hx
      rfl, fun x hx u hu => by
      obtain ⟨y, _, rfl⟩ := List.mem_map.1 hx
      exact Ox.one y u hu, by unfold maxLen; omega, by omega⟩
    go_enter Try.func97, Try.ntmps97
    go_wp2_with (at_builtin; refine wpList_append_slr (World.ownsRow_made w #[] 0 (Nat.le_refl _) (Nat.zero_le _) (by simp)) (L.map Ox.cells) (some ad) L.length cap HS.out (fun h => by cases h) K.out.1 K.out.2.1 rfl (.tmp 5) (.tmp 6) 25 rfl Try.underlying25 info_ox rfl (by decide) rfl rfl K.out.2.2.1 K.out.2.2.2 (by simp) ?_; intro A4 c4 w4 h4 hg4 hb4)
    have HB := Stow.mk ((Below.alloc' (Below.self w) (.cells #[] 106)).trans hb4)
    rw [Nat.zero_add, List.nil_append, ← List.flatMap_def] at h4
    have H4 := Stow.mk h4
    clear hg4 hb4 h4
    go_ret
    exact ⟨A4, c4, rfl, H4.out, HB.out⟩
set_option maxHeartbeats 1000000 in
set_option maxRecDepth 100000 in
theorem cloneH_any (L : List Hd) (A : Option Addr) (cap : Nat) (w : World) (hS : SlR w 2 (.slice A L.length cap) (L.map Hd.cells)) (hn : L.length ≤ 1000) :
    Calls Try.prog 98 #[.slice A L.length cap] w fun e w' => ∃ A' c', e = .returned (.slice A' L.length c') ∧ w'.ownsRow w.heap.size 158 2 (.slice A' L.length c') L.length (L.flatMap Hd.cells) ∧ Below w.heap.size w w' := by
  have q22 := fun (w : World) (a : Option Addr) (n c n' c' : Nat) => Lib.run_eql_slice_nil (P := Try.prog) w 26 158 a n c n' c' Try.underlying26
  rcases A with _ | ad
  · have hL := slr_none hS
    obtain rfl : L = [] := by simpa using hL
    clear hS
    go_enter Try.func98, Try.ntmps98
    go_wp2_with fail
    go_ret
    exact ⟨none, 0, rfl, World.ownsRow_nil _ _ _ _, Below.self _⟩
  · have HS := Stow.mk (hS.alloc (.cells #[] 158))
    clear hS
    have K : Stow ((∀ x ∈ L.map Hd.cells, x.length = 2) ∧ (∀ x ∈ L.map Hd.cells, ∀ u ∈ x, u.oneCell' = true) ∧ 0 + L.length ≤ maxLen ∧ (0 + L.length) * 32 ≤ 140737488355328) := ⟨fun x hx => by
      obtain ⟨y, _, rfl⟩ := List.mem_map.1 hx
      rfl, fun x hx u hu => by
      obtain ⟨y, _, rfl⟩ := List.mem_map.1 hx
      exact Hd.one y u hu, by unfold maxLen; omega, by omega⟩
    go_enter Try.func98, Try.ntmps98
    go_wp2_with (at_builtin; refine wpList_append_slr (World.ownsRow_made w #[] 0 (Nat.le_refl _) (Nat.zero_le _) (by simp)) (L.map Hd.cells) (some ad) L.length cap HS.out (fun h => by cases h) K.out.1 K.out.2.1 rfl (.tmp 5) (.tmp 6) 26 rfl Try.underlying26 info_hd rfl (by decide) rfl rfl K.out.2.2.1 K.out.2.2.2 (by simp) ?_; intro A4 c4 w4 h4 hg4 hb4)
    have HB := Stow.mk ((Below.alloc' (Below.self w) (.cells #[] 158)).trans hb4)
    rw [Nat.zero_add, List.nil_append, ← List.flatMap_def] at h4
    have H4 := Stow.mk h4
    clear hg4 hb4 h4
    go_ret
    exact ⟨A4, c4, rfl, H4.out, HB.out⟩
end Go.Proofs.Ythbpcdoddcacdaa
