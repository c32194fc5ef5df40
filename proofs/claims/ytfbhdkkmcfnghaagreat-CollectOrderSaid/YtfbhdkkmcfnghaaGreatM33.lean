/- Windows as they lie in memory. No condition.; DERIVED: THE SHELF's CONTRACTS AT THIS DUMP, IN PLAIN WORDS (tools/lay-plain.mjs out of 'TryzShelf.lean', which tools/lay-shelf.mjs wrote): THE SAME DECLARATIONS UNDER THE SAME NAMES: 'import', 'namespace', 'open', 'def', 'theorem' AND NOTHING ELSE: no command of the shelf's: FOR A HAND-IN. Each laying: the table of numbers ('.._ren') and one theorem, a field a fact of the dump's own or the kernel's comparison; each contract: ONE APPLICATION.; Walks of dedup.Has and copied. Condition: windows as they come of numbers. -/
import Derived.Test.YtfbhdkkmcfnghaaGreatM32
import Derived.Test.YtfbhdkkmcfnghaaGreatM02
import Derived.Test.YtfbhdkkmcfnghaaGreatProg
import Derived.Shelf.Slices.SearchI
import Derived.Shelf.SlicesE.Clone
import Derived.Shelf.SlicesE.DeleteFunc
import Derived.Shelf.Spec.SlicesInsertGrow

section
namespace Go.Proofs.YtfbhdkkmcfnghaaGreat
open Go.RowKit
set_option linter.unusedVariables false

/-- A window in memory: where its numbers lie. -/
structure Wm where
  w : Wi
  A : Option Addr
  cap : Nat
def Wm.v (p : Wm) : Value := .slice p.A p.w.s.length p.cap
def Wm.cells (p : Wm) : List Value := [.int .i64 p.w.n, .int .i64 p.w.h, .slice p.A p.w.s.length p.cap]
def ic (x : Int) : List Value := [.int .i64 x]
def WnRow (w : World) (B : Nat) (v : Value) (s : List Int) : Prop := w.ownsRow B 3 1 v s.length (s.map (Value.int .i64))
def WRow (w : World) (B : Nat) (v : Value) (R : List Wm) : Prop := w.ownsRow B 113 3 v R.length (R.flatMap Wm.cells)
theorem info_intW : (Tryz.prog.info? 3).map (fun i => (i.zero, i.size, i.bytes)) = some (some (.int .i64 0), 1, 8) := by kernel_rfl
theorem info_window : (Tryz.prog.info? 113).map (fun i => (i.zero, i.size, i.bytes)) = some (some (.agg #[.int .i64 0, .int .i64 0, .slice none 0 0]), 3, 40) := by kernel_rfl

theorem WnRow.slr {w : World} {B : Nat} {v : Value} {s : List Int} (h : WnRow w B v s) : SlR w 1 v (s.map ic) := by
  refine SlR.of_own h (by simp) fun i x hi j u hu => ?_
  rw [List.getElem?_map] at hi
  obtain ⟨y, hy, rfl⟩ := Option.map_eq_some_iff.1 hi
  have hj : j = 0 := by
    rcases Nat.lt_or_ge j 1 with h | h
    · omega
    · simp [ic, List.getElem?_eq_none (show ([Value.int .i64 y] : List Value).length ≤ j by simp; omega)] at hu
  subst hj
  simp [ic] at hu
  subst hu
  simp [hy]
theorem WRow.slr {w : World} {B : Nat} {v : Value} {R : List Wm} (h : WRow w B v R) : SlR w 3 v (R.map Wm.cells) := by
  refine SlR.of_own h (by simp) fun i x hi j u hu => ?_
  have e : R.flatMap Wm.cells = (R.map Wm.cells).flatten := by rw [List.flatMap_def]
  rw [e]
  exact flat_at (c := 3) (fun x hx => by obtain ⟨m, _, rfl⟩ := List.mem_map.1 hx; rfl) i x hi j u hu
theorem WnRow.only {w w' : World} {B g : Nat} {v : Value} {s : List Int} (h : WnRow w B v s) (ho : Only g w w') (hne : v.ownBlock ≠ some g) : WnRow w' B v s := World.ownsRow.kept h ho (.inr hne)
theorem WnRow.keep {w w' : World} {B : Nat} {v : Value} {s : List Int} (h : WnRow w B v s) (hb : Below w.heap.size w w') : WnRow w' B v s := own_kept h hb
theorem WRow.keep {w w' : World} {B : Nat} {v : Value} {R : List Wm} (h : WRow w B v R) (hb : Below w.heap.size w w') : WRow w' B v R := own_kept h hb
theorem WRow.only {w w' : World} {B g : Nat} {v : Value} {R : List Wm} (h : WRow w B v R) (ho : Only g w w') (hne : v.ownBlock ≠ some g) : WRow w' B v R := World.ownsRow.kept h ho (.inr hne)

/-- Windows that are read. -/
structure WinR (w : World) (v : Value) (R : List Wm) : Prop where
  row : SlR w 3 v (R.map Wm.cells)
  ints : ∀ p ∈ R, SlR w 1 p.v (p.w.s.map ic)
  nil : R = [] → v = .slice none 0 0
theorem WinR.keep {w w' : World} {v : Value} {R : List Wm} (h : WinR w v R) (hb : Below w.heap.size w w') : WinR w' v R := ⟨h.row.keep hb, fun p hp => (h.ints p hp).keep hb, h.nil⟩
theorem WinR.none (w : World) : WinR w (.slice none 0 0) [] := ⟨SlR.nil w 3, by simp, fun _ => rfl⟩
/-- Windows of a call's own. -/
structure OwnW (w : World) (B : Nat) (v : Value) (R : List Wm) : Prop where
  row : WRow w B v R
  ints : ∀ p ∈ R, WnRow w B p.v p.w.s
  off : ∀ p ∈ R, p.v.ownBlock ≠ v.ownBlock
  apart : R.Pairwise fun p q => p.v.ownBlock ≠ q.v.ownBlock
  nil : R = [] → v = .slice none 0 0
theorem OwnW.win {w : World} {B : Nat} {v : Value} {R : List Wm} (h : OwnW w B v R) : WinR w v R := ⟨h.row.slr, fun p hp => (h.ints p hp).slr, h.nil⟩
theorem OwnW.keep {w w' : World} {B : Nat} {v : Value} {R : List Wm} (h : OwnW w B v R) (hb : Below w.heap.size w w') : OwnW w' B v R := ⟨h.row.keep hb, fun p hp => (h.ints p hp).keep hb, h.off, h.apart, h.nil⟩

/-- A window in a slice: its three cells. -/
structure WinAt (w : World) (b o : Nat) (p : Wm) : Prop where
  lt : b < w.heap.size
  c0 : w.cell? ⟨b, o, none⟩ = some (.int .i64 p.w.n)
  c1 : w.cell? ⟨b, o + 1, none⟩ = some (.int .i64 p.w.h)
  c2 : w.cell? ⟨b, o + 2, none⟩ = some (.slice p.A p.w.s.length p.cap)
theorem win_at {w : World} {b off n cap k : Nat} {R : List Wm} (h : SlR w 3 (.slice (some ⟨b, off, none⟩) n cap) (R.map Wm.cells)) (hk : k < R.length) : WinAt w b (off + k * 3) R[k] := by
  have hi : (R.map Wm.cells)[k]? = some (R[k].cells) := by rw [List.getElem?_map, List.getElem?_eq_getElem hk]; rfl
  obtain ⟨hb, hc⟩ := h.cells hi
  exact ⟨hb, hc 0 _ rfl, hc 1 _ rfl, hc 2 _ rfl⟩

theorem pl_noneI {L : List Wi} {node : Int} (h : ∀ x ∈ L, (x.n == node) = false) : Dd.pl L node = none := by
  unfold Dd.pl
  rw [List.findIdx?_eq_none_iff]
  exact h
theorem pl_someI {L : List Wi} {node : Int} {k : Nat} (hk : k < L.length) (h : ∀ x ∈ L.take k, (x.n == node) = false) (hb : (L[k].n == node) = true) : Dd.pl L node = some k := by
  unfold Dd.pl
  rw [List.findIdx?_eq_some_iff_getElem]
  refine ⟨hk, hb, fun j hj => ?_⟩
  have := h L[j] (List.mem_take_iff_getElem.2 ⟨j, by omega, rfl⟩)
  simp [this]
theorem pl_succ {L : List Wi} {node : Int} {k : Nat} (hk : k < L.length) (h : ∀ x ∈ L.take k, (x.n == node) = false) (hb : (L[k].n == node) = false) : ∀ x ∈ L.take (k + 1), (x.n == node) = false := by
  intro s hs
  rw [List.take_succ_eq_append_getElem hk] at hs
  rcases List.mem_append.1 hs with h1 | h1
  · exact h s h1
  · simp at h1; subst h1; exact hb
abbrev wis (R : List Wm) : List Wi := R.map Wm.w
theorem plR_some {R : List Wm} {node : Int} {k : Nat} (hk : k < R.length) (h : ∀ x ∈ (wis R).take k, (x.n == node) = false) (hb : (R[k].w.n == node) = true) : Dd.pl (wis R) node = some k :=
  pl_someI (by simpa using hk) h (by simpa using hb)
theorem plR_succ {R : List Wm} {node : Int} {k : Nat} (hk : k < R.length) (h : ∀ x ∈ (wis R).take k, (x.n == node) = false) (hb : (R[k].w.n == node) = false) : ∀ x ∈ (wis R).take (k + 1), (x.n == node) = false :=
  pl_succ (by simpa using hk) h (by simpa using hb)
def plInt (o : Option Nat) : Int := match o with | some k => k | none => -1

set_option maxHeartbeats 400000 in
set_option maxRecDepth 100000 in
theorem ddFindBody_any (n h : Int) (A : Option Addr) (m c : Nat) (node : Int) (g : Nat) (w : World) (hg : w.cell? ⟨g, 0, none⟩ = some (.int .i64 node)) (hlt : g < w.heap.size) :
    Calls Tryz.prog 126 #[.agg #[.int .i64 n, .int .i64 h, .slice A m c], .pointer (some ⟨g, 0, none⟩)] w fun e w' => e = .returned (.bool (n == node)) ∧ Below w.heap.size w w' := by
  have hge : (w.heap.size == g) = false := by simp; omega
  go_enter Tryz.func126, Tryz.ntmps126
  go_wp2_with fail
  go_ret
  refine ⟨rfl, ?_⟩
  (repeat (first | exact Below.self _ | refine Below.alloc' ?_ _ | refine Below.drew ?_ | refine Below.drewN' ?_ _ | (refine Below.call ?_ (by assumption))))

set_option maxHeartbeats 1000000 in
set_option maxRecDepth 100000 in
theorem ddIndex_any (K g : Nat) (node : Int) (hcf : ∀ (args : Array Value) (w : World), (callFunc K args).run Tryz.prog w = .ok (.enter K args) w) (A : Option Addr) (cap : Nat) (R : List Wm) (w : World)
    (hf : Stow (∀ (p : Wm) (w1 : World), Below w.heap.size w w1 → Calls Tryz.prog K #[.agg #[.int .i64 p.w.n, .int .i64 p.w.h, .slice p.A p.w.s.length p.cap], .pointer (some ⟨g, 0, none⟩)] w1 fun e w' => e = .returned (.bool (p.w.n == node)) ∧ Below w1.heap.size w1 w'))
    (hS : SlR w 3 (.slice A R.length cap) (R.map Wm.cells)) :
    Calls Tryz.prog 125 #[.slice A R.length cap, .func (.func K) #[] #[.pointer (some ⟨g, 0, none⟩)]] w fun e w' => e = .returned (.int .i64 (plInt (Dd.pl (wis R) node))) ∧ Below w.heap.size w w' := by
  have HS := Stow.mk hS
  have hlen := hS.len
  simp only [List.length_map] at hlen
  clear hS
  go_enter Tryz.func125, Tryz.ntmps125
  go_wp2_with fail
  go_loopw [5, 8] (fun _ v wr => ∃ j : Nat, v = .int .i64 j ∧ j ≤ R.length ∧ Stow (∀ x ∈ (wis R).take j, (x.n == node) = false) ∧ Below w.heap.size w wr) (fun _ v _ => R.length - (intOf v).toNat)
  case atStart => exact ⟨0, rfl, by omega, ⟨by simp⟩, Below.self _⟩
  case round =>
    obtain ⟨j, rfl, hj, HJ, hbr⟩ := hrel
    by_cases hlt : j < R.length
    · obtain ⟨b, off, rfl, hblt, _⟩ := HS.out.open (by simp; omega)
      have hsp := win_at (HS.out.keep hbr) hlt
      have HJS := Stow.mk (fun h => plR_some (node := node) hlt HJ.out h)
      have HJN := Stow.mk (fun h => plR_succ (node := node) hlt HJ.out h)
      obtain ⟨p, hp⟩ : ∃ p, R[j] = p := ⟨_, rfl⟩
      rw [hp] at hsp HJS HJN
      clear hp
      have HF := Stow.mk (hf.out p)
      obtain ⟨⟨n, h, s⟩, PA, pc⟩ := p
      obtain ⟨hltb, q0, q1, q2⟩ := hsp
      simp only at q0 q1 q2 HF HJS HJN
      obtain ⟨c, hc⟩ : ∃ c, (n == node) = c := ⟨_, rfl⟩
      have HCS := Stow.mk hc
      clear hc
      have HBR := Stow.mk hbr
      generalize s.length = m at *
      go_wp2_with fail
      clear q0 q1 q2
      refine (HF.out _ HBR.out).mono ?_
      rw [HCS.out]
      rintro e w3 ⟨rfl, hb3⟩
      cases c
      · go_wp2_with fail
        exact ⟨⟨j + 1, rfl, by omega, ⟨HJN.out HCS.out⟩, Below.call hbr hb3⟩, by simp [intOf]; omega⟩
      · go_wp2_with fail
        go_ret
        refine ⟨?_, Below.call hbr hb3⟩
        rw [HJS.out HCS.out]
        rfl
    · obtain rfl : j = R.length := by omega
      go_wp2_with fail
      go_ret
      refine ⟨?_, hbr⟩
      have := HJ.out
      rw [List.take_of_length_le (by simp)] at this
      rw [pl_noneI this]
      rfl

set_option maxHeartbeats 400000 in
set_option maxRecDepth 100000 in
theorem ddFind_any (node : Int) (A : Option Addr) (cap : Nat) (R : List Wm) (w : World) (hS : SlR w 3 (.slice A R.length cap) (R.map Wm.cells)) :
    Calls Tryz.prog 88 #[.slice A R.length cap, .int .i64 node] w fun e w' => e = .returned (.int .i64 (plInt (Dd.pl (wis R) node))) ∧ Below w.heap.size w w' := by
  have HS := Stow.mk hS
  clear hS
  have hcf := enters_of Tryz.func126 (by kernel_rfl) rfl
  have HC := Stow.mk hcf; clear hcf
  have hmf : ∀ (fn : Fn) (first cap : Array Value) (w : World), (Instr.makeFunc fn first cap).run Tryz.prog w = .ok (.func fn first cap) w := fun _ _ _ _ => rfl
  go_enter Tryz.func88, Tryz.ntmps88
  go_wp2_with fail
  refine (ddIndex_any 126 _ node HC.out A cap R _ ⟨fun p w1 hb => ddFindBody_any p.w.n p.w.h p.A p.w.s.length p.cap node _ w1 ?_ ?_⟩ (HS.out.alloc _)).mono ?_
  · rw [hb.cell (by simp)]; simp
  · exact Nat.lt_of_lt_of_le (by simp) hb.size
  rintro e w' ⟨rfl, hb⟩
  go_wp2_with fail
  go_ret
  exact ⟨rfl, Below.call (Below.alloc' (Below.self _) _) hb⟩
end Go.Proofs.YtfbhdkkmcfnghaaGreat
end

section
namespace Go.Proofs
open Go.Shelf
def Tryz.laysNm225_ren : Go.Shelf.Ren := ⟨fun | 25 => 129 | 31 => 156 | 32 => 157 | 37 => 173 | n => n, fun | 22 => 105 | 3 => 3 | 4 => 4 | 40 => 163 | 0 => 0 | n => n, fun | n => n⟩
theorem Tryz.laysNm225 : Go.Proofs.Lays2.n25 Tryz.prog Tryz.laysNm225_ren := {
  mixed := by kernel_rfl
  f25 := Tryz.func129.trans (congrArg some (by kernel_rfl))
  f31 := Tryz.func156.trans (congrArg some (by kernel_rfl))
  f32 := Tryz.func157.trans (congrArg some (by kernel_rfl))
  f37 := Tryz.func173.trans (congrArg some (by kernel_rfl))
  t0 := Tryz.underlying0
  a0 := Tryz.isAgg0
  z0 := Tryz.sizeOf0
  v0 := Tryz.zeroValue0
  t3 := Tryz.underlying3
  a3 := Tryz.isAgg3
  z3 := Tryz.sizeOf3
  v3 := Tryz.zeroValue3
  t4 := Tryz.underlying4
  a4 := Tryz.isAgg4
  z4 := Tryz.sizeOf4
  v4 := Tryz.zeroValue4
  t22 := Tryz.underlying105
  a22 := Tryz.isAgg105
  z22 := Tryz.sizeOf105
  v22 := Tryz.zeroValue105
  t40 := Tryz.underlying163
  a40 := Tryz.isAgg163
  z40 := Tryz.sizeOf163
  v40 := Tryz.zeroValue163 }
open Go.RowKit Go.Lib in
/-- slices.BinarySearch at []int: "BinarySearch searches for target in a sorted slice and returns the earliest position where target is found, or the position where target would appear in the sort order; it also returns a bool saying whether the target is really found in the slice. The slice must be sorted in increasing order.": OF A SORTED SLICE IT RETURNS how many elements are less than the target, and whether the target is among the elements; the world is as it was but for the count of draws. 'zs': what the cells behind the slice's address hold; 'zs.take n': its elements. (Of a slice that is not sorted: no contract here.) (LAID: no walk: one application.) -/
theorem Tryz.slices_BinarySearch_int (b off n c : Nat) (zs : List Int) (x : Int) (w : World) (hz : n ≤ zs.length) (hbig : n < 4611686018427387904) (hc : ∀ j, j < zs.length → w.cell? ⟨b, off + j, none⟩ = some (.int .i64 (zs.getD j 0))) (hs : (zs.take n).Pairwise (· ≤ ·)) :
    Calls Tryz.prog 129 #[.slice (some ⟨b, off, none⟩) n c, .int .i64 x] w fun e w' => e = .returned (.tuple #[.int .i64 ((zs.take n).countP (· < x) : Nat), .bool ((zs.take n).contains x)]) ∧ ∃ q, w' = w.drewN q := Any.slices_BinarySearch_int Tryz.laysNm225 b off n c zs x w hz hbig hc hs
def Tryz.laysSlE041_f124_ren : Go.Shelf.Ren := ⟨fun | 41 => 124 | n => n, fun | 22 => 105 | 23 => 3 | 4 => 4 | n => n, fun | n => n⟩
theorem Tryz.laysSlE041_f124 : Go.Proofs.SlLaysE0.n41 Tryz.prog Tryz.laysSlE041_f124_ren := {
  mixed := by kernel_rfl
  f41 := ⟨Tryz.f124.name, by decide, Tryz.func124.trans (congrArg some (by kernel_rfl))⟩
  t4 := Tryz.underlying4
  a4 := Tryz.isAgg4
  z4 := Tryz.sizeOf4
  v4 := Tryz.zeroValue4
  t22 := Tryz.underlying105
  a22 := Tryz.isAgg105
  z22 := Tryz.sizeOf105
  v22 := Tryz.zeroValue105 }
open Go.RowKit Go.Lib in
/-- slices.Clone: "Clone returns a copy of the slice. The elements are copied using assignment, so this is a shallow clone. The result may have additional unused capacity. The result preserves the nilness of s.": OF A SLICE THAT IS NOT nil IT RETURNS A SLICE THAT IS NOT nil, OF THE SAME CELLS, IN MEMORY OF THE CALL's OWN ('ownsRow': the how-to's 6f); below the heap's size at the call all is as it was. (LAID AT THE INSTANCE 'slices.Clone[[]int,int]': no walk: one application.) -/
theorem Tryz.slices_Clone (i0 : TypeInfo) (z : Value) (size bytes : Nat) (hi : Tryz.prog.info? 3 = some i0) (hz0 : i0.zero = some z) (hz1 : i0.size = size) (hz2 : i0.bytes = bytes) (hzs : z.cells.size = size) (hsz : 0 < size) (z23 : ∀ w, (Go.sizeOf 3).run Tryz.prog w = .ok size w) (b off n c : Nat) (news : List Value) (w : World) (hl : news.length = n * size) (hn : n ≤ maxLen) (hbig : n * bytes ≤ 140737488355328) (hc : ∀ j u, news[j]? = some u → w.cell? ⟨b, off + j, none⟩ = some u) (h1 : ∀ u ∈ news, u.oneCell' = true) :
    Calls Tryz.prog 124 #[.slice (some ⟨b, off, none⟩) n c] w fun e w' => ∃ v', e = .returned v' ∧ w'.ownsRow w.heap.size 3 size v' n news ∧ v' ≠ .slice none 0 0 ∧ Below w.heap.size w w' := AnyE.slices_Clone Tryz.laysSlE041_f124 i0 z size bytes hi hz0 hz1 hz2 hzs hsz z23 b off n c news w hl hn hbig hc h1
def Tryz.laysSlH10_f127_ren : Go.Shelf.Ren := ⟨fun | 10 => 127 | 6 => 155 | n => n, fun | 22 => 105 | 23 => 3 | 25 => 172 | 3 => 3 | 4 => 4 | 0 => 0 | n => n, fun | n => n⟩
theorem Tryz.laysSlH10_f127 : Go.Proofs.SlLaysH.n10 Tryz.prog Tryz.laysSlH10_f127_ren := {
  mixed := by kernel_rfl
  f6 := ⟨Tryz.f155.name, by decide, Tryz.func155.trans (congrArg some (by kernel_rfl))⟩
  f10 := ⟨Tryz.f127.name, by decide, Tryz.func127.trans (congrArg some (by kernel_rfl))⟩
  t0 := Tryz.underlying0
  a0 := Tryz.isAgg0
  z0 := Tryz.sizeOf0
  v0 := Tryz.zeroValue0
  t3 := Tryz.underlying3
  a3 := Tryz.isAgg3
  z3 := Tryz.sizeOf3
  v3 := Tryz.zeroValue3
  t4 := Tryz.underlying4
  a4 := Tryz.isAgg4
  z4 := Tryz.sizeOf4
  v4 := Tryz.zeroValue4
  t22 := Tryz.underlying105
  a22 := Tryz.isAgg105
  z22 := Tryz.sizeOf105
  v22 := Tryz.zeroValue105
  a23 := Tryz.isAgg3
  z23 := Tryz.sizeOf3
  t25 := Tryz.underlying172
  a25 := Tryz.isAgg172
  z25 := Tryz.sizeOf172
  v25 := Tryz.zeroValue172 }
open Go.RowKit Go.Lib Go.Sort in
theorem Tryz.slices_DeleteFunc {α : Type} [Inhabited α] (enc : α → Value) (hO : OneCell enc) (p : α → Bool) (g : Nat) (lb : Array Value) (eg : ∀ args w, (callFunc g args).run Tryz.prog w = .ok (.enter g args) w) (zr : α) (v23 : ∀ w, (zeroValue 3).run Tryz.prog w = .ok (enc zr) w) (blk off cap : Nat) (d : Array α) (w : World) (hp : PredAt Tryz.prog g lb enc p w) (hpo : PredOver Tryz.prog g lb enc p blk off d.size w) (hH : Holds enc w blk off d) (hsz : d.size ≤ 9223372036854775807) (hcap : d.size ≤ cap) :
    Calls Tryz.prog 127 #[.slice (some ⟨blk, off, none⟩) d.size cap, .func (.func g) #[] lb] w fun e w' => e = .returned (.slice (some ⟨blk, off, none⟩) (d.toList.filter fun x => !p x).length cap) ∧ ∃ q, w' = putRow enc (Sort.ahead w q) blk off ((d.toList.filter fun x => !p x) ++ List.replicate (d.size - (d.toList.filter fun x => !p x).length) zr).toArray := AnyE.slices_DeleteFunc Tryz.laysSlH10_f127 enc hO p g lb eg zr v23 blk off cap d w hp hpo hH hsz hcap
/-! Laid by hand, after the tool's own texts: slices.Clone at windows; slices.Insert at ints. -/
def Tryz.laysClW_ren : Go.Shelf.Ren := ⟨fun | 41 => 123 | n => n, fun | 22 => 29 | 23 => 113 | 4 => 4 | n => n, fun | n => n⟩
theorem Tryz.laysClW : Go.Proofs.SlLaysE0.n41 Tryz.prog Tryz.laysClW_ren := {
  mixed := by kernel_rfl
  f41 := ⟨Tryz.f123.name, by decide, Tryz.func123.trans (congrArg some (by kernel_rfl))⟩
  t4 := Tryz.underlying4
  a4 := Tryz.isAgg4
  z4 := Tryz.sizeOf4
  v4 := Tryz.zeroValue4
  t22 := Tryz.underlying29
  a22 := Tryz.isAgg29
  z22 := Tryz.sizeOf29
  v22 := Tryz.zeroValue29 }
def Tryz.laysIns_ren : Go.Shelf.Ren := ⟨fun | 21 => 130 | 27 => 158 | 28 => 159 | 35 => 174 | 39 => 147 | n => n, fun | 22 => 105 | 3 => 3 | 4 => 4 | 0 => 0 | n => n, fun | n => n⟩
theorem Tryz.laysIns : Go.Proofs.Lays2.n21 Tryz.prog Tryz.laysIns_ren := {
  mixed := by kernel_rfl
  f21 := Tryz.func130.trans (congrArg some (by kernel_rfl))
  f27 := Tryz.func158.trans (congrArg some (by kernel_rfl))
  f28 := Tryz.func159.trans (congrArg some (by kernel_rfl))
  f35 := Tryz.func174.trans (congrArg some (by kernel_rfl))
  f39 := Tryz.func147.trans (congrArg some (by kernel_rfl))
  t0 := Tryz.underlying0
  a0 := Tryz.isAgg0
  z0 := Tryz.sizeOf0
  v0 := Tryz.zeroValue0
  t3 := Tryz.underlying3
  a3 := Tryz.isAgg3
  z3 := Tryz.sizeOf3
  v3 := Tryz.zeroValue3
  t4 := Tryz.underlying4
  a4 := Tryz.isAgg4
  z4 := Tryz.sizeOf4
  v4 := Tryz.zeroValue4
  t22 := Tryz.underlying105
  a22 := Tryz.isAgg105
  z22 := Tryz.sizeOf105
  v22 := Tryz.zeroValue105
  i3 := by kernel_rfl }
end Go.Proofs
end

section
namespace Go.Proofs.YtfbhdkkmcfnghaaGreat
open Go.RowKit Go.Lib
set_option linter.unusedVariables false

theorem ints_at {w : World} {b off n cap : Nat} {s : List Int} (h : SlR w 1 (.slice (some ⟨b, off, none⟩) n cap) (s.map ic)) {j : Nat} (hj : j < s.length) : b < w.heap.size ∧ w.cell? ⟨b, off + j, none⟩ = some (.int .i64 s[j]) := by
  have hi : (s.map ic)[j]? = some (ic s[j]) := by rw [List.getElem?_map, List.getElem?_eq_getElem hj]; rfl
  obtain ⟨hb, hc⟩ := h.cells hi
  have := hc 0 _ rfl
  rw [Nat.mul_one, Nat.add_zero] at this
  exact ⟨hb, this⟩

theorem Dd.has_at {R : List Wm} {node x : Int} {i : Nat} (hp : Dd.pl (wis R) node = some i) (hi : i < R.length) : Dd.has (wis R) node x = R[i].w.s.contains x := by
  unfold Dd.has
  rw [hp]
  simp [List.getElem?_map, List.getElem?_eq_getElem hi]
theorem Dd.has_no {R : List Wm} {node x : Int} (hp : Dd.pl (wis R) node = none) : Dd.has (wis R) node x = false := by
  unfold Dd.has
  rw [hp]
theorem plR_lt {R : List Wm} {node : Int} {i : Nat} (h : Dd.pl (wis R) node = some i) : ∃ hi : i < R.length, R[i].w.n = node := by
  obtain ⟨hi, h1, _⟩ := Dd.pl_some h
  have hi' : i < R.length := by simpa using hi
  exact ⟨hi', by simpa using h1⟩

/-- Ints, cloned. -/
theorem ddCloneI_any (s : List Int) (A : Option Addr) (cap : Nat) (w : World) (hS : SlR w 1 (.slice A s.length cap) (s.map ic)) (hn : 0 < s.length) (h9 : s.length ≤ 128) :
    Calls Tryz.prog 124 #[.slice A s.length cap] w fun e w' => ∃ g cap', e = .returned (.slice (some ⟨g, 0, none⟩) s.length cap') ∧ w.heap.size ≤ g ∧ g < w'.heap.size ∧ WnRow w' w.heap.size (.slice (some ⟨g, 0, none⟩) s.length cap') s ∧ Below w.heap.size w w' := by
  obtain ⟨b, off, rfl, hb, _⟩ := hS.open (by simpa using hn)
  obtain ⟨i0, hi, hz, hsz, hby⟩ := info_parts info_intW
  refine (Tryz.slices_Clone i0 _ 1 8 hi hz hsz hby rfl (by decide) (fun w => Tryz.sizeOf3 w) b off s.length cap (s.map (Value.int .i64)) w (by simp) (by unfold maxLen; omega) (by omega) (fun j u hj => ?_) (fun u hu => ?_)).mono ?_
  · rw [List.getElem?_map] at hj
    obtain ⟨y, hy, rfl⟩ := Option.map_eq_some_iff.1 hj
    obtain ⟨hj', rfl⟩ := List.getElem?_eq_some_iff.1 hy
    exact (ints_at hS hj').2
  · obtain ⟨y, _, rfl⟩ := List.mem_map.1 hu
    rfl
  · rintro e w' ⟨v', rfl, ho, hne, hbl⟩
    rcases ho.2 with ⟨h1, h2⟩ | ⟨g, cap', cur, rfl, hg, hg2, _⟩
    · exact absurd h1 hne
    · exact ⟨g, cap', rfl, hg, (Array.getElem?_eq_some_iff.1 hg2).1, ho, hbl⟩
/-- Windows, cloned: the same numbers. -/
theorem ddCloneW_any (R : List Wm) (A : Option Addr) (cap : Nat) (w : World) (hS : SlR w 3 (.slice A R.length cap) (R.map Wm.cells)) (hn : 0 < R.length) (h9 : R.length ≤ 8) :
    Calls Tryz.prog 123 #[.slice A R.length cap] w fun e w' => ∃ g cap', e = .returned (.slice (some ⟨g, 0, none⟩) R.length cap') ∧ w.heap.size ≤ g ∧ g < w'.heap.size ∧ WRow w' w.heap.size (.slice (some ⟨g, 0, none⟩) R.length cap') R ∧ Below w.heap.size w w' := by
  obtain ⟨b, off, rfl, hb, hc⟩ := hS.open (by simpa using hn)
  obtain ⟨i0, hi, hz, hsz, hby⟩ := info_parts info_window
  have hfl : (R.flatMap Wm.cells).length = R.length * 3 := by
    clear hS hc hn h9
    induction R with
    | nil => rfl
    | cons p t ih => simp only [List.flatMap_cons, List.length_append, ih, List.length_cons, Wm.cells, List.length_nil]; omega
  refine (AnyE.slices_Clone Tryz.laysClW i0 _ 3 40 hi hz hsz hby rfl (by decide) (fun w => Tryz.sizeOf113 w) b off R.length cap (R.flatMap Wm.cells) w hfl (by unfold maxLen; omega) (by omega) (fun j u hj => ?_) (fun u hu => ?_)).mono ?_
  · have hjl : j < R.length * 3 := by
      rcases Nat.lt_or_ge j (R.flatMap Wm.cells).length with h | h
      · omega
      · simp [List.getElem?_eq_none h] at hj
    have hk : j / 3 < R.length := by omega
    have hx : (R.map Wm.cells)[j / 3]? = some (R[j / 3].cells) := by rw [List.getElem?_map, List.getElem?_eq_getElem hk]; rfl
    have hm : j % 3 < 3 := Nat.mod_lt _ (by omega)
    obtain ⟨u', hu'⟩ : ∃ u', (R[j / 3].cells)[j % 3]? = some u' := ⟨(R[j / 3].cells)[j % 3]'hm, List.getElem?_eq_getElem (l := R[j / 3].cells) hm⟩
    have h1 := hc (j / 3) _ hx (j % 3) u' hu'
    have h2 := flat_at (c := 3) (L := R.map Wm.cells) (fun x hx => by obtain ⟨m, _, rfl⟩ := List.mem_map.1 hx; rfl) (j / 3) _ hx (j % 3) u' hu'
    have e3 : j / 3 * 3 + j % 3 = j := by omega
    rw [e3, ← List.flatMap_def, hj] at h2
    obtain rfl := Option.some.inj h2
    rw [Nat.add_assoc, e3] at h1
    exact h1
  · obtain ⟨p, _, hp⟩ := List.mem_flatMap.1 hu
    simp [Wm.cells] at hp
    rcases hp with rfl | rfl | rfl <;> rfl
  · rintro e w' ⟨v', rfl, ho, hne, hbl⟩
    rcases ho.2 with ⟨h1, h2⟩ | ⟨g, cap', cur, rfl, hg, hg2, _⟩
    · exact absurd h1 hne
    · exact ⟨g, cap', rfl, hg, (Array.getElem?_eq_some_iff.1 hg2).1, ho, hbl⟩

theorem WnRow.base {w : World} {B B' : Nat} {v : Value} {s : List Int} (h : WnRow w B' v s) (hle : B ≤ B') : WnRow w B v s := by
  refine ⟨h.1, ?_⟩
  rcases h.2 with h | ⟨g, cap, cur, hv, hb, r⟩
  · exact .inl h
  · exact .inr ⟨g, cap, cur, hv, by omega, r⟩
/-- The state of the copying: the first windows have rows of their own. -/
structure CpR (w : World) (B g cap : Nat) (R Q : List Wm) (j : Nat) : Prop where
  len : Q.length = j
  same : Q.map Wm.w = (R.take j).map Wm.w
  row : w.ownsRow B 113 3 (.slice (some ⟨g, 0, none⟩) R.length cap) R.length ((Q ++ R.drop j).flatMap Wm.cells)
  ints : ∀ p ∈ Q, WnRow w B p.v p.w.s
  off : ∀ p ∈ Q, ∃ k, p.v.ownBlock = some k ∧ k ≠ g ∧ k < w.heap.size
  apart : Q.Pairwise fun p q => p.v.ownBlock ≠ q.v.ownBlock
theorem CpR.keep {w w' : World} {B g cap j : Nat} {R Q : List Wm} (h : CpR w B g cap R Q j) (hb : Below w.heap.size w w') : CpR w' B g cap R Q j :=
  ⟨h.len, h.same, own_kept h.row hb, fun p hp => (h.ints p hp).keep hb, fun p hp => by obtain ⟨k, a, b, c⟩ := h.off p hp; exact ⟨k, a, b, Nat.lt_of_lt_of_le c hb.size⟩, h.apart⟩
theorem CpR.next {w : World} {B g cap j gi ci : Nat} {R Q : List Wm} {p : Wm} (h : CpR w B g cap R Q j) (hj : j < R.length) (hp : R[j] = p) (hI : WnRow w B (.slice (some ⟨gi, 0, none⟩) p.w.s.length ci) p.w.s) (hgi : gi ≠ g) (hlt : gi < w.heap.size) (hnew : ∀ q ∈ Q, q.v.ownBlock ≠ some gi) :
    CpR (w.setCell ⟨g, j * 3 + 2, none⟩ (.slice (some ⟨gi, 0, none⟩) p.w.s.length ci)) B g cap R (Q ++ [⟨p.w, some ⟨gi, 0, none⟩, ci⟩]) (j + 1) := by
  have ho : Only g w (w.setCell ⟨g, j * 3 + 2, none⟩ (.slice (some ⟨gi, 0, none⟩) p.w.s.length ci)) := Only.set g w _ _
  have hs := (World.ownsRow.stored h.row (j * 3 + 2) (.slice (some ⟨gi, 0, none⟩) p.w.s.length ci)).1
  have hq : (Q.flatMap Wm.cells).length = j * 3 := by
    rw [← h.len]
    clear h hs ho hnew
    induction Q with
    | nil => rfl
    | cons p t ih => simp only [List.flatMap_cons, List.length_append, ih, List.length_cons, Wm.cells, List.length_nil]; omega
  refine ⟨by simp [h.len], ?_, ?_, ?_, ?_, ?_⟩
  · rw [List.map_append, h.same, List.take_succ_eq_append_getElem hj, List.map_append, hp]; rfl
  · have e : (Q ++ R.drop j).flatMap Wm.cells = Q.flatMap Wm.cells ++ (.int .i64 p.w.n :: .int .i64 p.w.h :: .slice p.A p.w.s.length p.cap :: (R.drop (j + 1)).flatMap Wm.cells) := by
      rw [List.drop_eq_getElem_cons hj, hp, List.flatMap_append, List.flatMap_cons]; rfl
    rw [e, List.set_append_right _ _ (by omega), hq, show j * 3 + 2 - j * 3 = 2 by omega] at hs
    have e2 : ((Q ++ [(⟨p.w, some ⟨gi, 0, none⟩, ci⟩ : Wm)]) ++ R.drop (j + 1)).flatMap Wm.cells = Q.flatMap Wm.cells ++ (.int .i64 p.w.n :: .int .i64 p.w.h :: .slice (some ⟨gi, 0, none⟩) p.w.s.length ci :: (R.drop (j + 1)).flatMap Wm.cells) := by
      rw [List.append_assoc, List.flatMap_append, List.flatMap_append]
      simp [Wm.cells]
    rw [e2]
    exact hs
  · intro q hq
    rcases List.mem_append.1 hq with hq | hq
    · obtain ⟨k, a, b, _⟩ := h.off q hq
      exact (h.ints q hq).only ho (by rw [a]; simpa using b)
    · simp at hq; subst hq
      exact hI.only ho (by simp [Value.ownBlock]; exact hgi)
  · intro q hq
    rcases List.mem_append.1 hq with hq | hq
    · obtain ⟨k, a, b, c⟩ := h.off q hq
      exact ⟨k, a, b, by simpa using c⟩
    · simp at hq; subst hq
      exact ⟨gi, rfl, hgi, by simpa using hlt⟩
  · rw [List.pairwise_append]
    refine ⟨h.apart, by simp, fun a ha b hb => ?_⟩
    simp at hb; subst hb
    exact hnew a ha

set_option maxHeartbeats 1000000 in
set_option maxRecDepth 100000 in
theorem ddCopied_any (v : Value) (R : List Wm) (w : World) (hW : WinR w v R) (hok : Dd.Ok (wis R)) :
    Calls Tryz.prog 87 #[v] w fun e w' => ∃ v' R', e = .returned v' ∧ wis R' = wis R ∧ OwnW w' w.heap.size v' R' ∧ Below w.heap.size w w' := by
  have HW := Stow.mk hW
  have HOK := Stow.mk hok
  have hR8 : R.length ≤ 8 := by have := hok.len; simpa using this
  clear hW hok
  rcases Nat.eq_zero_or_pos R.length with h0 | h0
  · obtain rfl := List.eq_nil_of_length_eq_zero h0
    obtain rfl := HW.out.nil rfl
    go_enter Tryz.func87, Tryz.ntmps87
    go_wp2_with fail
    refine (AnyE.slices_Clone_nil Tryz.laysClW 0 0 _).mono ?_
    rintro e w1 ⟨rfl, rfl⟩
    go_wp2_with fail
    go_loopw [10] (fun v wr => v = .int .i64 0 ∧ wr = w1) (fun _ _ => 0)
    case atStart => exact ⟨rfl, rfl⟩
    case round =>
      obtain ⟨rfl, rfl⟩ := hrel
      go_wp2_with fail
      go_ret
      exact ⟨_, [], rfl, rfl, ⟨⟨rfl, .inl ⟨rfl, rfl⟩⟩, by simp, by simp, by simp, fun _ => rfl⟩, Below.self _⟩
  obtain ⟨A, cap, rfl, _⟩ := HW.out.row.form
  simp only [List.length_map] at *
  go_enter Tryz.func87, Tryz.ntmps87
  go_wp2_with fail
  refine (ddCloneW_any R A cap _ HW.out.row h0 hR8).mono ?_
  rintro e w1 ⟨g, c1, rfl, hg, hglt, hrow, hb1⟩
  have HB1 := Stow.mk hb1
  have H0 : Stow (CpR w1 w.heap.size g c1 R [] 0) := ⟨⟨rfl, rfl, hrow, by simp, by simp, by simp⟩⟩
  clear hrow hb1
  go_wp2_with fail
  go_loopw [10] (fun v wr => ∃ (j : Nat) (Q : List Wm), v = .int .i64 (j : Int) ∧ j ≤ R.length ∧ CpR wr w.heap.size g c1 R Q j ∧ w1.heap.size ≤ wr.heap.size ∧ Below w.heap.size w wr) (fun v _ => R.length - (intOf v).toNat)
  case atStart => exact ⟨0, [], rfl, by omega, H0.out, Nat.le_refl _, HB1.out⟩
  case round =>
    obtain ⟨j, Q, rfl, hj, hQ, hsz, hbr⟩ := hrel
    by_cases hlt : j < R.length
    · have HQ := Stow.mk hQ
      have HBR := Stow.mk hbr
      have hmem : R[j] ∈ R := List.getElem_mem hlt
      have hsl := (HOK.out.each _ (List.mem_map.2 ⟨_, hmem, rfl⟩)).len
      have HI := Stow.mk ((HW.out.ints _ hmem).keep hbr)
      have hrl : (Q ++ R.drop j).length = R.length := by rw [List.length_append, hQ.len, List.length_drop]; omega
      have hpj : (Q ++ R.drop j)[j]'(by omega) = R[j] := by
        rw [List.getElem_append_right (by rw [hQ.len]; omega)]
        simp [hQ.len]
      have hS2 : SlR wr 3 (.slice (some ⟨g, 0, none⟩) R.length c1) ((Q ++ R.drop j).map Wm.cells) := by
        refine SlR.of_own hQ.row (by rw [List.length_map]; exact hrl) fun i x hi k u hu => ?_
        rw [List.flatMap_def]
        exact flat_at (c := 3) (fun x hx => by obtain ⟨m, _, rfl⟩ := List.mem_map.1 hx; rfl) i x hi k u hu
      have hsp := win_at (R := Q ++ R.drop j) hS2 (k := j) (by omega)
      rw [hpj] at hsp
      obtain ⟨p, hp⟩ : ∃ p, R[j] = p := ⟨_, rfl⟩
      rw [hp] at hsp HI hsl
      have HPJ := Stow.mk hp
      have hfr : ∀ k, wr.frozen? ⟨g, k, none⟩ = false := fun k => World.ownsRow.frozenAt hQ.row k
      clear hp hpj hrl hS2 hmem hQ hbr
      obtain ⟨⟨n, h, s⟩, PA, pc⟩ := p
      obtain ⟨hltb, q0, q1, q2⟩ := hsp
      simp only [Wm.v, Nat.zero_add] at q0 q1 q2 HI hsl
      have hji : (j : Int) < R.length := by omega
      have hgne : (wr.heap.size == g) = false := by simp; omega
      go_wp2_with fail
      refine (ddCloneI_any s PA pc _ (HI.out.alloc _) hsl.1 hsl.2).mono ?_
      rintro e w2 ⟨gi, ci, rfl, hgi, hgil, hIr, hb2⟩
      have hgi' : wr.heap.size + 1 ≤ gi := by simpa using hgi
      have HB2 : Stow (Below wr.heap.size wr w2) := ⟨Below.call (Below.alloc' (Below.self _) _) hb2⟩
      have HQ2 := Stow.mk (HQ.out.keep HB2.out)
      have d2 : w2.cell? ⟨g, j * 3 + 2, none⟩ = some (.slice PA s.length pc) := (HB2.out.cell (p := ⟨g, j * 3 + 2, none⟩) hltb).trans q2
      have f2 : w2.frozen? ⟨g, j * 3 + 2, none⟩ = false := World.ownsRow.frozenAt HQ2.out.row _
      have hltb2 : g < w2.heap.size := Nat.lt_of_lt_of_le hltb HB2.out.size
      have HIR : Stow (WnRow w2 w.heap.size (.slice (some ⟨gi, 0, none⟩) s.length ci) s) := ⟨hIr.base (by have := HBR.out.size; simp; omega)⟩
      have HNX := Stow.mk (HQ2.out.next hlt HPJ.out HIR.out (by omega) hgil (fun q hq => by
        obtain ⟨k, a, b, c⟩ := HQ.out.off q hq
        rw [a]; simp; omega))
      clear q0 q1 q2 hb2 hIr hfr
      go_wp2_with fail
      refine ⟨⟨j + 1, _, rfl, by omega, HNX.out, ?_, ?_⟩, by simp [intOf]; omega⟩
      · have := HB2.out.size
        simp; omega
      · exact (HBR.out.trans (HB2.out.mono HBR.out.size)).setCell (p := ⟨g, j * 3 + 2, none⟩) hg _
    · obtain rfl : j = R.length := by omega
      go_wp2_with fail
      go_ret
      refine ⟨_, Q, rfl, ?_, ?_, hbr⟩
      · have := hQ.same
        rwa [List.take_length] at this
      · have hr := hQ.row
        rw [List.drop_length, List.append_nil] at hr
        have hql := hQ.len
        have hrow : WRow wr w.heap.size (.slice (some ⟨g, 0, none⟩) R.length c1) Q := by
          unfold WRow
          rw [hql]
          exact hr
        exact ⟨hrow, hQ.ints, fun p hp => by obtain ⟨k, a, b, _⟩ := hQ.off p hp; rw [a]; simp [Value.ownBlock]; exact b, hQ.apart, fun h => by subst h; simp at hql; omega⟩
end Go.Proofs.YtfbhdkkmcfnghaaGreat
end
