/- Walk of the statement on a trace whose spans stand in another order. Condition: a slice's own. -/
import Derived.Test.YthbpcdoddcacdaaVdLess
import Derived.Deep.CutRange
import Derived.Deep.MidRow
namespace Go.Proofs.Ythbpcdoddcacdaa
open Go.RowKit Cells
set_option linter.unusedVariables false

theorem kept_of_cells2 {w : World} {cs : List Value} (h : Rel (keptCells w) cs) : ∃ x : KtArg, (.agg cs.toArray : Value) = x.val ∧ SpR w x.A x.cap x.L ∧ (x.A = none → x.cap = 0) := by
  have h0 := h
  obtain ⟨x, hx, hS⟩ := kept_of_cells h
  refine ⟨x, hx, hS, ?_⟩
  unfold keptCells at h
  obtain ⟨_, _, rfl, _, ha⟩ := h.cons_inv
  obtain ⟨_, _, rfl, _, ha⟩ := ha.cons_inv
  obtain ⟨v, _, rfl, h2, ha⟩ := ha.cons_inv
  obtain ⟨_, _, rfl, _, ha⟩ := ha.cons_inv
  obtain ⟨_, _, rfl, _, ha⟩ := ha.cons_inv
  obtain rfl := ha.nil_inv
  unfold KtArg.val ktv at hx
  have hv : v = .slice x.A x.L.length x.cap := by
    have := congrArg (fun a : Array Value => a[2]?) (Value.agg.inj hx)
    simpa using this
  subst hv
  rcases h2 with h | ⟨a, len, cap, h, _⟩
  · simp only [Value.slice.injEq] at h
    exact fun _ => h.2.2
  · simp only [Value.slice.injEq] at h
    intro h2; rw [h.1] at h2; cases h2

def setL : List Value → Nat → List Value → List Value
  | xs, _, [] => xs
  | xs, i, v :: t => setL (xs.set i v) (i + 1) t
theorem own_setAll {B : Nat} {e : TypeId} {c g n cap : Nat} : ∀ (cs : List Value) (w : World) (i : Nat) (xs : List Value), w.ownsRow B e c (.slice (some ⟨g, 0, none⟩) n cap) n xs → (w.setCells g i cs).ownsRow B e c (.slice (some ⟨g, 0, none⟩) n cap) n (setL xs i cs)
  | [], _, _, _, h => h
  | v :: t, w, i, xs, h => own_setAll t _ (i + 1) _ (World.ownsRow.stored h i v).1
theorem only_setAll {g : Nat} : ∀ (cs : List Value) (w : World) (i : Nat), Only g w (w.setCells g i cs)
  | [], w, _ => Only.refl g w
  | v :: t, w, i => (Only.set g w i v).trans (only_setAll t _ (i + 1))
theorem setL_len : ∀ (cs xs : List Value) (i : Nat), (setL xs i cs).length = xs.length
  | [], _, _ => rfl
  | v :: t, xs, i => by unfold setL; rw [setL_len t, List.length_set]
theorem setL_at : ∀ (cs xs : List Value) (i j : Nat), i + cs.length ≤ xs.length → (setL xs i cs)[j]? = if i ≤ j ∧ j < i + cs.length then cs[j - i]? else xs[j]?
  | [], xs, i, j, _ => by simp only [setL, List.length_nil, Nat.add_zero]; rw [if_neg (by omega)]
  | v :: t, xs, i, j, h => by
    simp only [List.length_cons] at h
    unfold setL
    rw [setL_at t (xs.set i v) (i + 1) j (by rw [List.length_set]; omega)]
    simp only [List.length_cons]
    by_cases h1 : j = i
    · subst h1
      rw [if_neg (by omega), if_pos (by omega), List.getElem?_set_self (by omega), Nat.sub_self]; rfl
    · by_cases h2 : i + 1 ≤ j ∧ j < i + 1 + t.length
      · rw [if_pos h2, if_pos (by omega), show j - i = (j - (i + 1)) + 1 by omega]; rfl
      · rw [if_neg h2, if_neg (by omega), List.getElem?_set_ne (by omega)]
/-- An element in its place. -/
theorem setL_span {L : List Sp} {i : Nat} (hi : i < L.length) (s : Sp) : setL (L.map Sp.cells).flatten (i * 11) s.cells = ((L.set i s).map Sp.cells).flatten := by
  have hf : ∀ M : List Sp, (M.map Sp.cells).flatten.length = M.length * 11 := fun M => by rw [flat_len (c := 11) sp_cells, List.length_map]
  have hlen : i * 11 + 11 ≤ L.length * 11 := by omega
  apply List.ext_getElem?
  intro j
  rw [setL_at _ _ _ _ (by rw [hf, Sp.cells_len]; exact hlen), Sp.cells_len]
  by_cases hj : j < L.length * 11
  · have hq : j / 11 < L.length := by omega
    have e1 : j / 11 * 11 + j % 11 = j := by omega
    have key : ∀ (M : List Sp) (h : j / 11 < M.length), (M.map Sp.cells).flatten[j]? = M[j / 11].cells[j % 11]? := fun M h => by
      have hr : j % 11 < M[j / 11].cells.length := by rw [Sp.cells_len]; omega
      have := flat_at (c := 11) (sp_cells (L := M)) (j / 11) M[j / 11].cells (by rw [List.getElem?_map, List.getElem?_eq_getElem h]; rfl) (j % 11) _ (List.getElem?_eq_getElem hr)
      rw [e1] at this
      rw [this, List.getElem?_eq_getElem hr]
    rw [key L hq, key (L.set i s) (by rw [List.length_set]; exact hq)]
    by_cases h : j / 11 = i
    · rw [if_pos (by omega)]
      have e2 : (L.set i s)[j / 11]'(by rw [List.length_set]; exact hq) = s := by simp [h]
      rw [e2, show j - i * 11 = j % 11 by omega]
    · rw [if_neg (by omega)]
      have e2 : (L.set i s)[j / 11]'(by rw [List.length_set]; exact hq) = L[j / 11] := List.getElem_set_ne (fun e => h e.symm) _
      rw [e2]
  · rw [if_neg (by omega), List.getElem?_eq_none (Nat.le_of_not_lt (by rw [hf]; exact hj)), List.getElem?_eq_none (Nat.le_of_not_lt (by rw [hf, List.length_set]; exact hj))]

/-- A store leaves the frame as it is. -/
theorem wpList_store_here {P : Program} {ops : Array Oper} {rest : List Oper} {op : Oper} {a : Act} {w : World} {Q : Exit → Act → World → Prop} (hgd : op.guard = none) (ty : TypeId) (x y : Operand) (ho : op.op = .store ty x y) (hdst : op.dst = none)
    (b o : Nat) (cells : List Value) (hx : a.eval x = .pointer (some ⟨b, o, none⟩)) (hy : a.eval y = .agg cells.toArray)
    (ht : w.there b o cells.length) (hi : (P.info? ty).map (·.size) = some cells.length) (h1 : cells.toArray.all (·.oneCell') = true)
    (h : wpList P ops Q rest a (w.setCells b o cells)) : wpList P ops Q (op :: rest) a w := by
  refine wpList_store_mid hgd ty x y ho b o cells.toArray hx hy (by simpa using ht) (by simpa using hi) h1 ?_
  rw [hdst]
  simpa [Act.put] using h

/-- Spans' row of the call's own. -/
abbrev SpO (w : World) (B g cap : Nat) (M : List Sp) : Prop := w.ownsRow B 66 11 (.slice (some ⟨g, 0, none⟩) M.length cap) M.length (M.map Sp.cells).flatten
theorem SpO.set {w : World} {B g cap : Nat} {M : List Sp} (h : SpO w B g cap M) {i : Nat} (hi : i < M.length) (s : Sp) : SpO (w.setCells g (i * 11) s.cells) B g cap (M.set i s) := by
  have := own_setAll s.cells w (i * 11) _ h
  rw [setL_span hi] at this
  unfold SpO
  rw [List.length_set]
  exact this
theorem SpO.spr {w : World} {B g cap : Nat} {M : List Sp} (h : SpO w B g cap M) : SpR w (some ⟨g, 0, none⟩) cap M := own_spr h rfl rfl
theorem SpO.free {w : World} {B g cap : Nat} {M : List Sp} (h : SpO w B g cap M) (j : Nat) : w.frozen? ⟨g, j, none⟩ = false := World.ownsRow.frozenAt h j

theorem SpO.range {w : World} {B g cap : Nat} {M : List Sp} (h : SpO w B g cap M) {i : Nat} (hi : i < M.length) : w.rangeAt g (i * 11) (Tr.sp M i).cells := by
  intro j v hv
  obtain ⟨_, hc⟩ := h.spr.cells (i := i) (x := (Tr.sp M i).cells) (by rw [List.getElem?_map, List.getElem?_eq_getElem hi, Tr.sp_in hi]; rfl)
  have := hc j v hv
  rwa [Nat.zero_add] at this
theorem SpO.there {w : World} {B g cap : Nat} {M : List Sp} (h : SpO w B g cap M) {i : Nat} (hi : i < M.length) : w.there g (i * 11) 11 := fun j hj => ⟨(h.range hi).isSome j (by rw [Sp.cells_len]; exact hj), h.free _⟩
theorem SpO.alloc {w : World} {B g cap : Nat} {M : List Sp} (h : SpO w B g cap M) (o : Obj) : SpO (w.alloc o) B g cap M := World.ownsRow.alloc h o
theorem Sp.one (s : Sp) : s.cells.toArray.all (·.oneCell') = true := all_oneCell_toArray (by
  intro u hu
  unfold Sp.cells at hu
  simp only [List.mem_cons, List.not_mem_nil, or_false] at hu
  rcases hu with rfl | rfl | rfl | rfl | rfl | rfl | rfl | rfl | rfl | rfl | rfl <;> rfl)
def intsCells : List (Value → Prop) := [pInt .i64]
theorem flat_ints (w : World) : Flat Try.prog w 44 [pSlice w 1 intsCells] := flat_slice Try.underlying44 (by kernel_rfl) (flat_int Try.underlying3)
theorem ints_of {w : World} {v : Value} (h : pSlice w 1 intsCells v) : ∃ (O : List Int) (A : Option Addr) (cap : Nat), v = .slice A O.length cap ∧ SlR w 1 (.slice A O.length cap) (O.map fun o => [.int .i64 o]) ∧ ∀ o ∈ O, -9223372036854775808 ≤ o ∧ o ≤ 9223372036854775807 := by
  obtain ⟨L, hL, hf⟩ := slr_of (c := 1) (fun o : Int => [Value.int .i64 o]) (fun o => -9223372036854775808 ≤ o ∧ o ≤ 9223372036854775807) (fun cs hc => by
    obtain ⟨v, rfl, n, rfl, hn⟩ := hc.one
    exact ⟨n, rfl, bounds_i64 hn⟩) (fun _ => rfl) (by omega) h
  obtain ⟨A, cap, rfl, _⟩ := hL.form
  simp only [List.length_map] at hL ⊢
  exact ⟨L, A, cap, rfl, hL, hf⟩
/-- Two spans change places. -/
theorem Tr.Re.swap2 {L M : List Sp} {f : Nat → Nat} (h : Tr.Re L M f) {i j : Nat} (hi : i < M.length) (hj : j < M.length) : ∃ f', Tr.Re L ((M.set i (Tr.sp M j)).set j (Tr.sp M i)) f' :=
  ⟨_, h.trans (Tr.Re.swap hi hj)⟩
/-- In whatever order: what is said, what lacks, the tree. -/
theorem Tr.Re.same {L M : List Sp} {f : Nat → Nat} (h : Tr.Re L M f) (s c : Bool) : Tr.said L s c = Tr.said M s c ∧ Tr.lacks L = Tr.lacks M ∧ Tr.treeN L s c = Tr.treeN M s c := by
  have hs := Tr.said_perm h.perm s c
  refine ⟨hs, Tr.lacks_perm h.perm, ?_⟩
  by_cases h1 : Tr.said L s c = 1
  · have h2 : Tr.said M s c = 1 := by rw [← hs]; exact h1
    obtain ⟨r, hr, _, e⟩ := Tr.treeN_yes h1
    obtain ⟨r', hr', _, e'⟩ := Tr.treeN_yes h2
    obtain ⟨hl, rfl⟩ := h.root hr hr'
    have hst := fun i hi => (Tr.said_is h2).strict (i := i) hi
    rw [e, e', h.walk hst hl, List.map_map]
    apply List.map_congr_left
    intro p hp
    have hpl : p.1 < L.length := by
      have := (Tr.walk_out M r').lt p.1 (List.mem_map.2 ⟨p, hp, rfl⟩)
      rwa [h.len] at this
    simp only [Function.comp_apply, Tr.node]
    rw [h.at_ _ hpl]
  · rw [Tr.treeN_no h1, Tr.treeN_no (by rw [← hs]; exact h1)]

set_option maxHeartbeats 8000000 in
set_option maxRecDepth 100000 in
theorem order32 (x : KtArg) (A2 : Option Addr) (c2 : Nat) (O : List Int) (w : World) (hS : SpR w x.A x.cap x.L) (hA0 : x.A = none → x.cap = 0) (hO : SlR w 1 (.slice A2 O.length c2) (O.map fun o => [.int .i64 o])) (hOb : ∀ o ∈ O, -9223372036854775808 ≤ o ∧ o ≤ 9223372036854775807) :
    Calls Try.prog 9 #[x.val, .slice A2 O.length c2] w fun e w' => e = .returned (.bool true) ∧ Below w.heap.size w w' := by
  obtain ⟨hi, lo, L, A, cap, s, c⟩ := x
  simp only [KtArg.val] at hS hA0 ⊢
  have hb1 : Below w.heap.size w (w.alloc (.cells (ktc hi lo A cap L s c).toArray 58)) := Below.alloc' (Below.self w) _
  have HB := Stow.mk hb1
  have HS := Stow.mk (hS.keep hb1)
  have HO := Stow.mk (SlR.keep hO hb1)
  have HH := Stow.mk (Held.made w (ktc hi lo A cap L s c) 58)
  have hlen := hS.len
  simp only [List.length_map] at hlen
  have HSM := Stow.mk (small_any A cap L _ HS.out hlen)
  obtain ⟨r, hr⟩ : ∃ r, smallB L = r := ⟨_, rfl⟩
  rw [hr] at HSM
  have HA0 := Stow.mk hA0
  have HOB := Stow.mk hOb
  clear hb1 hS hlen hA0 hO hOb
  cases r
  · clear hr
    unfold ktv
    go_enter Try.func9, Try.ntmps9
    go_wp2_with fail
    refine HSM.out.mono ?_
    rintro e w1 ⟨rfl, rfl⟩
    go_wp2_with fail
    refine (known32_any _).mono ?_
    rintro e wk ⟨rfl, hbk⟩
    have HBK := Stow.mk (HB.out.trans (hbk.mono HB.out.size))
    clear hbk
    go_wp2_with fail
    go_ret
    exact ⟨rfl, HBK.out⟩
  obtain ⟨hn, _, hkd⟩ := smallB_yes hr
  clear hr
  by_cases hol : 100 < O.length
  · have d1 : decide ((100 : Int) < O.length) = true := by simp; omega
    have d1' : decide (100 < O.length) = true := by simpa using hol
    clear hkd hol
    unfold ktv
    go_enter Try.func9, Try.ntmps9
    go_wp2_with fail
    refine HSM.out.mono ?_
    rintro e w1 ⟨rfl, rfl⟩
    go_wp2_with fail
    refine (known32_any _).mono ?_
    rintro e wk ⟨rfl, hbk⟩
    have HBK := Stow.mk (HB.out.trans (hbk.mono HB.out.size))
    clear hbk
    go_wp2_with fail
    go_ret
    exact ⟨rfl, HBK.out⟩
  have d1 : decide ((100 : Int) < O.length) = false := by simp; omega
  have d1' : decide (100 < O.length) = false := by simpa using hol
  have HKD := Stow.mk hkd
  have HN : Stow (L.length ≤ 100 ∧ O.length ≤ 100) := ⟨hn, by omega⟩
  have K1 : Stow (0 + L.length ≤ maxLen ∧ (0 + L.length) * 96 ≤ 140737488355328) := ⟨by unfold maxLen; omega, by omega⟩
  clear hkd hn hol
  unfold ktv
  go_enter Try.func9, Try.ntmps9
  go_wp2_with fail
  refine HSM.out.mono ?_
  rintro e w0 ⟨rfl, hw0⟩
  rw [← hw0] at HB HS HH HO
  have q0 := HH.out.cell (i := 0) rfl
  have q1 := HH.out.cell (i := 1) rfl
  have q2 := HH.out.cell (i := 2) rfl
  have q3 := HH.out.cell (i := 3) rfl
  have q4 := HH.out.cell (i := 4) rfl
  clear hw0 HSM
  go_wp2_with (at_builtin; refine wpList_append_slr (World.ownsRow_nil w0 w0.heap.size 66 11) (L.map Sp.cells) A L.length cap HS.out HA0.out sp_cells sp_one rfl (.tmp 24) (.tmp 26) 42 rfl Try.underlying42 info_sp rfl (by decide) rfl rfl K1.out.1 K1.out.2 (Nat.le_refl _) ?_; intro A4 c4 w4 h4 hg4 hb4; rw [Nat.zero_add] at h4 ⊢; rw [List.nil_append] at h4; have H4 := Stow.mk h4; have HB4 := Stow.mk hb4; clear h4 hb4 hg4)
  clear q0 q1 q2 q3 q4
  go_loopw [6] (fun u wr => ∃ i : Nat, u = .int .i64 (i : Int) ∧ i ≤ O.length ∧ i ≤ L.length ∧ Stow (∃ M f, Tr.Re L M f ∧ wr.ownsRow w0.heap.size 66 11 (.slice A4 L.length c4) L.length (M.map Sp.cells).flatten) ∧ Stow (Below w0.heap.size w0 wr)) (fun u _ => L.length - (intOf u).toNat)
  case atStart => exact ⟨0, rfl, by omega, by omega, ⟨L, id, Tr.Re.refl L, H4.out⟩, HB4⟩
  case round =>
    obtain ⟨i, rfl, hio_, hil, HM, HBR⟩ := hrel
    have hn2 := HN.out
    by_cases hlt : i < O.length ∧ i < L.length
    · obtain ⟨h1, h2⟩ := hlt
      have d2 : decide ((i : Int) < O.length) = true := by simpa using h1
      have d3 : decide ((i : Int) < L.length) = true := by simpa using h2
      go_upto_region 8 with fail
      go_cut [7] from 28 to 67 (fun v wx => ∃ p : Nat, v = .int .i64 (p : Int) ∧ i ≤ p ∧ p < L.length ∧ wx = wr)
      case first =>
        have HOW := Stow.mk (SlR.keep HO.out HBR.out)
        obtain ⟨bo, oo, rfl, _, _⟩ := HOW.out.open (by simp; omega)
        obtain ⟨_, hoc⟩ := HOW.out.cells (i := i) (by rw [List.getElem?_map, List.getElem?_eq_getElem h1]; rfl)
        have r0 := hoc 0 _ rfl
        simp only [Nat.mul_one, Nat.add_zero] at r0
        obtain ⟨o, ho⟩ : ∃ o, O[i] = o := ⟨_, rfl⟩
        have hob := HOB.out _ (List.getElem_mem h1)
        rw [ho] at r0 hob
        have e1 : IntKind.i64.wrap ((L.length : Int) - 1) = (L.length : Int) - 1 := IntWalk.i64_in _ (by omega)
        have e2 : IntKind.i64.wrap ((L.length : Int) - 1 - i) = (L.length : Int) - 1 - i := IntWalk.i64_in _ (by omega)
        have hi0 : (0 : Int) ≤ i := by omega
        have hio : (i : Int) < O.length := by omega
        clear hoc ho
        go_wp2_with fail
        all_goals
          go_meet
          first
            | exact ⟨i, rfl, by omega, by omega, rfl⟩
            | exact ⟨i + o.toNat, by congr 1; omega, by omega, by omega, rfl⟩
            | exact ⟨L.length - 1, by congr 1; omega, by omega, by omega, rfl⟩
      case rest =>
        obtain ⟨p, rfl, hip, hpl, hwx⟩ := hcut
        subst hwx
        obtain ⟨M, f, hRe, hrow⟩ := HM.out
        have hml := hRe.len
        obtain ⟨g, rfl, hgB, hgl⟩ : ∃ g, A4 = some ⟨g, 0, none⟩ ∧ w0.heap.size ≤ g ∧ g < wc.heap.size := by
          rcases hrow.2 with ⟨_, h⟩ | ⟨g, cp, cur, hv, hb, hg, _⟩
          · omega
          · simp only [Value.slice.injEq] at hv
            exact ⟨g, hv.1, hb, (Array.getElem?_eq_some_iff.1 hg).1⟩
        have hO1 : SpO wc w0.heap.size g c4 M := by unfold SpO; rw [hml]; exact hrow
        have hgne : g ≠ wc.heap.size := by omega
        have hsi := span_at hO1.spr (show i < M.length by omega)
        rw [← Tr.sp_in] at hsi
        have hpm : p < M.length := by omega
        have him : i < M.length := by omega
        have hX := hO1.alloc (.cells (Tr.sp M i).cells.toArray 66)
        have hX2 := hX.set him (Tr.sp M p)
        have HR1 := Stow.mk (hX.range hpm)
        have HT1 := Stow.mk (hX.there him)
        have HT2 := Stow.mk (hX2.there (i := p) (by rw [List.length_set]; exact hpm))
        have HR2 : Stow (((wc.alloc (.cells (Tr.sp M i).cells.toArray 66)).setCells g (i * 11) (Tr.sp M p).cells).rangeAt wc.heap.size 0 (Tr.sp M i).cells) := ⟨World.rangeAt_setCells_apart (fun j v hv => by
          rw [Nat.zero_add]
          exact (Held.made wc (Tr.sp M i).cells 66).cell hv) _ _ _ (.inl (fun e => hgne e.symm))⟩
        have HNEW : Stow (∃ M' f, Tr.Re L M' f ∧ (World.setCells (World.setCells (wc.alloc (.cells (Tr.sp M i).cells.toArray 66)) g (i * 11) (Tr.sp M p).cells) g (p * 11) (Tr.sp M i).cells).ownsRow w0.heap.size 66 11 (.slice (some ⟨g, 0, none⟩) L.length c4) L.length (M'.map Sp.cells).flatten) := ⟨by
          obtain ⟨f', hf'⟩ := hRe.swap2 him hpm
          refine ⟨_, f', hf', ?_⟩
          have := hX2.set (i := p) (by rw [List.length_set]; exact hpm) (Tr.sp M i)
          unfold SpO at this
          simp only [List.length_set, hml] at this
          exact this⟩
        have HBN : Stow (Below w0.heap.size w0 (World.setCells (World.setCells (wc.alloc (.cells (Tr.sp M i).cells.toArray 66)) g (i * 11) (Tr.sp M p).cells) g (p * 11) (Tr.sp M i).cells)) := ⟨by
          have h0 := HBR.out.alloc HBR.out.size (.cells (Tr.sp M i).cells.toArray 66)
          exact h0.trans (((only_setAll (Tr.sp M p).cells _ (i * 11)).trans (only_setAll (Tr.sp M i).cells _ (p * 11))).below hgB h0.size)⟩
        obtain ⟨s1, hs1⟩ : ∃ s1, Tr.sp M i = s1 := ⟨_, rfl⟩
        obtain ⟨s2, hs2⟩ : ∃ s2, Tr.sp M p = s2 := ⟨_, rfl⟩
        rw [hs1] at hsi HR1 HT1 HT2 HR2 HNEW HBN
        rw [hs2] at HR1 HT2 HR2 HNEW HBN
        obtain ⟨_, a0, a1, a2, a3, a4, a5, a6, a7, a8, a9, a10⟩ := hsi
        simp only [Nat.zero_add] at a0 a1 a2 a3 a4 a5 a6 a7 a8 a9 a10
        have hii : (i : Int) < L.length := by omega
        have hpp : (p : Int) < L.length := by omega
        have hi0 : (0 : Int) ≤ i := by omega
        have hp0 : (0 : Int) ≤ p := by omega
        clear hO1 hrow hRe hs1 hs2 hml HM hX hX2
        go_upto_region 10 with fail
        clear a0 a1 a2 a3 a4 a5 a6 a7 a8 a9 a10
        go_upto_region 11 with (first
          | (refine wpList_load_mid rfl 66 (.tmp 61) rfl g (p * 11) rfl s2.cells _ HR1.out Try.underlying66 rfl (by rw [Sp.cells_len]; kernel_rfl) ?_)
          | (refine wpList_store_here rfl 66 (.tmp 63) (.tmp 62) rfl rfl g (i * 11) s2.cells rfl rfl HT1.out (by rw [Sp.cells_len]; kernel_rfl) (Sp.one s2) ?_))
        generalize hW2 : World.setCells _ _ _ _ = W2
        obtain ⟨W1, hW1⟩ : ∃ W1, (wc.alloc (.cells s1.cells.toArray 66)).setCells g (i * 11) s2.cells = W1 := ⟨_, rfl⟩
        obtain rfl : W2 = W1 := hW2.symm.trans hW1
        rw [hW1] at HT2 HR2 HNEW HBN
        clear hW1 hW2 HR1 HT1 hgne hgl
        go_upto_region 7 with (first
          | (refine wpList_load_mid rfl 66 (.tmp 8) rfl wc.heap.size 0 rfl s1.cells _ HR2.out Try.underlying66 rfl (by rw [Sp.cells_len]; kernel_rfl) ?_)
          | (refine wpList_store_here rfl 66 (.tmp 67) (.tmp 66) rfl rfl g (p * 11) s1.cells rfl rfl HT2.out (by rw [Sp.cells_len]; kernel_rfl) (Sp.one s1) ?_))
        generalize World.setCells _ _ _ _ = W3 at HNEW HBN ⊢
        clear HT2 HR2
        go_wp2_with fail
        exact ⟨⟨i + 1, rfl, by omega, by omega, HNEW, HBN⟩, by simp [intOf]; omega⟩
    · have HW := Stow.mk (HB.out.trans (HBR.out.mono HB.out.size))
      have HSW := Stow.mk (SlR.keep HS.out HBR.out)
      have HHW := Stow.mk (HH.out.kept HBR.out)
      have HSA : Stow (∃ M f, Tr.Re L M f ∧ SlR wr 11 (.slice A4 L.length c4) (M.map Sp.cells)) := ⟨by
        obtain ⟨M, f, h1, h2⟩ := HM.out
        exact ⟨M, f, h1, SlR.of_own h2 (by rw [List.length_map]; exact h1.len) (flat_at sp_cells)⟩⟩
      have q0 := HHW.out.cell (i := 0) rfl
      have q1 := HHW.out.cell (i := 1) rfl
      have q2 := HHW.out.cell (i := 2) rfl
      have q3 := HHW.out.cell (i := 3) rfl
      have q4 := HHW.out.cell (i := 4) rfl
      have hsz : w.heap.size < wr.heap.size := HHW.out.lt
      have hsne : (w.heap.size == wr.heap.size) = false := by simp; omega
      have hsne2 : w.heap.size ≠ wr.heap.size := by omega
      clear HM HBR HB HS HO HH H4 HB4 HOB
      obtain ⟨M, f, hRe, hsm⟩ := HSA.out
      have hml := hRe.len
      have hSM : SpR wr A4 c4 M := by unfold SpR; rw [hml]; exact hsm
      have hkM : KdOk M := fun s hs => HKD.out s (hRe.perm.mem_iff.2 hs)
      obtain ⟨e1, e2, e3⟩ := hRe.same s c
      have hn3 := HN.out.1
      have HT1 : Stow (∀ W, SpR W A cap L → _) := ⟨fun W h => vdTree_any A cap hi lo L s c W h (by omega) HKD.out⟩
      have HO1 : Stow (∀ W, SpR W A cap L → _) := ⟨fun W h => vdOf_any A cap hi lo L s c W h (by omega) HKD.out⟩
      have HL1 : Stow (∀ W, SpR W A cap L → _) := ⟨fun W h => vdLacks_any A cap hi lo L s c W h (by omega) HKD.out⟩
      have HT2 : Stow (∀ W, SpR W A4 c4 M → _) := ⟨fun W h => vdTree_any A4 c4 hi lo M s c W h (by omega) hkM⟩
      have HO2 : Stow (∀ W, SpR W A4 c4 M → _) := ⟨fun W h => vdOf_any A4 c4 hi lo M s c W h (by omega) hkM⟩
      have HL2 : Stow (∀ W, SpR W A4 c4 M → _) := ⟨fun W h => vdLacks_any A4 c4 hi lo M s c W h (by omega) hkM⟩
      rw [← e1, ← e3] at HT2
      rw [← e1] at HO2
      rw [← e2] at HL2
      have HVE : Stow (ktv hi lo A4 c4 M s c = .agg #[.int .u64 (hi : Int), .int .u64 (lo : Int), .slice A4 L.length c4, .bool s, .bool c]) := ⟨by unfold ktv; rw [hml]⟩
      rw [HVE.out] at HT2 HO2 HL2
      obtain ⟨T, hT⟩ : ∃ M, Tr.treeN L s c = M := ⟨_, rfl⟩
      obtain ⟨n, hnn⟩ : ∃ M, Tr.said L s c = M := ⟨_, rfl⟩
      obtain ⟨m, hm⟩ : ∃ M, Tr.lacks L = M := ⟨_, rfl⟩
      rw [hT, hnn] at HT1 HT2
      rw [hnn] at HO1 HO2
      rw [hm] at HL1 HL2
      obtain ⟨b, hb⟩ : ∃ b, decide (n = 1) = b := ⟨_, rfl⟩
      rw [hb] at HT1 HT2
      have HY := Stow.mk (Held.made wr [.int .u64 (hi : Int), .int .u64 (lo : Int), .slice A4 L.length c4, .bool s, .bool c] 58)
      have HAL := Stow.mk (Below.alloc' (Below.self wr) (.cells #[.int .u64 (hi : Int), .int .u64 (lo : Int), .slice A4 L.length c4, .bool s, .bool c] 58))
      have HSM := Stow.mk (SlR.keep hSM HAL.out)
      have HSL := Stow.mk (SlR.keep HSW.out HAL.out)
      have HHL := Stow.mk (HHW.out.kept HAL.out)
      have HWL := Stow.mk (HW.out.trans (HAL.out.mono HW.out.size))
      have hdd : (decide ((i : Int) < O.length) = false ∧ decide (i < O.length) = false) ∨ ((decide ((i : Int) < O.length) = true ∧ decide (i < O.length) = true) ∧ decide ((i : Int) < L.length) = false ∧ decide (i < L.length) = false) := by
        by_cases h : i < O.length
        · exact .inr ⟨⟨by simp; omega, by simpa using h⟩, by simp; omega, by simp; omega⟩
        · exact .inl ⟨by simp; omega, by simpa using h⟩
      clear hRe hsm hSM hkM e1 e2 e3 hT hnn hm hb hml HSA HVE hlt
      rcases hdd with ⟨d2, d2'⟩ | ⟨⟨d2, d2'⟩, d3, d3'⟩
      · go_wp2_with fail
        refine (HT1.out _ HSL.out).mono ?_
        rintro e w5 ⟨vA5, vc5, rfl, hN5, hb5⟩
        have HW5 := Stow.mk (HWL.out.trans (hb5.mono HWL.out.size))
        have HS5 := Stow.mk (SlR.keep HSL.out hb5)
        have HM5 := Stow.mk (SlR.keep HSM.out hb5)
        have HH5 := Stow.mk (HHL.out.kept hb5)
        have HY5 := Stow.mk (HY.out.kept hb5)
        have HN5 := Stow.mk hN5
        clear q0 q1 q2 q3 q4 hb5 hN5
        have q0 := HY5.out.cell (i := 0) rfl
        have q1 := HY5.out.cell (i := 1) rfl
        have q2 := HY5.out.cell (i := 2) rfl
        have q3 := HY5.out.cell (i := 3) rfl
        have q4 := HY5.out.cell (i := 4) rfl
        go_wp2_with fail
        refine (HT2.out _ HM5.out).mono ?_
        rintro e w6 ⟨vA6, vc6, rfl, hN6, hb6⟩
        have HW6 := Stow.mk (HW5.out.trans (hb6.mono HW5.out.size))
        have HS6 := Stow.mk (SlR.keep HS5.out hb6)
        have HM6 := Stow.mk (SlR.keep HM5.out hb6)
        have HH6 := Stow.mk (HH5.out.kept hb6)
        have HY6 := Stow.mk (HY5.out.kept hb6)
        have HN56 := Stow.mk (SlR.keep HN5.out hb6)
        have HN6 := Stow.mk hN6
        clear q0 q1 q2 q3 q4 hb6 hN6 HT1 HT2
        have ltX := HH6.out.lt
        have ltY := HY6.out.lt
        have g0 : ∀ x : Later w6.heap.size w6, x.1.cell? ⟨w.heap.size, 0, none⟩ = _ := fun x => x.cell (HH6.out.cell (i := 0) rfl) ltX
        have g1 : ∀ x : Later w6.heap.size w6, x.1.cell? ⟨w.heap.size, 1, none⟩ = _ := fun x => x.cell (HH6.out.cell (i := 1) rfl) ltX
        have g2 : ∀ x : Later w6.heap.size w6, x.1.cell? ⟨w.heap.size, 2, none⟩ = _ := fun x => x.cell (HH6.out.cell (i := 2) rfl) ltX
        have g3 : ∀ x : Later w6.heap.size w6, x.1.cell? ⟨w.heap.size, 3, none⟩ = _ := fun x => x.cell (HH6.out.cell (i := 3) rfl) ltX
        have g4 : ∀ x : Later w6.heap.size w6, x.1.cell? ⟨w.heap.size, 4, none⟩ = _ := fun x => x.cell (HH6.out.cell (i := 4) rfl) ltX
        have y0 : ∀ x : Later w6.heap.size w6, x.1.cell? ⟨wr.heap.size, 0, none⟩ = _ := fun x => x.cell (HY6.out.cell (i := 0) rfl) ltY
        have y1 : ∀ x : Later w6.heap.size w6, x.1.cell? ⟨wr.heap.size, 1, none⟩ = _ := fun x => x.cell (HY6.out.cell (i := 1) rfl) ltY
        have y2 : ∀ x : Later w6.heap.size w6, x.1.cell? ⟨wr.heap.size, 2, none⟩ = _ := fun x => x.cell (HY6.out.cell (i := 2) rfl) ltY
        have y3 : ∀ x : Later w6.heap.size w6, x.1.cell? ⟨wr.heap.size, 3, none⟩ = _ := fun x => x.cell (HY6.out.cell (i := 3) rfl) ltY
        have y4 : ∀ x : Later w6.heap.size w6, x.1.cell? ⟨wr.heap.size, 4, none⟩ = _ := fun x => x.cell (HY6.out.cell (i := 4) rfl) ltY
        have hbb : (b == b) = true := by simp
        have hnn : ((n : Int) == n) = true := by simp
        have hmm : (m == m) = true := by simp
        go_wp2_with fail
        refine wp_region_later w6.heap.size (by kernel_rfl) (by kernel_rfl) ?_
        repeat (go_big_quiet_step (first
          | (go_at_call_of 42 cap; exact Calls.later (Nat.le_refl _) (HO1.out _ (SlR.keep HS6.out (Subtype.property _))))
          | (go_at_call_of 42 c4; exact Calls.later (Nat.le_refl _) (HO2.out _ (SlR.keep HM6.out (Subtype.property _))))
          | (go_at_call_of 44 cap; exact Calls.later (Nat.le_refl _) (HL1.out _ (SlR.keep HS6.out (Subtype.property _))))
          | (go_at_call_of 44 c4; exact Calls.later (Nat.le_refl _) (HL2.out _ (SlR.keep HM6.out (Subtype.property _))))
          | (go_at_call 34; exact Calls.later (Nat.le_refl _) (ndSame_any T vA5 vA6 vc5 vc6 _ (SlR.keep HN56.out (Subtype.property _)) (SlR.keep HN6.out (Subtype.property _))))
          | (go_at_call 39; exact Calls.later (Nat.le_refl _) (known32_any _))))
        refine wpQuiet_nil ?_
        rintro ⟨wx, hbx⟩
        have HBX := Stow.mk (HW6.out.trans (hbx.mono HW6.out.size))
        clear g0 g1 g2 g3 g4 y0 y1 y2 y3 y4
        go_wp2_with fail
        go_ret
        exact ⟨rfl, HBX.out⟩
      · go_wp2_with fail
        refine (HT1.out _ HSL.out).mono ?_
        rintro e w5 ⟨vA5, vc5, rfl, hN5, hb5⟩
        have HW5 := Stow.mk (HWL.out.trans (hb5.mono HWL.out.size))
        have HS5 := Stow.mk (SlR.keep HSL.out hb5)
        have HM5 := Stow.mk (SlR.keep HSM.out hb5)
        have HH5 := Stow.mk (HHL.out.kept hb5)
        have HY5 := Stow.mk (HY.out.kept hb5)
        have HN5 := Stow.mk hN5
        clear q0 q1 q2 q3 q4 hb5 hN5
        have q0 := HY5.out.cell (i := 0) rfl
        have q1 := HY5.out.cell (i := 1) rfl
        have q2 := HY5.out.cell (i := 2) rfl
        have q3 := HY5.out.cell (i := 3) rfl
        have q4 := HY5.out.cell (i := 4) rfl
        go_wp2_with fail
        refine (HT2.out _ HM5.out).mono ?_
        rintro e w6 ⟨vA6, vc6, rfl, hN6, hb6⟩
        have HW6 := Stow.mk (HW5.out.trans (hb6.mono HW5.out.size))
        have HS6 := Stow.mk (SlR.keep HS5.out hb6)
        have HM6 := Stow.mk (SlR.keep HM5.out hb6)
        have HH6 := Stow.mk (HH5.out.kept hb6)
        have HY6 := Stow.mk (HY5.out.kept hb6)
        have HN56 := Stow.mk (SlR.keep HN5.out hb6)
        have HN6 := Stow.mk hN6
        clear q0 q1 q2 q3 q4 hb6 hN6 HT1 HT2
        have ltX := HH6.out.lt
        have ltY := HY6.out.lt
        have g0 : ∀ x : Later w6.heap.size w6, x.1.cell? ⟨w.heap.size, 0, none⟩ = _ := fun x => x.cell (HH6.out.cell (i := 0) rfl) ltX
        have g1 : ∀ x : Later w6.heap.size w6, x.1.cell? ⟨w.heap.size, 1, none⟩ = _ := fun x => x.cell (HH6.out.cell (i := 1) rfl) ltX
        have g2 : ∀ x : Later w6.heap.size w6, x.1.cell? ⟨w.heap.size, 2, none⟩ = _ := fun x => x.cell (HH6.out.cell (i := 2) rfl) ltX
        have g3 : ∀ x : Later w6.heap.size w6, x.1.cell? ⟨w.heap.size, 3, none⟩ = _ := fun x => x.cell (HH6.out.cell (i := 3) rfl) ltX
        have g4 : ∀ x : Later w6.heap.size w6, x.1.cell? ⟨w.heap.size, 4, none⟩ = _ := fun x => x.cell (HH6.out.cell (i := 4) rfl) ltX
        have y0 : ∀ x : Later w6.heap.size w6, x.1.cell? ⟨wr.heap.size, 0, none⟩ = _ := fun x => x.cell (HY6.out.cell (i := 0) rfl) ltY
        have y1 : ∀ x : Later w6.heap.size w6, x.1.cell? ⟨wr.heap.size, 1, none⟩ = _ := fun x => x.cell (HY6.out.cell (i := 1) rfl) ltY
        have y2 : ∀ x : Later w6.heap.size w6, x.1.cell? ⟨wr.heap.size, 2, none⟩ = _ := fun x => x.cell (HY6.out.cell (i := 2) rfl) ltY
        have y3 : ∀ x : Later w6.heap.size w6, x.1.cell? ⟨wr.heap.size, 3, none⟩ = _ := fun x => x.cell (HY6.out.cell (i := 3) rfl) ltY
        have y4 : ∀ x : Later w6.heap.size w6, x.1.cell? ⟨wr.heap.size, 4, none⟩ = _ := fun x => x.cell (HY6.out.cell (i := 4) rfl) ltY
        have hbb : (b == b) = true := by simp
        have hnn : ((n : Int) == n) = true := by simp
        have hmm : (m == m) = true := by simp
        go_wp2_with fail
        refine wp_region_later w6.heap.size (by kernel_rfl) (by kernel_rfl) ?_
        repeat (go_big_quiet_step (first
          | (go_at_call_of 42 cap; exact Calls.later (Nat.le_refl _) (HO1.out _ (SlR.keep HS6.out (Subtype.property _))))
          | (go_at_call_of 42 c4; exact Calls.later (Nat.le_refl _) (HO2.out _ (SlR.keep HM6.out (Subtype.property _))))
          | (go_at_call_of 44 cap; exact Calls.later (Nat.le_refl _) (HL1.out _ (SlR.keep HS6.out (Subtype.property _))))
          | (go_at_call_of 44 c4; exact Calls.later (Nat.le_refl _) (HL2.out _ (SlR.keep HM6.out (Subtype.property _))))
          | (go_at_call 34; exact Calls.later (Nat.le_refl _) (ndSame_any T vA5 vA6 vc5 vc6 _ (SlR.keep HN56.out (Subtype.property _)) (SlR.keep HN6.out (Subtype.property _))))
          | (go_at_call 39; exact Calls.later (Nat.le_refl _) (known32_any _))))
        refine wpQuiet_nil ?_
        rintro ⟨wx, hbx⟩
        have HBX := Stow.mk (HW6.out.trans (hbx.mono HW6.out.size))
        clear g0 g1 g2 g3 g4 y0 y1 y2 y3 y4
        go_wp2_with fail
        go_ret
        exact ⟨rfl, HBX.out⟩
theorem order32_at (x : KtArg) (v : Value) (w : World) (hx : SpR w x.A x.cap x.L ∧ (x.A = none → x.cap = 0)) (hv : pSlice w 1 intsCells v) : Calls Try.prog 9 #[x.val, v] w fun e w' => e = .returned (.bool true) ∧ Below w.heap.size w w' := by
  obtain ⟨O, A2, c2, rfl, hO, hOb⟩ := ints_of hv
  exact order32 x A2 c2 O w hx.1 hx.2 hO hOb
end Go.Proofs.Ythbpcdoddcacdaa
