/- Headers in a row of the call's own: clone, delete by names, add, set. Condition: not more headers than 2^40. -/
import Derived.Test.YtfbhdkkmcfnghaaGreatDoorHeadRef
import Derived.Test.YtfbhdkkmcfnghaaGreatDoorTsRead
namespace Go.Proofs.YtfbhdkkmcfnghaaGreatDoor
open Go.RowKit
set_option linter.unusedVariables false

/-- A slice of headers of the call's own. -/
def ORow (w : World) (B : Nat) (v : Value) (L : List Hd) : Prop := w.ownsRow B 64 2 v L.length (L.flatMap Hd.cells)
theorem o_info : (Tryz.prog.info? 64).map (fun i => (i.zero, i.size, i.bytes)) = some (some (.agg #[.string ⟨#[]⟩, .string ⟨#[]⟩]), 2, 32) := by kernel_rfl
theorem hd_flat_len (L : List Hd) : (L.flatMap Hd.cells).length = L.length * 2 := by
  induction L with
  | nil => rfl
  | cons p t ih => simp only [List.flatMap_cons, List.length_append, ih, List.length_cons, Hd.cells, List.length_nil]; omega
theorem hd_flat_one {L : List Hd} : ∀ u ∈ L.flatMap Hd.cells, u.oneCell' = true := by
  intro u hu
  obtain ⟨p, _, hp⟩ := List.mem_flatMap.1 hu
  simp [Hd.cells] at hp
  rcases hp with rfl | rfl <;> rfl
theorem ORow.slr {w : World} {B : Nat} {v : Value} {L : List Hd} (h : ORow w B v L) : SlR w 2 v (L.map Hd.cells) := by
  refine SlR.of_own h (by simp) fun i x hi j u hu => ?_
  have e : L.flatMap Hd.cells = (L.map Hd.cells).flatten := by rw [List.flatMap_def]
  rw [e]
  exact flat_at (c := 2) (fun x hx => by obtain ⟨m, _, rfl⟩ := List.mem_map.1 hx; rfl) i x hi j u hu
theorem ORow.nil (w : World) (B : Nat) : ORow w B (.slice none 0 0) [] := ⟨rfl, .inl ⟨rfl, rfl⟩⟩
theorem ORow.kept {w w' : World} {B : Nat} {v : Value} {L : List Hd} (h : ORow w B v L) (hb : Below w.heap.size w w') : ORow w' B v L := own_kept h hb
theorem ORow.form {w : World} {B : Nat} {v : Value} {L : List Hd} (h : ORow w B v L) : ∃ A cap, v = .slice A L.length cap := own_form h
theorem ORow.base {w : World} {B B' : Nat} {v : Value} {L : List Hd} (h : ORow w B' v L) (hle : B ≤ B') : ORow w B v L := by
  refine ⟨h.1, ?_⟩
  rcases h.2 with h | ⟨g, cap, cur, hv, hb, r⟩
  · exact .inl h
  · exact .inr ⟨g, cap, cur, hv, by omega, r⟩
/-- A row that is not empty has a block. -/
theorem ORow.block {w : World} {B n cap : Nat} {A : Option Addr} {L : List Hd} (h : ORow w B (.slice A n cap) L) (h0 : 0 < L.length) : ∃ g, A = some ⟨g, 0, none⟩ ∧ n = L.length ∧ B ≤ g ∧ g < w.heap.size ∧ L.length ≤ cap ∧ cap ≤ maxLen := by
  rcases h.2 with ⟨_, h3⟩ | ⟨g, cap', cur, hv, hg, hh, hn, hc, _⟩
  · omega
  · simp only [Value.slice.injEq] at hv
    obtain ⟨rfl, rfl, rfl⟩ := hv
    exact ⟨g, rfl, rfl, hg, (Array.getElem?_eq_some_iff.1 hh).1, hn, hc⟩
theorem ORow.len_eq {w : World} {B n cap : Nat} {A : Option Addr} {L : List Hd} (h : ORow w B (.slice A n cap) L) : n = L.length := by
  rcases h.2 with ⟨hv, h3⟩ | ⟨g, cap', cur, hv, _⟩
  · simp only [Value.slice.injEq] at hv
    omega
  · simp only [Value.slice.injEq] at hv
    exact hv.2.1
theorem ORow.free {w : World} {B n cap g : Nat} {L : List Hd} (h : ORow w B (.slice (some ⟨g, 0, none⟩) n cap) L) (k : Nat) : w.frozen? ⟨g, k, none⟩ = false := by
  obtain rfl := h.len_eq
  exact World.ownsRow.frozenAt h k
theorem ORow.there {w : World} {B n cap g : Nat} {L : List Hd} (h : ORow w B (.slice (some ⟨g, 0, none⟩) n cap) L) (k : Nat) (hk : k < L.length * 2) : (w.cell? ⟨g, k, none⟩).isSome = true := by
  obtain rfl := h.len_eq
  have h1 := World.ownsRow.cells h rfl k ((L.flatMap Hd.cells)[k]'(by rw [hd_flat_len]; exact hk)) (List.getElem?_eq_getElem _)
  rw [Addr.add_lit, Nat.zero_add] at h1
  rw [h1]; rfl
theorem own_cut {w : World} {B : Nat} {e : TypeId} {size : Nat} {A : Option Addr} {n cap k : Nat} {xs : List Value} (h : w.ownsRow B e size (.slice A n cap) n xs) (hk : k ≤ n) (h0 : 0 < n) : w.ownsRow B e size (.slice A k cap) k (xs.take (k * size)) := by
  obtain ⟨h1, h2⟩ := h
  rcases h2 with ⟨_, h3⟩ | ⟨g, cap', cur, hv, hg, hh, hn, hc, hs, ht⟩
  · omega
  · simp only [Value.slice.injEq] at hv
    obtain ⟨rfl, _, rfl⟩ := hv
    have hle : k * size ≤ n * size := Nat.mul_le_mul_right _ hk
    refine ⟨by simp; omega, .inr ⟨g, cap, cur, rfl, hg, hh, by omega, hc, hs, ?_⟩⟩
    rw [← ht, List.take_take]
    congr 1
    omega
theorem hd_flat_take (L : List Hd) : ∀ k, (L.flatMap Hd.cells).take (k * 2) = (L.take k).flatMap Hd.cells := by
  induction L with
  | nil => intro k; simp
  | cons p t ih =>
    intro k
    cases k with
    | zero => simp
    | succ k =>
      have := ih k
      simp only [List.flatMap_cons, List.take_succ_cons, Hd.cells, List.cons_append, List.nil_append, Nat.succ_mul]
      simp [this]
theorem hd_flat_set (L : List Hd) (x : Hd) : ∀ k, k < L.length → (L.set k x).flatMap Hd.cells = ((L.flatMap Hd.cells).set (k * 2) (.string (bs x.1))).set (k * 2 + 1) (.string (bs x.2)) := by
  induction L with
  | nil => intro k h; simp at h
  | cons p t ih =>
    intro k h
    cases k with
    | zero => simp [Hd.cells]
    | succ k =>
      have := ih k (by simpa using h)
      simp only [List.set_cons_succ, List.flatMap_cons, Hd.cells, List.cons_append, List.nil_append, Nat.succ_mul, this]
theorem ORow.cut {w : World} {B : Nat} {A : Option Addr} {n cap k : Nat} {L : List Hd} (h : ORow w B (.slice A n cap) L) (hn : n = L.length) (hk : k ≤ L.length) (h0 : 0 < L.length) : ORow w B (.slice A k cap) (L.take k) := by
  subst hn
  have := own_cut h hk h0
  rw [hd_flat_take] at this
  unfold ORow
  rw [show (L.take k).length = k by simp; omega]
  exact this
theorem ORow.put {w : World} {B g cap : Nat} {L : List Hd} (h : ORow w B (.slice (some ⟨g, 0, none⟩) L.length cap) L) (k : Nat) (hk : k < L.length) (x : Hd) :
    ORow ((w.setCell ⟨g, k * 2, none⟩ (.string (bs x.1))).setCell ⟨g, k * 2 + 1, none⟩ (.string (bs x.2))) B (.slice (some ⟨g, 0, none⟩) L.length cap) (L.set k x) := by
  have h1 := (World.ownsRow.stored h (k * 2) (.string (bs x.1))).1
  have h2 := (World.ownsRow.stored h1 (k * 2 + 1) (.string (bs x.2))).1
  rw [← hd_flat_set L x k hk] at h2
  unfold ORow
  rw [List.length_set]
  exact h2
theorem own_sets {B : Nat} {e : TypeId} {size g n cap : Nat} : ∀ (vs : List Value) (o : Nat) (w : World) (xs : List Value), w.ownsRow B e size (.slice (some ⟨g, 0, none⟩) n cap) n xs → ∃ ys, (w.setCells g o vs).ownsRow B e size (.slice (some ⟨g, 0, none⟩) n cap) n ys ∧ ∀ k, k ≤ o → ys.take k = xs.take k
  | [], o, w, xs, h => ⟨xs, h, fun _ _ => rfl⟩
  | v :: vs, o, w, xs, h => by
    obtain ⟨ys, h1, h2⟩ := own_sets vs (o + 1) (w.setCell ⟨g, o, none⟩ v) _ (World.ownsRow.stored h o v).1
    refine ⟨ys, h1, fun k hk => ?_⟩
    rw [h2 k (by omega), List.take_set, List.set_eq_of_length_le (by simp; omega)]
/-- The rest is cleared and cut off. -/
theorem ORow.wipe {w : World} {B g cap : Nat} {L : List Hd} (h : ORow w B (.slice (some ⟨g, 0, none⟩) L.length cap) L) (k : Nat) (hk : k ≤ L.length) (h0 : 0 < L.length) (vs : List Value) :
    ORow (w.setCells g (k * 2) vs) B (.slice (some ⟨g, 0, none⟩) k cap) (L.take k) := by
  obtain ⟨ys, h1, h2⟩ := own_sets vs (k * 2) w _ h
  have := own_cut h1 hk h0
  rw [h2 _ (Nat.le_refl _), hd_flat_take] at this
  unfold ORow
  rw [show (L.take k).length = k by simp; omega]
  exact this
theorem below_wipe {B : Nat} {w : World} {b : Nat} (hb : B ≤ b) : ∀ (vs : List Value) (o : Nat) (w' : World), Below B w w' → Below B w (w'.setCells b o vs)
  | [], _, _, h => h
  | v :: vs, o, w', h => below_wipe hb vs (o + 1) _ (h.setCell (p := ⟨b, o, none⟩) hb v)

set_option maxHeartbeats 1000000 in
set_option maxRecDepth 100000 in
theorem hdClone_any (A : Option Addr) (cap : Nat) (L : List Hd) (w : World) (hS : SlR w 2 (.slice A L.length cap) (L.map Hd.cells)) (hn : L.length ≤ 1099511627776) :
    Calls Tryz.prog 98 #[.slice A L.length cap] w fun e w' => ∃ v, e = .returned v ∧ ORow w' w.heap.size v L ∧ Below w.heap.size w w' := by
  have hq : ∀ (w : World) (a : Option Addr) (n c n' c' : Nat), (binOp .eql 22 (.slice a n c) (.slice none n' c')).run Tryz.prog w = .ok (.bool a.isNone) w := fun w a n c n' c' => Lib.run_eql_slice_nil w _ _ a n c n' c' Tryz.underlying22
  cases A with
  | none =>
    have hL : L = [] := by
      rcases List.eq_nil_or_concat L with h | ⟨t, b, h⟩
      · exact h
      · obtain ⟨b', off, hA, _⟩ := hS.open (by rw [h]; simp)
        cases hA
    subst hL
    go_enter Tryz.func98, Tryz.ntmps98
    go_wp2_with fail
    go_ret
    exact ⟨_, rfl, ORow.nil _ _, Below.self _⟩
  | some ad =>
    have hc : ∀ j u, (L.flatMap Hd.cells)[j]? = some u → w.cell? (ad.add j) = some u := by
      intro j u hj
      have hjl : j < L.length * 2 := by
        rcases Nat.lt_or_ge j (L.flatMap Hd.cells).length with h | h
        · rw [hd_flat_len] at h; exact h
        · simp [List.getElem?_eq_none h] at hj
      obtain ⟨b, off, hA, hb, hc⟩ := hS.open (by simp; omega)
      obtain rfl := Option.some.inj hA
      have hk : j / 2 < L.length := by omega
      have hx : (L.map Hd.cells)[j / 2]? = some (L[j / 2].cells) := by rw [List.getElem?_map, List.getElem?_eq_getElem hk]; rfl
      have hm : j % 2 < 2 := Nat.mod_lt _ (by omega)
      obtain ⟨u', hu'⟩ : ∃ u', (L[j / 2].cells)[j % 2]? = some u' := ⟨(L[j / 2].cells)[j % 2]'hm, List.getElem?_eq_getElem (l := L[j / 2].cells) hm⟩
      have h1 := hc (j / 2) _ hx (j % 2) u' hu'
      have h2 := flat_at (c := 2) (L := L.map Hd.cells) (fun x hx => by obtain ⟨m, _, rfl⟩ := List.mem_map.1 hx; rfl) (j / 2) _ hx (j % 2) u' hu'
      have e3 : j / 2 * 2 + j % 2 = j := by omega
      rw [e3, ← List.flatMap_def, hj] at h2
      obtain rfl := Option.some.inj h2
      rw [Nat.add_assoc, e3] at h1
      rw [Addr.add_lit]
      exact h1
    have HC := Stow.mk hc
    have HL := Stow.mk (hd_flat_len L)
    have H1 := Stow.mk (hd_flat_one (L := L))
    clear hc hS
    obtain ⟨i0, hi, hz, hsz, hby⟩ := info_parts o_info
    go_enter Tryz.func98, Tryz.ntmps98
    go_wp2_with (at_builtin; refine wpList_append_own _ rfl _ _ 22 rfl w.heap.size 64 i0 _ 2 32 Tryz.underlying22 hi hz hsz hby rfl (by decide) _ _ _ rfl (World.ownsRow_made w #[] 0 (Nat.le_refl _) (Nat.zero_le _) (by simp)) ad L.length cap (L.flatMap Hd.cells) rfl HL.out ?qc2 H1.out ?qc4 ?qc5 ?qc6 ?_)
    case qc2 => exact fun j u hj => Lib.cell?_alloc_some _ (HC.out j u hj)
    case qc4 => rw [Nat.zero_add]; unfold maxLen; omega
    case qc5 => rw [Nat.zero_add]; omega
    case qc6 => simp
    intro v' w1 hown hgrow hnil
    go_wp2_with fail
    go_ret
    refine ⟨v', rfl, by unfold ORow; simpa using hown, ?_⟩
    exact ((Below.refl _ w).alloc (Nat.le_refl _) _).grown hgrow (by simp) (by intro k hk; simp [Value.ownBlock] at hk; omega)

theorem run_clear_heads (w : World) (t e ty : TypeId) (ht : (Tryz.prog).underlying t = some (.slice e)) (hv : ∀ w, (zeroValue e).run Tryz.prog w = .ok (.agg #[.string ⟨#[]⟩, .string ⟨#[]⟩]) w) (b o n c : Nat) (hn : 0 < n)
    (hc : ∀ j, j < n * 2 → (w.cell? ⟨b, o + j, none⟩).isSome = true) (hf : ∀ j, j < n * 2 → w.frozen? ⟨b, o + j, none⟩ = false) :
    (Builtin.clear_ #[t] ty #[.slice (some ⟨b, o, none⟩) n c]).run Tryz.prog w = .ok (.tuple #[]) (w.setCells b o (List.replicate (n * 2) (.string ⟨#[]⟩))) := by
  have hzc : (Builtin.zeroCells (Value.agg #[.string ⟨#[]⟩, .string ⟨#[]⟩]).cells n).toList = List.replicate (n * 2) (.string ⟨#[]⟩) := by
    simp [Builtin.zeroCells, Value.cells]
    apply List.ext_getElem
    · simp
    · intro i h1 h2
      have : i % 2 = 0 ∨ i % 2 = 1 := by omega
      rcases this with h | h <;> simp [h]
  have hst := run_storeCells_cells (P := Tryz.prog) b o (List.replicate (n * 2) (.string ⟨#[]⟩)) 0 w (by simpa using hc) (by simpa using hf) (by intro v hv'; rw [List.eq_of_mem_replicate hv']; rfl)
  simp only [Nat.add_zero] at hst
  obtain ⟨m, rfl⟩ : ∃ m, n = m + 1 := ⟨n - 1, by omega⟩
  simp [Builtin.clear_, run_underlying ht, hv, hzc, hst]

/-- Is a text among some? -/
def inNames (N : List (List UInt8)) (x : List UInt8) : Bool := N.any fun y => x == y
theorem inNames_no {N : List (List UInt8)} {x : List UInt8} (h : ∀ y ∈ N, (x == y) = false) : inNames N x = false := by
  unfold inNames
  rw [List.any_eq_false]
  intro y hy
  simp [h y hy]
theorem inNames_yes {N : List (List UInt8)} {x : List UInt8} {j : Nat} (hj : j < N.length) (h : (x == N[j]) = true) : inNames N x = true := by
  unfold inNames
  rw [List.any_eq_true]
  exact ⟨N[j], List.getElem_mem hj, h⟩

set_option maxHeartbeats 1000000 in
set_option maxRecDepth 100000 in
theorem stIndex_any (N : List (List UInt8)) (x : List UInt8) (A : Option Addr) (cap : Nat) (w : World) (hS : SlR w 1 (.slice A N.length cap) (N.map fun x => [Value.string (bs x)])) :
    Calls Tryz.prog 139 #[.slice A N.length cap, .string (bs x)] w fun e w' => ∃ i : Int, e = .returned (.int .i64 i) ∧ decide (0 ≤ i) = inNames N x ∧ Below w.heap.size w w' := by
  have HS := Stow.mk hS
  have hlen := hS.len
  simp only [List.length_map] at hlen
  clear hS
  by_cases h0 : N.length = 0
  · obtain rfl := List.eq_nil_of_length_eq_zero h0
    go_enter Tryz.func139, Tryz.ntmps139
    go_wp2_with fail
    go_loopw [8] (fun v wr => v = .int .i64 0 ∧ Below w.heap.size w wr) (fun _ _ => 0)
    case atStart => exact ⟨rfl, Below.self _⟩
    case round =>
      obtain ⟨rfl, hbr⟩ := hrel
      go_wp2_with fail
      go_ret
      exact ⟨-1, rfl, rfl, hbr⟩
  obtain ⟨b, off, rfl, hblt, _⟩ := HS.out.open (by simp; omega)
  clear h0
  go_enter Tryz.func139, Tryz.ntmps139
  go_wp2_with fail
  go_loopw [5, 8] (fun _ v wr => ∃ j : Nat, v = .int .i64 j ∧ j ≤ N.length ∧ Stow (∀ y ∈ N.take j, (x == y) = false) ∧ Below w.heap.size w wr) (fun _ v _ => N.length - (intOf v).toNat)
  case atStart => exact ⟨0, rfl, by omega, ⟨by simp⟩, Below.self _⟩
  case round =>
    obtain ⟨j, rfl, hj, HJ, hbr⟩ := hrel
    by_cases hlt : j < N.length
    · obtain ⟨hltb, q0⟩ := text_at (HS.out.keep hbr) hlt
      obtain ⟨s, hs⟩ : ∃ s, N[j] = s := ⟨_, rfl⟩
      have HSJ := Stow.mk hs
      rw [hs] at q0
      clear hs
      obtain ⟨c, hc⟩ : ∃ c, (x == s) = c := ⟨_, rfl⟩
      have HCS := Stow.mk hc
      cases c
      · go_wp2_with fail
        refine ⟨⟨j + 1, rfl, by omega, ⟨?_⟩, hbr⟩, by simp [intOf]; omega⟩
        intro y hy
        rw [List.take_succ_eq_append_getElem hlt] at hy
        rcases List.mem_append.1 hy with h1 | h1
        · exact HJ.out y h1
        · simp at h1; subst h1; rw [HSJ.out]; exact HCS.out
      · go_wp2_with fail
        go_ret
        exact ⟨j, rfl, by rw [inNames_yes hlt (by rw [HSJ.out]; exact HCS.out)]; simp, hbr⟩
    · obtain rfl : j = N.length := by omega
      go_wp2_with fail
      go_ret
      refine ⟨-1, rfl, ?_, hbr⟩
      have := HJ.out
      rw [List.take_length] at this
      rw [inNames_no this]
      rfl

set_option maxHeartbeats 400000 in
set_option maxRecDepth 100000 in
theorem withoutBody_any (N : List (List UInt8)) (A : Option Addr) (cap : Nat) (x y : List UInt8) (g : Nat) (w : World) (hg : w.cell? ⟨g, 0, none⟩ = some (.slice A N.length cap)) (hlt : g < w.heap.size) (hS : SlR w 1 (.slice A N.length cap) (N.map fun x => [Value.string (bs x)])) :
    Calls Tryz.prog 99 #[.agg #[.string (bs x), .string (bs y)], .pointer (some ⟨g, 0, none⟩)] w fun e w' => e = .returned (.bool (inNames N x)) ∧ Below w.heap.size w w' := by
  have hge : (w.heap.size == g) = false := by simp; omega
  have HS := Stow.mk (hS.alloc (.cells #[.string (bs x), .string (bs y)] 64))
  clear hS
  go_enter Tryz.func99, Tryz.ntmps99
  go_wp2_with fail
  go_enter Tryz.func100, Tryz.ntmps100
  go_wp2_with fail
  refine (stIndex_any N x A cap _ HS.out).mono ?_
  rintro e w' ⟨i, rfl, hi, hb⟩
  have HI := Stow.mk hi
  clear hi
  go_wp2_with fail
  go_ret
  exact ⟨by rw [← HI.out]; rfl, Below.call (Below.alloc' (Below.self _) _) hb⟩

/-- The place of the first header whose name is among some. -/
def hdAtP (L : List Hd) (p : List UInt8 → Bool) : Option Nat := L.findIdx? fun h => p h.1
theorem hdAtP_none {L : List Hd} {p : List UInt8 → Bool} (h : ∀ x ∈ L, (p x.1) = false) : hdAtP L p = none := by
  unfold hdAtP
  rw [List.findIdx?_eq_none_iff]
  exact h
theorem hdAtP_some {L : List Hd} {p : List UInt8 → Bool} {k : Nat} (hk : k < L.length) (h : ∀ x ∈ L.take k, (p x.1) = false) (hb : (p L[k].1) = true) : hdAtP L p = some k := by
  unfold hdAtP
  rw [List.findIdx?_eq_some_iff_getElem]
  refine ⟨hk, hb, fun j hj => ?_⟩
  have := h L[j] (List.mem_take_iff_getElem.2 ⟨j, by omega, rfl⟩)
  simp [this]
theorem hd_take_succP {L : List Hd} {p : List UInt8 → Bool} {k : Nat} (hk : k < L.length) (h : ∀ x ∈ L.take k, (p x.1) = false) (hb : (p L[k].1) = false) : ∀ x ∈ L.take (k + 1), (p x.1) = false := by
  intro s hs
  rw [List.take_succ_eq_append_getElem hk] at hs
  rcases List.mem_append.1 hs with h1 | h1
  · exact h s h1
  · simp at h1; subst h1; exact hb

set_option maxHeartbeats 1000000 in
set_option maxRecDepth 100000 in
theorem hdIndexP_any (K g : Nat) (p : List UInt8 → Bool) (hcf : ∀ (args : Array Value) (w : World), (callFunc K args).run Tryz.prog w = .ok (.enter K args) w) (A : Option Addr) (cap : Nat) (L : List Hd) (w : World)
    (hf : Stow (∀ (h : Hd) (w1 : World), Below w.heap.size w w1 → Calls Tryz.prog K #[.agg #[.string (bs h.1), .string (bs h.2)], .pointer (some ⟨g, 0, none⟩)] w1 fun e w' => e = .returned (.bool (p h.1)) ∧ Below w1.heap.size w1 w'))
    (hS : SlR w 2 (.slice A L.length cap) (L.map Hd.cells)) :
    Calls Tryz.prog 125 #[.slice A L.length cap, .func (.func K) #[] #[.pointer (some ⟨g, 0, none⟩)]] w fun e w' => e = .returned (.int .i64 (atInt (hdAtP L p))) ∧ Below w.heap.size w w' := by
  have HS := Stow.mk hS
  have hlen := hS.len
  simp only [List.length_map] at hlen
  clear hS
  by_cases h0 : L.length = 0
  · obtain rfl := List.eq_nil_of_length_eq_zero h0
    go_enter Tryz.func125, Tryz.ntmps125
    go_wp2_with fail
    go_loopw [8] (fun v wr => v = .int .i64 0 ∧ Below w.heap.size w wr) (fun _ _ => 0)
    case atStart => exact ⟨rfl, Below.self _⟩
    case round =>
      obtain ⟨rfl, hbr⟩ := hrel
      go_wp2_with fail
      go_ret
      exact ⟨rfl, hbr⟩
  obtain ⟨b, off, rfl, hblt, _⟩ := HS.out.open (by simp; omega)
  clear h0
  go_enter Tryz.func125, Tryz.ntmps125
  go_wp2_with fail
  go_loopw [5, 8] (fun _ v wr => ∃ j : Nat, v = .int .i64 j ∧ j ≤ L.length ∧ Stow (∀ x ∈ L.take j, (p x.1) = false) ∧ Below w.heap.size w wr) (fun _ v _ => L.length - (intOf v).toNat)
  case atStart => exact ⟨0, rfl, by omega, ⟨by simp⟩, Below.self _⟩
  case round =>
    obtain ⟨j, rfl, hj, HJ, hbr⟩ := hrel
    by_cases hlt : j < L.length
    · have hsp := head_at (HS.out.keep hbr) hlt
      obtain ⟨s, hs⟩ : ∃ s, L[j] = s := ⟨_, rfl⟩
      have HSJ := Stow.mk hs
      rw [hs] at hsp
      clear hs
      obtain ⟨x, y⟩ := s
      obtain ⟨hltb, q0, q1⟩ := hsp
      simp only at q0 q1
      obtain ⟨c, hc⟩ : ∃ c, (p x) = c := ⟨_, rfl⟩
      have HCS := Stow.mk hc
      clear hc
      have HBR := Stow.mk hbr
      go_wp2_with fail
      clear q0 q1
      refine (hf.out (x, y) _ HBR.out).mono ?_
      simp only [HCS.out]
      rintro e w3 ⟨rfl, hb3⟩
      cases c
      · go_wp2_with fail
        exact ⟨⟨j + 1, rfl, by omega, ⟨hd_take_succP hlt HJ.out (by rw [HSJ.out, HCS.out])⟩, Below.call hbr hb3⟩, by simp [intOf]; omega⟩
      · go_wp2_with fail
        go_ret
        refine ⟨?_, Below.call hbr hb3⟩
        rw [hdAtP_some hlt HJ.out (by rw [HSJ.out, HCS.out])]
        rfl
    · obtain rfl : j = L.length := by omega
      go_wp2_with fail
      go_ret
      refine ⟨?_, hbr⟩
      have := HJ.out
      rw [List.take_length] at this
      rw [hdAtP_none this]
      rfl


/-- What is kept of headers. -/
def hdKeep (p : List UInt8 → Bool) (L : List Hd) : List Hd := L.filter fun h => !p h.1
theorem hdKeep_len (p : List UInt8 → Bool) (L : List Hd) : (hdKeep p L).length ≤ L.length := List.length_filter_le _ _
theorem hdKeep_all {p : List UInt8 → Bool} {L : List Hd} (h : hdAtP L p = none) : hdKeep p L = L := by
  unfold hdAtP at h
  rw [List.findIdx?_eq_none_iff] at h
  unfold hdKeep
  rw [List.filter_eq_self]
  intro x hx
  simp [h x hx]
theorem hdKeep_first {p : List UInt8 → Bool} {L : List Hd} {k : Nat} (h : hdAtP L p = some k) : k < L.length ∧ hdKeep p (L.take (k + 1)) = L.take k := by
  unfold hdAtP at h
  rw [List.findIdx?_eq_some_iff_getElem] at h
  obtain ⟨hk, hb, hf⟩ := h
  refine ⟨hk, ?_⟩
  unfold hdKeep
  rw [List.take_succ_eq_append_getElem hk, List.filter_append]
  have e : (L.take k).filter (fun h => !p h.1) = L.take k := by
    rw [List.filter_eq_self]
    intro x hx
    obtain ⟨j, hj, rfl⟩ := List.mem_take_iff_getElem.1 hx
    have := hf j (by omega)
    simpa using this
  rw [e]
  simp [hb]
theorem hdKeep_yes {p : List UInt8 → Bool} {L : List Hd} {j : Nat} (hj : j < L.length) (h : p L[j].1 = false) : hdKeep p (L.take (j + 1)) = hdKeep p (L.take j) ++ [L[j]] := by
  unfold hdKeep
  rw [List.take_succ_eq_append_getElem hj, List.filter_append]
  simp [h]
theorem hdKeep_no {p : List UInt8 → Bool} {L : List Hd} {j : Nat} (hj : j < L.length) (h : p L[j].1 = true) : hdKeep p (L.take (j + 1)) = hdKeep p (L.take j) := by
  unfold hdKeep
  rw [List.take_succ_eq_append_getElem hj, List.filter_append]
  simp [h]
/-- The row while headers go: what is kept stands first; from j on it is as it was. -/
structure Going (p : List UInt8 → Bool) (L M : List Hd) (i j : Nat) : Prop where
  len : M.length = L.length
  lt : i < j
  le : j ≤ L.length
  front : M.take i = hdKeep p (L.take j)
  back : M.drop j = L.drop j
theorem Going.count {p : List UInt8 → Bool} {L M : List Hd} {i j : Nat} (h : Going p L M i j) : i = (hdKeep p (L.take j)).length := by
  rw [← h.front]; simp; have := h.len; have := h.lt; have := h.le; omega
theorem Going.at_ {p : List UInt8 → Bool} {L M : List Hd} {i j : Nat} (h : Going p L M i j) (hj : j < L.length) : ∃ hm : j < M.length, M[j] = L[j] := by
  have hm : j < M.length := by rw [h.len]; exact hj
  refine ⟨hm, ?_⟩
  have e := congrArg List.head? h.back
  rw [List.head?_drop, List.head?_drop, List.getElem?_eq_getElem hm, List.getElem?_eq_getElem hj] at e
  exact Option.some.inj e
theorem Going.skip {p : List UInt8 → Bool} {L M : List Hd} {i j : Nat} (h : Going p L M i j) (hj : j < L.length) (hp : p L[j].1 = true) : Going p L M i (j + 1) := by
  refine ⟨h.len, by have := h.lt; omega, hj, ?_, ?_⟩
  · rw [h.front, hdKeep_no hj hp]
  · have := congrArg (List.drop 1) h.back
    rw [List.drop_drop, List.drop_drop] at this
    exact this
theorem Going.take {p : List UInt8 → Bool} {L M : List Hd} {i j : Nat} (h : Going p L M i j) (hj : j < L.length) (hp : p L[j].1 = false) : Going p L (M.set i L[j]) (i + 1) (j + 1) := by
  have hl := h.len
  have hlt := h.lt
  have hi : i < (M.set i L[j]).length := by rw [List.length_set]; omega
  refine ⟨by rw [List.length_set]; exact h.len, by omega, hj, ?_, ?_⟩
  · rw [List.take_succ_eq_append_getElem hi, List.take_set, List.set_eq_of_length_le (by simp; omega), h.front, hdKeep_yes hj hp]
    simp
  · rw [List.drop_set_of_lt (by omega)]
    have := congrArg (List.drop 1) h.back
    rw [List.drop_drop, List.drop_drop] at this
    exact this

set_option maxHeartbeats 2000000 in
set_option maxRecDepth 100000 in
theorem hdDelete_any (K g : Nat) (p : List UInt8 → Bool) (hcf : ∀ (args : Array Value) (w : World), (callFunc K args).run Tryz.prog w = .ok (.enter K args) w) (A : Option Addr) (cap B : Nat) (L : List Hd) (w : World) (hgb : g < B) (hB : B ≤ w.heap.size)
    (hf : Stow (∀ (h : Hd) (w1 : World), Below B w w1 → Calls Tryz.prog K #[.agg #[.string (bs h.1), .string (bs h.2)], .pointer (some ⟨g, 0, none⟩)] w1 fun e w' => e = .returned (.bool (p h.1)) ∧ Below w1.heap.size w1 w'))
    (hO : ORow w B (.slice A L.length cap) L) (hn : L.length ≤ 1099511627776) :
    Calls Tryz.prog 97 #[.slice A L.length cap, .func (.func K) #[] #[.pointer (some ⟨g, 0, none⟩)]] w fun e w' => ∃ v, e = .returned v ∧ ORow w' B v (hdKeep p L) ∧ Below B w w' := by
  have HO := Stow.mk hO
  obtain ⟨o, ho⟩ : ∃ o, hdAtP L p = o := ⟨_, rfl⟩
  have HI := Stow.mk ho
  have hix := hdIndexP_any K g p hcf A cap L w ⟨fun h w1 hb => hf.out h w1 (hb.mono hB)⟩ hO.slr
  rw [ho] at hix
  have HIX := Stow.mk hix
  clear hix ho hO
  cases o with
  | none =>
    have HK := Stow.mk (hdKeep_all HI.out)
    simp only [atInt] at HIX
    go_enter Tryz.func97, Tryz.ntmps97
    go_wp2_with fail
    refine HIX.out.mono ?_
    rintro e w1 ⟨rfl, hb1⟩
    go_wp2_with fail
    go_ret
    exact ⟨_, rfl, by rw [HK.out]; exact HO.out.kept hb1, hb1.mono hB⟩
  | some k =>
    obtain ⟨hkl, hkf⟩ := hdKeep_first HI.out
    simp only [atInt] at HIX
    obtain ⟨b, rfl, _, hBb, hbl, hlc, hcm⟩ := HO.out.block (by omega)
    have hG0 : Going p L L k (k + 1) := ⟨rfl, by omega, by omega, hkf.symm, rfl⟩
    have HG0 := Stow.mk hG0
    have hk1 : ((k : Int) == -1) = false := by rw [beq_eq_false_iff_ne]; omega
    clear hkf hG0
    go_enter Tryz.func97, Tryz.ntmps97
    go_wp2_with fail
    refine HIX.out.mono ?_
    rintro e w1 ⟨rfl, hb1⟩
    have HO1 := Stow.mk (HO.out.kept hb1)
    have HB1 : Stow (Below B w w1) := ⟨hb1.mono hB⟩
    clear hb1
    go_wp2_with fail
    go_loopw [5, 6, 7] (fun s5 s6 _ wr => ∃ (i j : Nat) (M : List Hd), s5 = .int .i64 i ∧ s6 = .int .i64 j ∧ Stow (Going p L M i j) ∧ j ≤ L.length ∧ i < j ∧ Stow (ORow wr B (.slice (some ⟨b, 0, none⟩) L.length cap) M) ∧ Below B w wr) (fun _ s6 _ _ => L.length - (intOf s6).toNat)
    case atStart => exact ⟨k, k + 1, L, rfl, by first | rfl | simp, HG0, by omega, by omega, HO1, HB1.out⟩
    case round =>
      obtain ⟨i, j, M, rfl, rfl, HG, hj, hij, HOR, hbr⟩ := hrel
      have HBR := Stow.mk hbr
      have hml := HG.out.len
      by_cases hlt : j < L.length
      · obtain ⟨hm, hMj⟩ := HG.out.at_ hlt
        have hsp := head_at HOR.out.slr hm
        rw [Nat.zero_add] at hsp
        obtain ⟨s, hs⟩ : ∃ s, L[j] = s := ⟨_, rfl⟩
        have HSJ := Stow.mk hs
        rw [hMj, hs] at hsp
        clear hs hMj hm hbr
        obtain ⟨x, y⟩ := s
        obtain ⟨hltb, q0, q1⟩ := hsp
        simp only at q0 q1
        obtain ⟨c, hc⟩ : ∃ c, p x = c := ⟨_, rfl⟩
        have HCS := Stow.mk hc
        have hT := Held.made wr [.string (bs x), .string (bs y)] 64
        have HT : Stow (∀ W, Below (wr.alloc (.cells #[.string (bs x), .string (bs y)] 64)).heap.size (wr.alloc (.cells #[.string (bs x), .string (bs y)] 64)) W → Held W wr.heap.size [.string (bs x), .string (bs y)] ∧ Below wr.heap.size wr W) := ⟨fun W hb => ⟨hT.kept hb, Below.call (Below.alloc' (Below.self _) _) hb⟩⟩
        clear hc hT
        go_wp2_with fail
        clear q0 q1
        refine (hf.out (x, y) _ (by have h1 := HBR.out; exact h1.alloc (Nat.le_trans hB h1.size) _)).mono ?_
        simp only [HCS.out]
        rintro e w3 ⟨rfl, hb3⟩
        obtain ⟨hT3, hB3⟩ := HT.out w3 hb3
        have HOR3 := Stow.mk (HOR.out.kept hB3)
        have HB3 : Stow (Below B w w3) := ⟨HBR.out.trans (hB3.mono (Nat.le_trans hB HBR.out.size))⟩
        cases c
        · have ht0 := hT3.cell (i := 0) rfl
          have ht1 := hT3.cell (i := 1) rfl
          have him : i < M.length := by omega
          have hsi := head_at HOR3.out.slr him
          rw [Nat.zero_add] at hsi
          obtain ⟨hltb3, r0, r1⟩ := hsi
          have f0 := HOR3.out.free (i * 2)
          have f1 := HOR3.out.free (i * 2 + 1)
          generalize M[i] = old at r0 r1
          have HG2 : Stow (Going p L (M.set i (x, y)) (i + 1) (j + 1)) := ⟨by have := HG.out.take hlt (by rw [HSJ.out]; exact HCS.out); rw [HSJ.out] at this; exact this⟩
          clear hb3 hB3 hT3
          go_wp2_with fail
          refine ⟨⟨i + 1, j + 1, M.set i (x, y), by first | rfl | simp, by first | rfl | simp, HG2, by omega, by omega, ⟨?_⟩, (HB3.out.setCell (p := ⟨b, i * 2, none⟩) hBb _).setCell (p := ⟨b, i * 2 + 1, none⟩) hBb _⟩, by simp [intOf]; omega⟩
          have h1 := HOR3.out
          rw [← hml] at h1 ⊢
          exact h1.put i him (x, y)
        · have HG2 : Stow (Going p L M i (j + 1)) := ⟨HG.out.skip hlt (by rw [HSJ.out]; exact HCS.out)⟩
          clear hb3 hB3 hT3
          go_wp2_with fail
          exact ⟨⟨i, j + 1, M, rfl, rfl, HG2, by omega, by omega, HOR3, HB3.out⟩, by simp [intOf]; omega⟩
      · obtain rfl : j = L.length := by omega
        have hcl : ∀ ty, (Builtin.clear_ #[22] ty #[.slice (some ⟨b, i * 2, none⟩) (L.length - i) (cap - i)]).run Tryz.prog wr = .ok (.tuple #[]) (wr.setCells b (i * 2) (List.replicate ((L.length - i) * 2) (.string ⟨#[]⟩))) := fun ty =>
          run_clear_heads wr _ _ ty Tryz.underlying22 (fun w => Tryz.zeroValue64 w) b (i * 2) _ _ (by omega) (fun k hk => HOR.out.there _ (by omega)) (fun k hk => HOR.out.free _)
        go_wp2_with fail
        go_ret
        refine ⟨_, rfl, ?_, below_wipe hBb _ _ _ HBR.out⟩
        have h1 := HOR.out
        rw [← hml] at h1
        have h2 := h1.wipe i (by omega) (by omega) (List.replicate ((L.length - i) * 2) (.string ⟨#[]⟩))
        rw [HG.out.front, List.take_length] at h2
        exact h2

theorem names_made (w : World) (P : List (List UInt8)) (cs : Array Value) (hcs : cs = (P.map fun p => Value.string (bs p)).toArray) (hm : P.length ≤ maxLen) : SlR (w.alloc (.cells cs 9)) 1 (.slice (some ⟨w.heap.size, 0, none⟩) P.length P.length) (P.map fun x => [Value.string (bs x)]) := by
  subst hcs
  exact texts_made w P hm

set_option maxHeartbeats 1000000 in
set_option maxRecDepth 100000 in
theorem hdWithout_any (N : List (List UInt8)) (NA : Option Addr) (nc : Nat) (A : Option Addr) (cap : Nat) (L : List Hd) (w : World) (hN : SlR w 1 (.slice NA N.length nc) (N.map fun x => [Value.string (bs x)])) (hS : SlR w 2 (.slice A L.length cap) (L.map Hd.cells)) (hn : L.length ≤ 1099511627776) :
    Calls Tryz.prog 46 #[.slice A L.length cap, .slice NA N.length nc] w fun e w' => ∃ v, e = .returned v ∧ ORow w' w.heap.size v (hdKeep (inNames N) L) ∧ Below w.heap.size w w' := by
  have HS := Stow.mk hS
  have HN := Stow.mk hN
  clear hS hN
  have hcf := enters_of Tryz.func99 (by kernel_rfl) rfl
  have HC := Stow.mk hcf; clear hcf
  have hmf : ∀ (fn : Fn) (first cap : Array Value) (w : World), (Instr.makeFunc fn first cap).run Tryz.prog w = .ok (.func fn first cap) w := fun _ _ _ _ => rfl
  have HB0 : Stow (∀ o, Below w.heap.size w (w.alloc o)) := ⟨fun o => Below.alloc' (Below.self _) _⟩
  go_enter Tryz.func46, Tryz.ntmps46
  go_wp2_with fail
  generalize hWe : World.alloc _ _ = W
  have hBW : Below w.heap.size w W := by rw [← hWe]; exact HB0.out _
  have hcell : W.cell? ⟨w.heap.size, 0, none⟩ = some (.slice NA N.length nc) := by rw [← hWe]; simp
  have hsz : W.heap.size = w.heap.size + 1 := by rw [← hWe]; simp
  have HSW := Stow.mk (HS.out.keep hBW)
  have HNW := Stow.mk (HN.out.keep hBW)
  clear hWe
  refine (hdClone_any A cap L W HSW.out hn).mono ?_
  rintro e w1 ⟨v, rfl, hO, hb1⟩
  obtain ⟨A1, c1, rfl⟩ := hO.form
  have hB1 : Below w.heap.size w w1 := hBW.trans (hb1.mono (by omega))
  have hcell1 : w1.cell? ⟨w.heap.size, 0, none⟩ = some (.slice NA N.length nc) := by rw [hb1.cell (by simp; omega)]; exact hcell
  have HO := Stow.mk hO
  have hs1 := hb1.size
  have HBW1 := Stow.mk hb1
  clear hO hb1 hcell
  go_wp2_with fail
  refine (hdDelete_any 99 w.heap.size (inNames N) HC.out A1 c1 W.heap.size L _ (by omega) (by omega) ⟨fun h w2 hb => withoutBody_any N NA nc h.1 h.2 _ w2 ?_ ?_ ?_⟩ HO.out hn).mono ?_
  · rw [hb.cell (by simp; omega)]; exact hcell1
  · have := hb.size; omega
  · exact HNW.out.keep (HBW1.out.trans hb)
  rintro e w2 ⟨v, rfl, hO2, hb2⟩
  go_wp2_with fail
  go_ret
  exact ⟨_, rfl, hO2.base (by omega), hB1.trans (hb2.mono (by omega))⟩
end Go.Proofs.YtfbhdkkmcfnghaaGreatDoor
