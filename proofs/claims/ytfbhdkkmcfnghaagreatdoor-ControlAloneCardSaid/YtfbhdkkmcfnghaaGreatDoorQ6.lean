/- A control plane beside a row of its tables. No condition.; Walk of the statement that what is refused does not matter. Conditions: the lists' memory; what the library's variables hold.; Lists of texts as they come in. Conditions: those of the form.; What the condition of the rows on a control plane gives: what the library's variables hold; a world that meets it. -/
import Derived.Test.YtfbhdkkmcfnghaaGreatDoorQ4
import Derived.Deep.AppendLies
import Derived.Test.YtfbhdkkmcfnghaaGreatDoorReach
import Derived.Test.YtfbhdkkmcfnghaaGreatDoorRows
import Derived.ProofKit
import Derived.LaidMore
import Derived.Lay
import Derived.OpenShut
import Derived.Stop.Joined
import Derived.Stop.LaidErr
import Derived.SizedLaws
import Derived.Shelf.Vars
import Derived.Lib.LaidTab

section
namespace Go.Proofs.YtfbhdkkmcfnghaaGreatDoor
open Go.RowKit
set_option linter.unusedVariables false

/-- 'append(out, x)': the row, and where it lies. -/
theorem wpList_append_elem_lies {P : Program} {ops : Array Oper} {rest : List Oper} {o : Oper} {a : Act} {Q : Exit → Act → World → Prop}
    (wr : World) (xs : List Value) (eo : TypeId) (hgd : o.guard = none) (s y : Operand) (t : TypeId)
    (ho : o.op = Op.call { callee := Callee.builtin Builtin.append, args := #[s, y], argTypes := #[t, t] })
    (B : Nat) (e : TypeId) (z : Value) (size bytes : Nat) (ht : P.underlying t = some (.slice e))
    (hinfo : (P.info? e).map (fun i => (i.zero, i.size, i.bytes)) = some (some z, size, bytes))
    (v : Value) (n : Nat) (ys : List Value) (hown : wr.ownsRow B e size v n ys)
    (hs : a.eval s = v) (g : Nat) (hx : a.eval y = .slice (some ⟨g, 0, none⟩) 1 1) (hgs : g = wr.heap.size)
    (hzc : z.cells.size = size) (hsz : 0 < size) (hlen : xs.length = size) (h1 : ∀ u ∈ xs, u.oneCell' = true) (hbytes : (n + 1) * bytes ≤ 140737488355328) (hn : n + 1 ≤ maxLen) (hB : B ≤ wr.heap.size)
    (h : ∀ g' cap w', w'.ownsRow B e size (.slice (some ⟨g', 0, none⟩) (n + 1) cap) (n + 1) (ys ++ xs) → (wr.alloc (.cells xs.toArray eo)).grownBy w' v.ownBlock → Below B wr w' → wr.heap.size < w'.heap.size → (v.ownBlock = some g' ∨ wr.heap.size ≤ g') →
      wpList P ops Q rest (a.put o.dst (.slice (some ⟨g', 0, none⟩) (n + 1) cap)) w') :
    wpList P ops Q (o :: rest) a (wr.alloc (.cells xs.toArray eo)) := by
  subst hgs
  obtain ⟨i, hi, hz, hsz', hby⟩ := info_parts hinfo
  refine wpList_append_lies _ hgd s y t ho B e i z size bytes ht hi hz hsz' hby hzc hsz v n ys hs (hown.alloc _) ⟨wr.heap.size, 0, none⟩ 1 1 xs hx (by rw [hlen, Nat.one_mul]) ?_ h1 (by decide) hn hbytes (by simp; omega) (wr.heap.size + 1) (by simp) ?_
  · intro j u hj
    rw [Addr.add_lit, Nat.zero_add]
    have : (wr.alloc (.cells xs.toArray eo)).cell? ⟨wr.heap.size, j, none⟩ = xs[j]? := by simp
    rw [this, hj]
  · intro g' cap w' ho' hg hat hlt
    have hb : Below B wr (wr.alloc (.cells xs.toArray eo)) := (Below.refl _ _).alloc hB _
    refine h g' cap w' ho' hg (hb.grown hg (by simp; omega) fun k hk => (hown.lt k hk).1) ?_ (hat.imp id (by omega))
    have := hg.size
    simp at this; omega
/-- A plane, and all tables so far in a row of the law's own; X: those that are not there yet. -/
structure StyI (w wr : World) (g : Nat) (N : List (List UInt8)) (i : Nat) (av : Value) (P : Nat → Prop) (pl : Ct.Pl) (L : List Tm) (X : List Cf) : Prop where
  plm : PlM wr P g pl
  ok : pl.Ok
  sum : pl.T.length + pl.bad = i
  nm : pl.N = N
  row : wr.ownsRow w.heap.size 46 3 av L.length (L.flatMap Tm.cells)
  each : ∀ t ∈ L, RsR wr t.A t.cap t.R
  at_ : ∀ t ∈ L, InR (fun k => k ≠ g ∧ ¬ P k ∧ av.ownBlock ≠ some k ∧ k < wr.heap.size) t.A t.R
  eq : L.map Tm.c ++ X = pl.T
  no : ∀ j (h : j < L.length), L[j].n = j + 1
  off : ∀ k, av.ownBlock = some k → k ≠ g ∧ ¬ P k ∧ k < wr.heap.size
  lo : w.heap.size ≤ g ∧ ∀ k, P k → w.heap.size ≤ k
  below : Below w.heap.size w wr
section
variable {w wr w' : World} {g i : Nat} {N : List (List UInt8)} {av : Value} {P : Nat → Prop} {pl : Ct.Pl} {L : List Tm} {X : List Cf}
theorem StyI.keep (h : StyI w wr g N i av P pl L X) (hb : Below wr.heap.size wr w') : StyI w w' g N i av P pl L X :=
  ⟨h.plm.keep hb, h.ok, h.sum, h.nm, own_kept h.row hb, fun t ht => (h.each t ht).keep hb, fun t ht => (h.at_ t ht).mono (fun k hk => ⟨hk.1, hk.2.1, hk.2.2.1, Nat.lt_of_lt_of_le hk.2.2.2 hb.size⟩), h.eq, h.no, fun k e => ⟨(h.off k e).1, (h.off k e).2.1, Nat.lt_of_lt_of_le (h.off k e).2.2 hb.size⟩, h.lo, h.below.trans (hb.mono h.below.size)⟩
theorem StyI.pub (h : StyI w wr g N i av P pl L []) (t : List UInt8) (hp : PlM w' (NewP P wr.heap.size w'.heap.size) g (Ct.publish pl t)) (ht : Turn (fun k => k = g ∨ P k) wr w') :
    StyI w w' g N (i + 1) av (NewP P wr.heap.size w'.heap.size) (Ct.publish pl t) L (if Ct.why pl t = 0 then [⟨Ct.order (Cf.read t).1.rs, (Cf.read t).1.f⟩] else []) := by
  have hs := ht.size
  have hnew : ∀ k, k < wr.heap.size → ¬ P k → ¬ NewP P wr.heap.size w'.heap.size k := fun k hk hn h => by
    rcases h with h | h
    · exact hn h
    · omega
  have hle := h.eq
  rw [List.append_nil] at hle
  refine ⟨hp, h.ok.publish t, ?_, by rw [Ct.publish_N]; exact h.nm, own_turn h.row ht (fun k e => ?_), fun x hx => (h.each x hx).turn (h.at_ x hx) ht (fun k hk e => ?_), fun x hx => (h.at_ x hx).mono (fun k hk => ⟨hk.1, hnew k hk.2.2.2 hk.2.1, hk.2.2.1, by omega⟩), ?_, h.no, fun k e => ⟨(h.off k e).1, hnew k (h.off k e).2.2 (h.off k e).2.1, by have := (h.off k e).2.2; omega⟩, ⟨h.lo.1, fun k hk => ?_⟩, h.below.trans (ht.below (fun k hk => ?_) h.below.size)⟩
  · rw [Ct.publish_sum, h.sum]
  · rintro (rfl | hk)
    · exact (h.off _ e).1 rfl
    · exact (h.off _ e).2.1 hk
  · rcases e with rfl | e
    · exact hk.1 rfl
    · exact hk.2.1 e
  · unfold Ct.publish
    by_cases hy : Ct.why pl t = 0
    · rw [if_pos hy, if_pos hy, hle]
    · rw [if_neg hy, if_neg hy, hle, List.append_nil]
  · rcases hk with hk | hk
    · exact h.lo.2 k hk
    · have := h.below.size; omega
  · rcases hk with rfl | hk
    · exact h.lo.1
    · exact h.lo.2 k hk
theorem StyI.less {c : Cf} (h : StyI w wr g N i av P pl L [c]) : L.length < pl.T.length ∧ ∀ (hl : L.length < pl.T.length), pl.T[L.length] = c := by
  have e := h.eq
  have hl : pl.T.length = L.length + 1 := by rw [← e]; simp
  refine ⟨by omega, fun h => ?_⟩
  have : pl.T[L.length]? = some c := by rw [← e, List.getElem?_append_right (by simp)]; simp
  rw [List.getElem?_eq_getElem h] at this
  exact Option.some.inj this
theorem StyI.len (h : StyI w wr g N i av P pl L []) : L.length = pl.T.length := by rw [← h.eq]; simp
/-- The row with a table more. -/
theorem StyI.more {W1 w2 : World} {c : Cf} {t : Tm} {g' cap' : Nat} (h : StyI w wr g N i av P pl L [c]) (hR : RsR wr t.A t.cap t.R) (hI : InR (fun k => k ≠ g ∧ ¬ P k ∧ av.ownBlock ≠ some k ∧ k < wr.heap.size) t.A t.R) (hc : t.c = c) (hn : t.n = L.length + 1)
    (hb : Below wr.heap.size wr W1) (hgr : W1.grownBy w2 av.ownBlock) (hown : w2.ownsRow w.heap.size 46 3 (.slice (some ⟨g', 0, none⟩) (L.length + 1) cap') (L.length + 1) (L.flatMap Tm.cells ++ t.cells)) (hat : av.ownBlock = some g' ∨ wr.heap.size ≤ g') (hlt : g' < w2.heap.size) :
    StyI w w2 g N i (.slice (some ⟨g', 0, none⟩) (L.length + 1) cap') P pl (L ++ [t]) [] := by
  have hk := h.keep hb
  have ht : Turn (fun k => av.ownBlock = some k) W1 w2 := ⟨hgr.os, hgr.tape, hgr.output, hgr.size, fun k hk hn => hgr.block k hk (fun e => hn e.symm)⟩
  have hs := hgr.size
  have hs1 := hb.size
  have hPlow := h.plm.low
  have hglt := h.plm.lt
  have hw := h.below.size
  have hoff : ∀ k, (Value.slice (some ⟨g', 0, none⟩) (L.length + 1) cap').ownBlock = some k → k = g' := fun k e => by cases e; rfl
  have hin : ∀ k, (k ≠ g ∧ ¬ P k ∧ av.ownBlock ≠ some k ∧ k < wr.heap.size) → (k ≠ g ∧ ¬ P k ∧ (Value.slice (some ⟨g', 0, none⟩) (L.length + 1) cap').ownBlock ≠ some k ∧ k < w2.heap.size) := fun k hk => ⟨hk.1, hk.2.1, fun e => by
    have := hoff k e
    subst this
    rcases hat with e | e
    · exact hk.2.2.1 e
    · omega, by omega⟩
  refine ⟨hk.plm.turn ht (fun k hk e => (h.off k e).2.1 hk) (fun e => (h.off g e).1 rfl), h.ok, h.sum, h.nm, by simpa using hown, fun x hx => ?_, fun x hx => ?_, by rw [List.append_nil, List.map_append, ← h.eq]; simp [hc], fun j hj => ?_, fun k e => ?_, h.lo, hk.below.trans (ht.below (fun k e => (World.ownsRow.lt hk.row k e).1) hk.below.size)⟩
  · rcases List.mem_append.1 hx with hx | hx
    · exact (hk.each x hx).turn (h.at_ x hx) ht (fun k hk => hk.2.2.1)
    · simp only [List.mem_singleton] at hx
      subst hx
      exact (hR.keep hb).turn hI ht (fun k hk => hk.2.2.1)
  · rcases List.mem_append.1 hx with hx | hx
    · exact (h.at_ x hx).mono hin
    · simp only [List.mem_singleton] at hx
      subst hx
      exact hI.mono hin
  · by_cases hjl : j < L.length
    · rw [List.getElem_append_left hjl]; exact h.no j hjl
    · have : j = L.length := by simp at hj; omega
      subst this
      rw [List.getElem_append_right (Nat.le_refl _)]
      simpa using hn
  · have := hoff k e
    subst this
    rcases hat with e2 | e2
    · exact ⟨(h.off _ e2).1, (h.off _ e2).2.1, hlt⟩
    · exact ⟨by omega, fun hp => by have := hPlow _ hp; omega, hlt⟩
end
/-- A table that At gave lies apart from all. -/
theorem TbN.apart {w wr w' : World} {g i : Nat} {N : List (List UInt8)} {av : Value} {P : Nat → Prop} {pl : Ct.Pl} {L : List Tm} {X : List Cf} {t : Tm} (h : StyI w wr g N i av P pl L X) (hN : TbN wr w' t) : InR (fun k => k ≠ g ∧ ¬ P k ∧ av.ownBlock ≠ some k ∧ k < w'.heap.size) t.A t.R := by
  have key : ∀ k, wr.heap.size ≤ k → k < w'.heap.size → (k ≠ g ∧ ¬ P k ∧ av.ownBlock ≠ some k ∧ k < w'.heap.size) := fun k hk hl => ⟨by have := h.plm.lt; omega, fun hp => by have := h.plm.low k hp; omega, fun e => by have := (h.off k e).2.2; omega, hl⟩
  exact ⟨fun a e => by have := World.ownsRow.lt hN.own.own a.block (by rw [e]; rfl); exact key _ this.1 this.2, fun m hm a e => key _ (hN.own.apart m hm a e).1 (hN.own.lt m hm a e)⟩
end Go.Proofs.YtfbhdkkmcfnghaaGreatDoor
end

section
namespace Go.Proofs.YtfbhdkkmcfnghaaGreatDoor
open Go.RowKit
set_option linter.unusedVariables false
set_option linter.unusedSimpArgs false

/-- Two planes apart. -/
structure AloM (w wr : World) (g1 g2 : Nat) (P1 P2 : Nat → Prop) (p x : Ct.Pl) : Prop where
  p1 : PlM wr P1 g1 p
  p2 : PlM wr P2 g2 x
  dis : ∀ k, P1 k → ¬ P2 k
  ne : g1 ≠ g2
  a : ¬ P1 g2
  b : ¬ P2 g1
  lo1 : w.heap.size ≤ g1 ∧ ∀ k, P1 k → w.heap.size ≤ k
  lo2 : w.heap.size ≤ g2 ∧ ∀ k, P2 k → w.heap.size ≤ k
  below : Below w.heap.size w wr
section
variable {w wr w' : World} {g1 g2 : Nat} {P1 P2 : Nat → Prop} {p x : Ct.Pl}
theorem AloM.swap (h : AloM w wr g1 g2 P1 P2 p x) : AloM w wr g2 g1 P2 P1 x p := ⟨h.p2, h.p1, fun k h2 h1 => h.dis k h1 h2, fun e => h.ne e.symm, h.b, h.a, h.lo2, h.lo1, h.below⟩
theorem AloM.keep (h : AloM w wr g1 g2 P1 P2 p x) (hb : Below wr.heap.size wr w') : AloM w w' g1 g2 P1 P2 p x := ⟨h.p1.keep hb, h.p2.keep hb, h.dis, h.ne, h.a, h.b, h.lo1, h.lo2, h.below.trans (hb.mono h.below.size)⟩
theorem AloM.pub (h : AloM w wr g1 g2 P1 P2 p x) {p' : Ct.Pl} (hp : PlM w' (NewP P1 wr.heap.size w'.heap.size) g1 p') (ht : Turn (fun k => k = g1 ∨ P1 k) wr w') : AloM w w' g1 g2 (NewP P1 wr.heap.size w'.heap.size) P2 p' x := by
  have hw := h.below.size
  refine ⟨hp, h.p2.turn ht (fun k hk e => ?_) (fun e => ?_), fun k hk h2 => ?_, h.ne, fun hk => ?_, h.b, ⟨h.lo1.1, fun k hk => ?_⟩, h.lo2, h.below.trans (ht.below (fun k hk => ?_) hw)⟩
  · rcases e with rfl | e
    · exact h.b hk
    · exact h.dis k e hk
  · rcases e with e | e
    · exact h.ne e.symm
    · exact h.a e
  · rcases hk with hk | hk
    · exact h.dis k hk h2
    · have := h.p2.low k h2; omega
  · rcases hk with hk | hk
    · exact h.a hk
    · have := h.p2.lt; omega
  · rcases hk with hk | hk
    · exact h.lo1.2 k hk
    · omega
  · rcases hk with rfl | hk
    · exact h.lo1.1
    · exact h.lo1.2 k hk
end
/-- The plane with all texts, and the one without those that were refused. -/
structure AloI (N : List (List UInt8)) (i : Nat) (p x : Ct.Pl) : Prop where
  ok : p.Ok
  okx : x.Ok
  nm : p.N = N ∧ x.N = N
  same : x.T = p.T
  bad : p.bad ≤ i ∧ x.bad = 0
theorem AloI.no {N : List (List UInt8)} {i : Nat} {p x : Ct.Pl} {t : List UInt8} (h : AloI N i p x) (hy : Ct.why p t ≠ 0) : AloI N (i + 1) (Ct.publish p t) x := by
  refine ⟨h.ok.publish t, h.okx, ⟨by rw [Ct.publish_N]; exact h.nm.1, h.nm.2⟩, ?_, ?_, h.bad.2⟩
  · rw [Ct.publish_no hy]; exact h.same
  · rw [Ct.publish_no hy]; have := h.bad.1; simp only; omega
theorem AloI.yes {N : List (List UInt8)} {i : Nat} {p x : Ct.Pl} {t : List UInt8} (h : AloI N i p x) (hy : Ct.why p t = 0) : AloI N (i + 1) (Ct.publish p t) (Ct.publish x t) ∧ Ct.why x t = 0 := by
  have hx : Ct.why x t = 0 := by rw [Ct.why_same (by rw [h.nm.1, h.nm.2]) h.same]; exact hy
  refine ⟨⟨h.ok.publish t, h.okx.publish t, ⟨by rw [Ct.publish_N]; exact h.nm.1, by rw [Ct.publish_N]; exact h.nm.2⟩, ?_, ?_, ?_⟩, hx⟩
  · rw [Ct.publish_yes hy, Ct.publish_yes hx, h.same]
  · rw [Ct.publish_yes hy]; have := h.bad.1; simp only; omega
  · rw [Ct.publish_yes hx]; exact h.bad.2
set_option maxHeartbeats 8000000 in
set_option maxRecDepth 100000 in
theorem alone18 (N l : List (List UInt8)) (NA A : Option Addr) (nc cap : Nat) (w : World) (hN : SlR w 1 (.slice NA N.length nc) (strs N)) (hl : SlR w 1 (.slice A l.length cap) (strs l)) (hm : MaxIs w) :
    Calls Tryz.prog 5 #[.slice NA N.length nc, .slice A l.length cap] w fun e w' => e = .returned (.bool true) ∧ Below w.heap.size w w' := by
  have HN := Stow.mk hN
  have HL := Stow.mk hl
  have HM := Stow.mk hm
  have hml : l.length ≤ 9223372036854775807 := by have := SlR.len hl; simpa [strs] using this
  have hmN : N.length ≤ 9223372036854775807 := by have := SlR.len hN; simpa [strs] using this
  obtain ⟨n, hn⟩ : ∃ n, l.length = n := ⟨_, rfl⟩
  have HNL := Stow.mk hn
  rw [hn] at hml ⊢
  clear hN hl hm hn
  by_cases h20 : 20 < N.length
  · have d1 : decide ((20 : Int) < N.length) = true := by simp; omega
    clear h20
    go_enter Tryz.func5, Tryz.ntmps5
    have HBK := Stow.mk (known18_any _ (HM.out.keep (Below.self w)))
    have HBZ := Stow.mk ((Below.self w))
    go_wp2_with fail
    refine HBK.out.mono ?_
    rintro e wk ⟨rfl, hbk⟩
    have HBE := Stow.mk (HBZ.out.trans (hbk.mono HBZ.out.size))
    clear hbk HBK
    go_wp2_with fail
    go_ret
    exact ⟨rfl, HBE.out⟩
  have d1 : decide ((20 : Int) < N.length) = false := by simp; omega
  have HNS : Stow (N.length ≤ 20) := ⟨by omega⟩
  clear h20
  by_cases h30 : 30 < n
  · have d2 : decide ((30 : Int) < n) = true := by simp; omega
    clear h30
    go_enter Tryz.func5, Tryz.ntmps5
    have HBK := Stow.mk (known18_any _ (HM.out.keep (Below.self w)))
    have HBZ := Stow.mk ((Below.self w))
    go_wp2_with fail
    refine HBK.out.mono ?_
    rintro e wk ⟨rfl, hbk⟩
    have HBE := Stow.mk (HBZ.out.trans (hbk.mono HBZ.out.size))
    clear hbk HBK
    go_wp2_with fail
    go_ret
    exact ⟨rfl, HBE.out⟩
  have d2 : decide ((30 : Int) < n) = false := by simp; omega
  have HNW := Stow.mk (fun W (hb : Below w.heap.size w W) => ctNew_any N NA nc W (SlR.keep HN.out hb) (by have := HNS.out; omega))
  go_enter Tryz.func5, Tryz.ntmps5
  go_wp2_with fail
  refine (HNW.out w (Below.self w)).mono ?_
  rintro e w1 ⟨g1, rfl, hg1, hP1, hb1⟩
  have HX1 := Stow.mk hP1
  have HB1 := Stow.mk hb1
  clear hP1 hb1 d1 d2
  go_wp2_with fail
  refine (HNW.out w1 HB1.out).mono ?_
  rintro e w2 ⟨g2, rfl, hg2, hP2, hb2⟩
  have HS0 : Stow (∃ P1 P2, AloM w w2 g1 g2 P1 P2 ⟨N, [], 0⟩ ⟨N, [], 0⟩) := ⟨⟨_, _, HX1.out.keep hb2, hP2, fun k h1 h2 => by have := h1.2.1; have := h2.1; omega, by have := HX1.out.lt; omega, fun h => by have := h.2.1; omega, fun h => by have := HX1.out.lt; have := h.1; omega, ⟨hg1, fun k hk => hk.1⟩, ⟨by have := HB1.out.size; omega, fun k hk => by have := HB1.out.size; have := hk.1; omega⟩, HB1.out.trans (hb2.mono HB1.out.size)⟩⟩
  have HI0 : Stow (AloI N 0 ⟨N, [], 0⟩ ⟨N, [], 0⟩) := ⟨⟨Ct.Pl.Ok.start N, Ct.Pl.Ok.start N, ⟨rfl, rfl⟩, rfl, Nat.le_refl _, rfl⟩⟩
  clear hP2 hb2 HX1 HB1 HNW hg1 hg2
  have hn30 : (n : Int) ≤ 30 := by omega
  go_wp2_with fail
  go_loopw [7, 8, 9, 10, 11] (fun u _ _ _ _ wr => ∃ i : Nat, u = .int .i64 (i : Int) ∧ i ≤ n ∧ Stow (∃ P1 P2 p x, AloM w wr g1 g2 P1 P2 p x ∧ AloI N i p x)) (fun u _ _ _ _ _ => n - (intOf u).toNat)
  case atStart => exact ⟨0, rfl, by omega, ⟨by obtain ⟨P1, P2, h⟩ := HS0.out; exact ⟨P1, P2, _, _, h, HI0.out⟩⟩⟩
  case round =>
    obtain ⟨i, rfl, hi, HSX⟩ := hrel
    obtain ⟨P1, P2, p, x, hM, hI⟩ := HSX.out
    have HS := Stow.mk hM
    have HI := Stow.mk hI
    clear hM hI HSX HS0 HI0
    by_cases hlt : i < n
    · have hl1 : i < l.length := by rw [HNL.out]; exact hlt
      obtain ⟨b, off, rfl, hblt, _⟩ := HL.out.open (by simp [strs]; omega)
      have q0 := str_at (SlR.keep HL.out HS.out.below) hl1
      obtain ⟨t, ht⟩ : ∃ t, l[i] = t := ⟨_, rfl⟩
      rw [ht] at q0
      have HTI := Stow.mk ht
      have hii : (i : Int) < n := by omega
      have hi0 : (0 : Int) ≤ i := by omega
      clear ht
      by_cases h5 : 5000 < t.length
      · have h5i : (5000 : Int) < t.length := by omega
        have HBK := Stow.mk (known18_any _ (HM.out.keep HS.out.below))
        have HBZ := Stow.mk (HS.out.below)
        go_wp2_with fail
        refine HBK.out.mono ?_
        rintro e wk ⟨rfl, hbk⟩
        have HBE := Stow.mk (HBZ.out.trans (hbk.mono HBZ.out.size))
        clear hbk HBK
        go_wp2_with fail
        go_ret
        exact ⟨rfl, HBE.out⟩
      have h5i : ¬ (5000 : Int) < t.length := by omega
      have HTL : Stow (t.length ≤ 140737488355328) := ⟨by omega⟩
      have HPB := Stow.mk (ctPub_any HS.out.p1 HI.out.ok (by have := HI.out.bad.1; omega) t HTL.out (HM.out.keep HS.out.below))
      obtain ⟨y, hy⟩ : ∃ y, Ct.why p t = y := ⟨_, rfl⟩
      rw [hy] at HPB
      have HY := Stow.mk hy
      clear hy
      by_cases hy0 : y = 0
      · subst hy0
        rw [if_pos rfl] at HPB
        obtain ⟨v, hv⟩ : ∃ v : Int, ((p.T.length + 1 : Nat) : Int) = v := ⟨_, rfl⟩
        rw [hv] at HPB
        have HV := Stow.mk hv
        have HYS := Stow.mk (HI.out.yes HY.out)
        clear hv
        go_wp2_with fail
        refine HPB.out.mono ?_
        rintro e w3 ⟨rfl, hp3, ht3⟩
        have h3 := HS.out.pub hp3 ht3
        have q0' := str_at (SlR.keep HL.out h3.below) hl1
        rw [HTI.out] at q0'
        have HPX := Stow.mk (ctPub_any h3.p2 HI.out.okx (by have := HI.out.bad.2; omega) t HTL.out (HM.out.keep h3.below))
        rw [HYS.out.2, if_pos rfl, HI.out.same, HV.out] at HPX
        have HS := Stow.mk h3
        clear hp3 ht3 h3 HPB q0
        go_wp2_with fail
        refine HPX.out.mono ?_
        rintro e w4 ⟨rfl, hp4, ht4⟩
        have HS4 := Stow.mk (HS.out.swap.pub hp4 ht4).swap
        clear hp4 ht4 HPX q0' HS
        go_wp2_with fail
        exact ⟨⟨i + 1, by simp, by omega, ⟨_, _, _, _, HS4.out, HYS.out.1⟩⟩, by simp [intOf]; omega⟩
      · rw [if_neg hy0] at HPB
        have hnz : ((y : Int) == 0) = false := by simp; omega
        have hnz2 : ¬ (y : Int) = 0 := by omega
        have HNO := Stow.mk (HI.out.no (t := t) (by rw [HY.out]; exact hy0))
        go_wp2_with fail
        refine HPB.out.mono ?_
        rintro e w3 ⟨rfl, hp3, ht3⟩
        have HS3 := Stow.mk (HS.out.pub hp3 ht3)
        clear hp3 ht3 HPB q0 HY HS
        go_wp2_with fail
        exact ⟨⟨i + 1, by simp, by omega, ⟨_, _, _, _, HS3.out, HNO.out⟩⟩, by simp [intOf]; omega⟩
    · obtain rfl : i = n := by omega
      have hii : ¬ (i : Int) < i := by omega
      obtain ⟨q, hq⟩ : ∃ q, p.T.length = q := ⟨_, rfl⟩
      have HQ := Stow.mk hq
      have hq16 : q ≤ 16 := by rw [← hq]; exact HI.out.ok.few
      clear hq
      go_wp2_with fail
      go_loopw [12, 13, 14, 15, 16] (fun u _ _ _ _ wi => ∃ j : Nat, u = .int .i64 ((j + 1 : Nat) : Int) ∧ j ≤ q ∧ Stow (AloM w wi g1 g2 P1 P2 p x)) (fun u _ _ _ _ _ => q + 1 - (intOf u).toNat)
      case atStart => exact ⟨0, rfl, by omega, HS⟩
      case round =>
        obtain ⟨j, rfl, hj, HS⟩ := hrel
        obtain ⟨v, hv⟩ : ∃ v : Int, ((j + 1 : Nat) : Int) = v := ⟨_, rfl⟩
        have HV := Stow.mk hv
        rw [hv]
        have HVS := Stow.mk (ctVersions_any HS.out.p1)
        rw [HQ.out] at HVS
        by_cases hjq : j < q
        · have dv : decide (v ≤ (q : Int)) = true := by simp; omega
          have hjT : j < p.T.length := by rw [HQ.out]; exact hjq
          have hjX : j < x.T.length := by rw [HI.out.same]; exact hjT
          have HA1 := Stow.mk (ctAt_yes HS.out.p1 HI.out.ok j hjT)
          rw [hv] at HA1
          have hvb : v + 1 = ((j + 1 + 1 : Nat) : Int) := by omega
          have hvm : v ≤ 100 := by omega
          have hv0 : 0 ≤ v := by omega
          have HVB := Stow.mk hvb
          clear hv hvb
          go_wp2_with fail
          refine HVS.out.mono ?_
          rintro e w3 ⟨rfl, hw3⟩
          rw [← hw3] at HA1 HS
          clear hw3 HVS
          go_wp2_with fail
          refine HA1.out.mono ?_
          rintro e w4 ⟨t1, rfl, hn1, hc1, hN1⟩
          have HS := Stow.mk (HS.out.keep hN1.below)
          have HR1 := Stow.mk hN1.own.read
          have HC1 := Stow.mk hc1
          obtain ⟨n1, A1, cp1, R1, f1⟩ := t1
          simp only at hn1 HR1 HC1
          subst hn1
          obtain ⟨m, hm⟩ : ∃ m, R1.length = m := ⟨_, rfl⟩
          have HML := Stow.mk hm
          unfold Tm.cells
          simp only [hm]
          rw [HV.out]
          clear hc1 hN1 HA1 hm
          have hbx := Below.alloc' (Below.self w4) (.cells #[.int .i64 v, .slice A1 m cp1, .string (bs f1)] 46)
          have hX := Held.made w4 [.int .i64 v, .slice A1 m cp1, .string (bs f1)] 46
          obtain ⟨W5, hW5⟩ : ∃ W, w4.alloc (.cells #[.int .i64 v, .slice A1 m cp1, .string (bs f1)] 46) = W := ⟨_, rfl⟩
          rw [show w4.alloc (.cells [.int .i64 v, .slice A1 m cp1, .string (bs f1)].toArray 46) = W5 from hW5] at hX
          rw [hW5] at hbx
          have HX := Stow.mk hX
          have HS := Stow.mk (HS.out.keep hbx)
          have HR1 := Stow.mk (HR1.out.keep hbx)
          have HW5 := Stow.mk hW5
          have HA2 := Stow.mk (ctAt_yes HS.out.p2 HI.out.okx j hjX)
          rw [HV.out] at HA2
          clear hX hbx hW5
          go_upto_region 18 with fail
          rw [show w4.alloc _ = W5 from HW5.out]
          clear HW5
          go_wp2_with fail
          refine HA2.out.mono ?_
          rintro e w6 ⟨t2, rfl, hn2, hc2, hN2⟩
          have HS := Stow.mk (HS.out.keep hN2.below)
          have HX := Stow.mk (HX.out.kept hN2.below)
          have HR1 := Stow.mk (HR1.out.keep hN2.below)
          have HR2 := Stow.mk hN2.own.read
          have hcc : t2.c = Tm.c ⟨j + 1, A1, cp1, R1, f1⟩ := by rw [hc2, HC1.out]; simp only [HI.out.same]
          obtain ⟨n2, A2, cp2, R2, f2⟩ := t2
          simp only at hn2 HR2
          subst hn2
          simp only [Tm.c, Cf.mk.injEq] at hcc
          obtain ⟨hrr, rfl⟩ := hcc
          have hm2 : R2.length = m := by rw [← HML.out]; have := congrArg List.length hrr; simpa using this
          unfold Tm.cells
          simp only [hm2]
          rw [HV.out]
          have HRR := Stow.mk hrr.symm
          clear hc2 hN2 HA2 hm2 hrr
          have hbx := Below.alloc' (Below.self w6) (.cells #[.int .i64 v, .slice A2 m cp2, .string (bs f2)] 46)
          have hX2 := Held.made w6 [.int .i64 v, .slice A2 m cp2, .string (bs f2)] 46
          obtain ⟨W7, hW7⟩ : ∃ W, w6.alloc (.cells #[.int .i64 v, .slice A2 m cp2, .string (bs f2)] 46) = W := ⟨_, rfl⟩
          rw [show w6.alloc (.cells [.int .i64 v, .slice A2 m cp2, .string (bs f2)].toArray 46) = W7 from hW7] at hX2
          rw [hW7] at hbx
          have HX2 := Stow.mk hX2
          have HX := Stow.mk (HX.out.kept hbx)
          have HS := Stow.mk (HS.out.keep hbx)
          have HSM := Stow.mk (refTbSame_any v m R1 R2 A1 A2 cp1 cp2 f2 W7 HML.out (HR1.out.keep hbx) (HR2.out.keep hbx) HRR.out)
          have HW7 := Stow.mk hW7
          clear hX2 hbx hW7 HR1 HR2
          go_upto_region 19 with fail
          rw [show w6.alloc _ = W7 from HW7.out]
          clear HW7
          have x0 := HX.out.cell (i := 0) rfl
          have x1 := HX.out.cell (i := 1) rfl
          have x2 := HX.out.cell (i := 2) rfl
          have y0 := HX2.out.cell (i := 0) rfl
          have y1 := HX2.out.cell (i := 1) rfl
          have y2 := HX2.out.cell (i := 2) rfl
          go_wp2_with fail
          refine HSM.out.mono ?_
          rintro e w8 ⟨rfl, hb8⟩
          have HS := Stow.mk (HS.out.keep hb8)
          clear hb8 x0 x1 x2 y0 y1 y2 HSM HX HX2
          go_wp2_with fail
          refine ⟨⟨j + 1, ?_, by omega, HS⟩, ?_⟩
          · rw [← HVB.out]
          · have := HVB.out
            simp [intOf]
            omega
        · obtain rfl : j = q := by omega
          have dv : decide (v ≤ (j : Int)) = false := by simp; omega
          have HVX := Stow.mk (ctVersions_any HS.out.p2)
          have HRX := Stow.mk (ctRefused_any HS.out.p2)
          rw [HI.out.same, HQ.out] at HVX
          rw [HI.out.bad.2] at HRX
          have HBL := Stow.mk HS.out.below
          clear hv HS
          go_wp2_with fail
          refine HVS.out.mono ?_
          rintro e w3 ⟨rfl, hw3⟩
          rw [← hw3] at HVS HVX HRX HBL
          clear hw3
          go_wp2_with fail
          refine HVS.out.mono ?_
          rintro e w4 ⟨rfl, hw4⟩
          rw [← hw4] at HVX HRX HBL
          clear hw4
          go_wp2_with fail
          refine HVX.out.mono ?_
          rintro e w5 ⟨rfl, hw5⟩
          rw [← hw5] at HRX HBL
          clear hw5
          go_wp2_with fail
          refine HRX.out.mono ?_
          rintro e w6 ⟨rfl, hw6⟩
          rw [← hw6] at HBL
          clear hw6
          have HBK := Stow.mk (known18_any _ (HM.out.keep HBL.out))
          have HBZ := Stow.mk (HBL.out)
          go_wp2_with fail
          refine HBK.out.mono ?_
          rintro e wk ⟨rfl, hbk⟩
          have HBE := Stow.mk (HBZ.out.trans (hbk.mono HBZ.out.size))
          clear hbk HBK
          go_wp2_with fail
          go_ret
          exact ⟨rfl, HBE.out⟩
end Go.Proofs.YtfbhdkkmcfnghaaGreatDoor
end

section
namespace Go.Proofs.YtfbhdkkmcfnghaaGreatDoor
open Go.RowKit Cells
set_option linter.unusedVariables false

theorem flatR_strs (w : World) : FlatR Tryz.prog w 38 [pSlice w 1 [pStrR]] := flatR_slice Tryz.underlying38 (by kernel_rfl) (flatR_string Tryz.underlying9)
theorem strs_of {w : World} {v : Value} (h : pSlice w 1 [pStrR] v) : ∃ A cap, ∃ l : List (List UInt8), v = .slice A l.length cap ∧ SlR w 1 (.slice A l.length cap) (strs l) := by
  obtain ⟨l, h1, _⟩ := slr_of (α := List UInt8) (fun t => [.string (bs t)]) (fun t => t.length ≤ 140737488355328) (fun cs hc => by
    obtain ⟨v, rfl, l, rfl, hl⟩ := Rel.one hc
    exact ⟨l, rfl, hl⟩) (fun _ => rfl) (by decide) h
  obtain ⟨A, cap, rfl, _⟩ := h1.form
  rw [List.length_map] at h1 ⊢
  exact ⟨A, cap, l, rfl, h1⟩
theorem alone18_at (v1 v2 : Value) (w : World) (h1 : pSlice w 1 [pStrR] v1) (h2 : pSlice w 1 [pStrR] v2) (hm : MaxIs w) : Calls Tryz.prog 5 #[v1, v2] w fun e w' => e = .returned (.bool true) ∧ Below w.heap.size w w' := by
  obtain ⟨A, cap, N, rfl, hN⟩ := strs_of h1
  obtain ⟨A2, cap2, l, rfl, hl⟩ := strs_of h2
  exact alone18 N l A A2 cap cap2 w hN hl hm
end Go.Proofs.YtfbhdkkmcfnghaaGreatDoor
end

section
namespace Go.Proofs.YtfbhdkkmcfnghaaGreatDoor
open Go.ChangeShapes Go.WideShapes Go.ChangeAt Go.RowKit

section
variable {H : Type} {enc : TypeId × Value → H}
/-- The kit's wrap for rows that list variables, with the world's shape and the condition handed to the contract. -/
theorem returns_and_both {a : Assume} {C : Checked} {os : Os} {f : FuncId} {fn : Func} {s : ChangeSpec} {conds : List PathCond} {apart fresh handsOn again : Bool} {X : World → Array Value → Prop} (hX : ∀ (w w' : World) (args : Array Value), w'.heap = w.heap → X w args → X w' args)
    (own : ownKnob C.prog.godebug = none) (started : os.Started) (noInit : C.prog.inits.idxOf? f = none) (hfn : C.prog.funcs[f]? = some fn)
    (witness : ∃ (w : World) (tape : Tape) (i : Input), w.os = os ∧ (w.forCall tape i).Shaped C.prog ∧ i.vars = [] ∧ Input.okWide C.prog (w.forCall tape i) .any w.heap.size f i ∧
      ((s.pre enc C.prog fn conds apart (w.forCall tape i).memory i.args ∧ X (w.forCall tape i).memory i.args) ∧ sizedMet enc C.prog fn (OpenSpec.ofChange s) apart (w.forCall tape i).memory i.args) ∧ a.holds C.prog (lone (Frame.enter C.prog f i.args .normal) [] (w.forCall tape i)))
    (contract : ∀ (W : World) (base : Nat) (args : Array Value) (ds gs : List (DataW H)) (before : List MemPlace),
      (∀ (j : Nat) t v, fn.params[j]? = some t → args[j]? = some v → Value.okWide C.prog W .any base t v) →
      DataW.Whole enc C.prog fn.params.toList s.vars apart W args.toList ds gs before →
      conds.all (PathCond.test C.prog ⟨fn.params.toList, ds, s.plain.varTypes C.prog, gs⟩) = true →
      (DataW.weightsEach C.prog (fn.params.toList ++ s.plain.varTypes C.prog) (ds ++ gs)).all (· ≤ reachBytes) = true → W.ShapedOpen C.prog → X W args →
      a.holds C.prog (lone (Frame.enter C.prog f args .normal) [] W) →
      Calls C.prog f args W fun e W' => ∃ v, e = .returned v ∧ s.post enc C.prog fn apart fresh handsOn again W args v W') :
    ReturnsInHanded a C os f .any (fun w args => (s.pre enc C.prog fn conds apart w args ∧ X w args) ∧ sizedMet enc C.prog fn (OpenSpec.ofChange s) apart w args) (s.post enc C.prog fn apart fresh handsOn again) := by
  refine returnsInHanded_of_calls own started noInit witness ?_
  intro w tape i _ hsh _ hok hpre hholds
  obtain ⟨_, _, _, fn', hfn', _, _, _, _, hval⟩ := hok
  have e : fn' = fn := Option.some.inj (hfn'.symm.trans hfn)
  subst e
  obtain ⟨⟨⟨ds, gs, before, hw, hc⟩, hx⟩, hz⟩ := hpre
  have hw' := DataW.Whole.of_heap (w' := w.forCall tape i) (by rfl) hw
  refine (contract (w.forCall tape i) w.heap.size i.args ds gs before hval hw' hc (hz.weights hw) hsh (hX _ _ _ (by rfl) hx) hholds).mono fun e W' ⟨v, he, hp⟩ => ?_
  subst he
  exact ChangeSpec.post_blind hp
end

theorem max_of_shaped' {W : World} (h : W.ShapedOpen Tryz.prog) : MaxIs W :=
  cell_of_shapedOpen_int (g := 0) (t := 3) (zero := #[.int .i64 0]) h (of_decide_eq_true (by kernel_rfl)) (by kernel_rfl) rfl (by kernel_rfl) (by kernel_rfl) Tryz.underlying3
def laidCt : List (String × DataW Unit) := [("unicode/utf8.acceptRanges", Rows.laid_unicode_utf8_acceptRanges), ("unicode/utf8.first", Rows.laid_unicode_utf8_first)]
theorem doorCt_met (os : Os) (args : Array Value) : laidMetH Tryz.prog laidCt ((World.laidAll Tryz.prog os laidCt).forCall (fun _ _ => 0) ⟨#[], args, []⟩).memory := by
  rw [MakeChecks.laidMetH_plain _ _ _ (by kernel_rfl)]
  exact laidMet_laidAll _ (by kernel_rfl) (by kernel_rfl)
theorem ctEnv_of {W : World} (hS : W.ShapedOpen Tryz.prog) (_h : laidMetH Tryz.prog laidCt W) : MaxIs W := max_of_shaped' hS
end Go.Proofs.YtfbhdkkmcfnghaaGreatDoor
end
