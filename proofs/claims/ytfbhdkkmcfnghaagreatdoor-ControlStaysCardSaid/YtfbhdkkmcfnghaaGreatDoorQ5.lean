/- A control plane beside a row of its tables. No condition.; Walk of the statement on versions that stay. Conditions: the lists' memory; what the library's variables hold.; Lists of texts as they come in. Conditions: those of the form.; What the condition of the rows on a control plane gives: what the library's variables hold; a world that meets it. -/
import Derived.Test.YtfbhdkkmcfnghaaGreatDoorQ4
import Derived.Deep.AppendLies
import Derived.Test.YtfbhdkkmcfnghaaGreatDoorReach
import Derived.Test.YtfbhdkkmcfnghaaGreatDoorRows
import Derived.ProofKit
import Derived.LaidMore
import Derived.Lay
import Derived.OpenShut
import Derived.Stop.Joined
import Derived.Stop.LaidErr
import Derived.SizedLaws
import Derived.Shelf.Vars
import Derived.Lib.LaidTab

section
namespace Go.Proofs.YtfbhdkkmcfnghaaGreatDoor
open Go.RowKit
set_option linter.unusedVariables false

/-- 'append(out, x)': the row, and where it lies. -/
theorem wpList_append_elem_lies {P : Program} {ops : Array Oper} {rest : List Oper} {o : Oper} {a : Act} {Q : Exit → Act → World → Prop}
    (wr : World) (xs : List Value) (eo : TypeId) (hgd : o.guard = none) (s y : Operand) (t : TypeId)
    (ho : o.op = Op.call { callee := Callee.builtin Builtin.append, args := #[s, y], argTypes := #[t, t] })
    (B : Nat) (e : TypeId) (z : Value) (size bytes : Nat) (ht : P.underlying t = some (.slice e))
    (hinfo : (P.info? e).map (fun i => (i.zero, i.size, i.bytes)) = some (some z, size, bytes))
    (v : Value) (n : Nat) (ys : List Value) (hown : wr.ownsRow B e size v n ys)
    (hs : a.eval s = v) (g : Nat) (hx : a.eval y = .slice (some ⟨g, 0, none⟩) 1 1) (hgs : g = wr.heap.size)
    (hzc : z.cells.size = size) (hsz : 0 < size) (hlen : xs.length = size) (h1 : ∀ u ∈ xs, u.oneCell' = true) (hbytes : (n + 1) * bytes ≤ 140737488355328) (hn : n + 1 ≤ maxLen) (hB : B ≤ wr.heap.size)
    (h : ∀ g' cap w', w'.ownsRow B e size (.slice (some ⟨g', 0, none⟩) (n + 1) cap) (n + 1) (ys ++ xs) → (wr.alloc (.cells xs.toArray eo)).grownBy w' v.ownBlock → Below B wr w' → wr.heap.size < w'.heap.size → (v.ownBlock = some g' ∨ wr.heap.size ≤ g') →
      wpList P ops Q rest (a.put o.dst (.slice (some ⟨g', 0, none⟩) (n + 1) cap)) w') :
    wpList P ops Q (o :: rest) a (wr.alloc (.cells xs.toArray eo)) := by
  subst hgs
  obtain ⟨i, hi, hz, hsz', hby⟩ := info_parts hinfo
  refine wpList_append_lies _ hgd s y t ho B e i z size bytes ht hi hz hsz' hby hzc hsz v n ys hs (hown.alloc _) ⟨wr.heap.size, 0, none⟩ 1 1 xs hx (by rw [hlen, Nat.one_mul]) ?_ h1 (by decide) hn hbytes (by simp; omega) (wr.heap.size + 1) (by simp) ?_
  · intro j u hj
    rw [Addr.add_lit, Nat.zero_add]
    have : (wr.alloc (.cells xs.toArray eo)).cell? ⟨wr.heap.size, j, none⟩ = xs[j]? := by simp
    rw [this, hj]
  · intro g' cap w' ho' hg hat hlt
    have hb : Below B wr (wr.alloc (.cells xs.toArray eo)) := (Below.refl _ _).alloc hB _
    refine h g' cap w' ho' hg (hb.grown hg (by simp; omega) fun k hk => (hown.lt k hk).1) ?_ (hat.imp id (by omega))
    have := hg.size
    simp at this; omega
/-- A plane, and all tables so far in a row of the law's own; X: those that are not there yet. -/
structure StyI (w wr : World) (g : Nat) (N : List (List UInt8)) (i : Nat) (av : Value) (P : Nat → Prop) (pl : Ct.Pl) (L : List Tm) (X : List Cf) : Prop where
  plm : PlM wr P g pl
  ok : pl.Ok
  sum : pl.T.length + pl.bad = i
  nm : pl.N = N
  row : wr.ownsRow w.heap.size 46 3 av L.length (L.flatMap Tm.cells)
  each : ∀ t ∈ L, RsR wr t.A t.cap t.R
  at_ : ∀ t ∈ L, InR (fun k => k ≠ g ∧ ¬ P k ∧ av.ownBlock ≠ some k ∧ k < wr.heap.size) t.A t.R
  eq : L.map Tm.c ++ X = pl.T
  no : ∀ j (h : j < L.length), L[j].n = j + 1
  off : ∀ k, av.ownBlock = some k → k ≠ g ∧ ¬ P k ∧ k < wr.heap.size
  lo : w.heap.size ≤ g ∧ ∀ k, P k → w.heap.size ≤ k
  below : Below w.heap.size w wr
section
variable {w wr w' : World} {g i : Nat} {N : List (List UInt8)} {av : Value} {P : Nat → Prop} {pl : Ct.Pl} {L : List Tm} {X : List Cf}
theorem StyI.keep (h : StyI w wr g N i av P pl L X) (hb : Below wr.heap.size wr w') : StyI w w' g N i av P pl L X :=
  ⟨h.plm.keep hb, h.ok, h.sum, h.nm, own_kept h.row hb, fun t ht => (h.each t ht).keep hb, fun t ht => (h.at_ t ht).mono (fun k hk => ⟨hk.1, hk.2.1, hk.2.2.1, Nat.lt_of_lt_of_le hk.2.2.2 hb.size⟩), h.eq, h.no, fun k e => ⟨(h.off k e).1, (h.off k e).2.1, Nat.lt_of_lt_of_le (h.off k e).2.2 hb.size⟩, h.lo, h.below.trans (hb.mono h.below.size)⟩
theorem StyI.pub (h : StyI w wr g N i av P pl L []) (t : List UInt8) (hp : PlM w' (NewP P wr.heap.size w'.heap.size) g (Ct.publish pl t)) (ht : Turn (fun k => k = g ∨ P k) wr w') :
    StyI w w' g N (i + 1) av (NewP P wr.heap.size w'.heap.size) (Ct.publish pl t) L (if Ct.why pl t = 0 then [⟨Ct.order (Cf.read t).1.rs, (Cf.read t).1.f⟩] else []) := by
  have hs := ht.size
  have hnew : ∀ k, k < wr.heap.size → ¬ P k → ¬ NewP P wr.heap.size w'.heap.size k := fun k hk hn h => by
    rcases h with h | h
    · exact hn h
    · omega
  have hle := h.eq
  rw [List.append_nil] at hle
  refine ⟨hp, h.ok.publish t, ?_, by rw [Ct.publish_N]; exact h.nm, own_turn h.row ht (fun k e => ?_), fun x hx => (h.each x hx).turn (h.at_ x hx) ht (fun k hk e => ?_), fun x hx => (h.at_ x hx).mono (fun k hk => ⟨hk.1, hnew k hk.2.2.2 hk.2.1, hk.2.2.1, by omega⟩), ?_, h.no, fun k e => ⟨(h.off k e).1, hnew k (h.off k e).2.2 (h.off k e).2.1, by have := (h.off k e).2.2; omega⟩, ⟨h.lo.1, fun k hk => ?_⟩, h.below.trans (ht.below (fun k hk => ?_) h.below.size)⟩
  · rw [Ct.publish_sum, h.sum]
  · rintro (rfl | hk)
    · exact (h.off _ e).1 rfl
    · exact (h.off _ e).2.1 hk
  · rcases e with rfl | e
    · exact hk.1 rfl
    · exact hk.2.1 e
  · unfold Ct.publish
    by_cases hy : Ct.why pl t = 0
    · rw [if_pos hy, if_pos hy, hle]
    · rw [if_neg hy, if_neg hy, hle, List.append_nil]
  · rcases hk with hk | hk
    · exact h.lo.2 k hk
    · have := h.below.size; omega
  · rcases hk with rfl | hk
    · exact h.lo.1
    · exact h.lo.2 k hk
theorem StyI.less {c : Cf} (h : StyI w wr g N i av P pl L [c]) : L.length < pl.T.length ∧ ∀ (hl : L.length < pl.T.length), pl.T[L.length] = c := by
  have e := h.eq
  have hl : pl.T.length = L.length + 1 := by rw [← e]; simp
  refine ⟨by omega, fun h => ?_⟩
  have : pl.T[L.length]? = some c := by rw [← e, List.getElem?_append_right (by simp)]; simp
  rw [List.getElem?_eq_getElem h] at this
  exact Option.some.inj this
theorem StyI.len (h : StyI w wr g N i av P pl L []) : L.length = pl.T.length := by rw [← h.eq]; simp
/-- The row with a table more. -/
theorem StyI.more {W1 w2 : World} {c : Cf} {t : Tm} {g' cap' : Nat} (h : StyI w wr g N i av P pl L [c]) (hR : RsR wr t.A t.cap t.R) (hI : InR (fun k => k ≠ g ∧ ¬ P k ∧ av.ownBlock ≠ some k ∧ k < wr.heap.size) t.A t.R) (hc : t.c = c) (hn : t.n = L.length + 1)
    (hb : Below wr.heap.size wr W1) (hgr : W1.grownBy w2 av.ownBlock) (hown : w2.ownsRow w.heap.size 46 3 (.slice (some ⟨g', 0, none⟩) (L.length + 1) cap') (L.length + 1) (L.flatMap Tm.cells ++ t.cells)) (hat : av.ownBlock = some g' ∨ wr.heap.size ≤ g') (hlt : g' < w2.heap.size) :
    StyI w w2 g N i (.slice (some ⟨g', 0, none⟩) (L.length + 1) cap') P pl (L ++ [t]) [] := by
  have hk := h.keep hb
  have ht : Turn (fun k => av.ownBlock = some k) W1 w2 := ⟨hgr.os, hgr.tape, hgr.output, hgr.size, fun k hk hn => hgr.block k hk (fun e => hn e.symm)⟩
  have hs := hgr.size
  have hs1 := hb.size
  have hPlow := h.plm.low
  have hglt := h.plm.lt
  have hw := h.below.size
  have hoff : ∀ k, (Value.slice (some ⟨g', 0, none⟩) (L.length + 1) cap').ownBlock = some k → k = g' := fun k e => by cases e; rfl
  have hin : ∀ k, (k ≠ g ∧ ¬ P k ∧ av.ownBlock ≠ some k ∧ k < wr.heap.size) → (k ≠ g ∧ ¬ P k ∧ (Value.slice (some ⟨g', 0, none⟩) (L.length + 1) cap').ownBlock ≠ some k ∧ k < w2.heap.size) := fun k hk => ⟨hk.1, hk.2.1, fun e => by
    have := hoff k e
    subst this
    rcases hat with e | e
    · exact hk.2.2.1 e
    · omega, by omega⟩
  refine ⟨hk.plm.turn ht (fun k hk e => (h.off k e).2.1 hk) (fun e => (h.off g e).1 rfl), h.ok, h.sum, h.nm, by simpa using hown, fun x hx => ?_, fun x hx => ?_, by rw [List.append_nil, List.map_append, ← h.eq]; simp [hc], fun j hj => ?_, fun k e => ?_, h.lo, hk.below.trans (ht.below (fun k e => (World.ownsRow.lt hk.row k e).1) hk.below.size)⟩
  · rcases List.mem_append.1 hx with hx | hx
    · exact (hk.each x hx).turn (h.at_ x hx) ht (fun k hk => hk.2.2.1)
    · simp only [List.mem_singleton] at hx
      subst hx
      exact (hR.keep hb).turn hI ht (fun k hk => hk.2.2.1)
  · rcases List.mem_append.1 hx with hx | hx
    · exact (h.at_ x hx).mono hin
    · simp only [List.mem_singleton] at hx
      subst hx
      exact hI.mono hin
  · by_cases hjl : j < L.length
    · rw [List.getElem_append_left hjl]; exact h.no j hjl
    · have : j = L.length := by simp at hj; omega
      subst this
      rw [List.getElem_append_right (Nat.le_refl _)]
      simpa using hn
  · have := hoff k e
    subst this
    rcases hat with e2 | e2
    · exact ⟨(h.off _ e2).1, (h.off _ e2).2.1, hlt⟩
    · exact ⟨by omega, fun hp => by have := hPlow _ hp; omega, hlt⟩
end
/-- A table that At gave lies apart from all. -/
theorem TbN.apart {w wr w' : World} {g i : Nat} {N : List (List UInt8)} {av : Value} {P : Nat → Prop} {pl : Ct.Pl} {L : List Tm} {X : List Cf} {t : Tm} (h : StyI w wr g N i av P pl L X) (hN : TbN wr w' t) : InR (fun k => k ≠ g ∧ ¬ P k ∧ av.ownBlock ≠ some k ∧ k < w'.heap.size) t.A t.R := by
  have key : ∀ k, wr.heap.size ≤ k → k < w'.heap.size → (k ≠ g ∧ ¬ P k ∧ av.ownBlock ≠ some k ∧ k < w'.heap.size) := fun k hk hl => ⟨by have := h.plm.lt; omega, fun hp => by have := h.plm.low k hp; omega, fun e => by have := (h.off k e).2.2; omega, hl⟩
  exact ⟨fun a e => by have := World.ownsRow.lt hN.own.own a.block (by rw [e]; rfl); exact key _ this.1 this.2, fun m hm a e => key _ (hN.own.apart m hm a e).1 (hN.own.lt m hm a e)⟩
end Go.Proofs.YtfbhdkkmcfnghaaGreatDoor
end

section
namespace Go.Proofs.YtfbhdkkmcfnghaaGreatDoor
open Go.RowKit
set_option linter.unusedVariables false
set_option linter.unusedSimpArgs false

set_option maxHeartbeats 8000000 in
set_option maxRecDepth 100000 in
theorem stays18 (N l : List (List UInt8)) (NA A : Option Addr) (nc cap : Nat) (w : World) (hN : SlR w 1 (.slice NA N.length nc) (strs N)) (hl : SlR w 1 (.slice A l.length cap) (strs l)) (hm : MaxIs w) :
    Calls Tryz.prog 4 #[.slice NA N.length nc, .slice A l.length cap] w fun e w' => e = .returned (.bool true) ∧ Below w.heap.size w w' := by
  have HN := Stow.mk hN
  have HL := Stow.mk hl
  have HM := Stow.mk hm
  have hml : l.length ≤ 9223372036854775807 := by have := SlR.len hl; simpa [strs] using this
  have hmN : N.length ≤ 9223372036854775807 := by have := SlR.len hN; simpa [strs] using this
  obtain ⟨n, hn⟩ : ∃ n, l.length = n := ⟨_, rfl⟩
  have HNL := Stow.mk hn
  rw [hn] at hml ⊢
  clear hN hl hm hn
  by_cases h20 : 20 < N.length
  · have d1 : decide ((20 : Int) < N.length) = true := by simp; omega
    clear h20
    go_enter Tryz.func4, Tryz.ntmps4
    have HBK := Stow.mk (known18_any _ (HM.out.keep (Below.self w)))
    have HBZ := Stow.mk ((Below.self w))
    go_wp2_with fail
    refine HBK.out.mono ?_
    rintro e wk ⟨rfl, hbk⟩
    have HBE := Stow.mk (HBZ.out.trans (hbk.mono HBZ.out.size))
    clear hbk HBK
    go_wp2_with fail
    go_ret
    exact ⟨rfl, HBE.out⟩
  have d1 : decide ((20 : Int) < N.length) = false := by simp; omega
  have HNS : Stow (N.length ≤ 20) := ⟨by omega⟩
  clear h20
  by_cases h30 : 30 < n
  · have d2 : decide ((30 : Int) < n) = true := by simp; omega
    clear h30
    go_enter Tryz.func4, Tryz.ntmps4
    have HBK := Stow.mk (known18_any _ (HM.out.keep (Below.self w)))
    have HBZ := Stow.mk ((Below.self w))
    go_wp2_with fail
    refine HBK.out.mono ?_
    rintro e wk ⟨rfl, hbk⟩
    have HBE := Stow.mk (HBZ.out.trans (hbk.mono HBZ.out.size))
    clear hbk HBK
    go_wp2_with fail
    go_ret
    exact ⟨rfl, HBE.out⟩
  have d2 : decide ((30 : Int) < n) = false := by simp; omega
  have HNW := Stow.mk (ctNew_any N NA nc w HN.out (by have := HNS.out; omega))
  go_enter Tryz.func4, Tryz.ntmps4
  go_wp2_with fail
  refine HNW.out.mono ?_
  rintro e w1 ⟨g, rfl, hg0, hP, hb1⟩
  have HS0 : Stow (StyI w w1 g N 0 (.slice none 0 0) (fun k => w.heap.size ≤ k ∧ k < w1.heap.size ∧ k ≠ g) ⟨N, [], 0⟩ [] []) := ⟨hP, Ct.Pl.Ok.start N, rfl, rfl, World.ownsRow_nil _ _ _ _, by simp, by simp, rfl, by simp, (fun k e => by cases e), ⟨hg0, fun k hk => hk.1⟩, hb1⟩
  clear hP hb1 HNW hg0 d1 d2
  have hn30 : (n : Int) ≤ 30 := by omega
  go_wp2_with fail
  go_loopw [6, 7, 8, 9, 10, 11, 12, 13, 14] (fun av u _ _ _ _ _ _ _ wr => ∃ i : Nat, u = .int .i64 (i : Int) ∧ i ≤ n ∧ Stow (∃ P pl L, StyI w wr g N i av P pl L [])) (fun _ u _ _ _ _ _ _ _ _ => n - (intOf u).toNat)
  case atStart => exact ⟨0, rfl, by omega, ⟨_, _, _, HS0.out⟩⟩
  case round =>
    obtain ⟨i, rfl, hi, HSX⟩ := hrel
    obtain ⟨P, pl, L, hS⟩ := HSX.out
    have HS := Stow.mk hS
    obtain ⟨Aa, ca, rfl⟩ := own_form hS.row
    obtain ⟨q, hq⟩ : ∃ q, L.length = q := ⟨_, rfl⟩
    have HQL := Stow.mk hq
    have hq16 : q ≤ 16 := by have := hS.len; have := hS.ok.few; omega
    rw [hq] at HS ⊢
    clear hS HSX hq HS0
    by_cases hlt : i < n
    · have hl1 : i < l.length := by rw [HNL.out]; exact hlt
      obtain ⟨b, off, rfl, hblt, _⟩ := HL.out.open (by simp [strs]; omega)
      have q0 := str_at (SlR.keep HL.out HS.out.below) hl1
      obtain ⟨t, ht⟩ : ∃ t, l[i] = t := ⟨_, rfl⟩
      rw [ht] at q0
      have hii : (i : Int) < n := by omega
      have hi0 : (0 : Int) ≤ i := by omega
      clear ht
      by_cases h5 : 5000 < t.length
      · have h5i : (5000 : Int) < t.length := by omega
        have HBK := Stow.mk (known18_any _ (HM.out.keep HS.out.below))
        have HBZ := Stow.mk (HS.out.below)
        go_wp2_with fail
        refine HBK.out.mono ?_
        rintro e wk ⟨rfl, hbk⟩
        have HBE := Stow.mk (HBZ.out.trans (hbk.mono HBZ.out.size))
        clear hbk HBK
        go_wp2_with fail
        go_ret
        exact ⟨rfl, HBE.out⟩
      have h5i : ¬ (5000 : Int) < t.length := by omega
      have HTL : Stow (t.length ≤ 140737488355328) := ⟨by omega⟩
      have HPB := Stow.mk (ctPub_any HS.out.plm HS.out.ok (by have := HS.out.sum; omega) t HTL.out (HM.out.keep HS.out.below))
      have HQT : Stow (pl.T.length = q) := ⟨by rw [← HS.out.len]; exact HQL.out⟩
      rw [HQT.out] at HPB
      obtain ⟨y, hy⟩ : ∃ y, Ct.why pl t = y := ⟨_, rfl⟩
      rw [hy] at HPB
      have HY := Stow.mk hy
      clear hy
      by_cases hy0 : y = 0
      · subst hy0
        obtain ⟨v, hv⟩ : ∃ v : Int, ((q + 1 : Nat) : Int) = v := ⟨_, rfl⟩
        rw [if_pos rfl, hv] at HPB
        have HV := Stow.mk hv
        clear hv
        go_wp2_with fail
        refine HPB.out.mono ?_
        rintro e w3 ⟨rfl, hp3, ht3⟩
        have h3 := HS.out.pub t hp3 ht3
        rw [HY.out, if_pos rfl] at h3
        have HS := Stow.mk h3
        obtain ⟨P3, hP3⟩ : ∃ P', NewP P wr.heap.size w3.heap.size = P' := ⟨_, rfl⟩
        obtain ⟨p3, hpp3⟩ : ∃ P', Ct.publish pl t = P' := ⟨_, rfl⟩
        obtain ⟨c3, hc3⟩ : ∃ c : Cf, (⟨Ct.order (Cf.read t).1.rs, (Cf.read t).1.f⟩ : Cf) = c := ⟨_, rfl⟩
        rw [hP3, hpp3, hc3] at HS
        clear hp3 ht3 h3 hP3 hpp3 hc3 HPB q0 HQT HY
        obtain ⟨hql, hqc⟩ := HS.out.less
        have hqc2 := hqc hql
        simp only [HQL.out] at hql hqc2
        have HA := Stow.mk (ctAt_yes HS.out.plm HS.out.ok q hql)
        rw [HV.out] at HA
        have hgd := HS.out.ok.good c3 (by rw [← hqc2]; exact List.getElem_mem hql)
        rw [HS.out.nm] at hgd
        have HGD := Stow.mk hgd
        have HQC := Stow.mk hqc2
        clear hqc hqc2 hgd
        go_wp2_with fail
        refine HA.out.mono ?_
        rintro e w4 ⟨tm, rfl, hn4, hc4, hN4⟩
        have HAP := Stow.mk (hN4.apart HS.out)
        have HRS := Stow.mk hN4.own.read
        have HS := Stow.mk (HS.out.keep hN4.below)
        rw [HQC.out] at hc4
        have HC4 := Stow.mk hc4
        have HWH : Stow (∀ W, Below w4.heap.size w4 W → Calls Tryz.prog 21 #[.agg tm.cells.toArray, .slice NA N.length nc] W fun e w' => e = .returned (.bool true) ∧ Below W.heap.size W w') := ⟨fun W hb => refWhole_yes N NA nc tm W (SlR.keep HN.out (HS.out.below.trans (hb.mono HS.out.below.size))) (HRS.out.keep hb) (by rw [HC4.out]; exact HGD.out.1) (by rw [HC4.out]; exact HGD.out.2) ⟨by omega, by omega⟩⟩
        have HN4 := Stow.mk hn4
        obtain ⟨tn, tA, tc, tR, tf⟩ := tm
        simp only at hn4 HRS HAP
        subst hn4
        obtain ⟨m, hm⟩ : ∃ m, tR.length = m := ⟨_, rfl⟩
        have HML := Stow.mk hm
        unfold Tm.cells at HWH ⊢
        simp only [hm] at HWH ⊢
        rw [HV.out] at HWH ⊢
        clear hc4 hN4 HA hm
        have hbx := Below.alloc' (Below.self w4) (.cells #[.int .i64 v, .slice tA m tc, .string (bs tf)] 46)
        have hX := Held.made w4 [.int .i64 v, .slice tA m tc, .string (bs tf)] 46
        obtain ⟨W5, hW5⟩ : ∃ W, w4.alloc (.cells #[.int .i64 v, .slice tA m tc, .string (bs tf)] 46) = W := ⟨_, rfl⟩
        rw [show w4.alloc (.cells [.int .i64 v, .slice tA m tc, .string (bs tf)].toArray 46) = W5 from hW5] at hX
        rw [hW5] at hbx
        have HX := Stow.mk hX
        have HS := Stow.mk (HS.out.keep hbx)
        have HRS := Stow.mk (HRS.out.keep hbx)
        have HAP := Stow.mk (HAP.out.mono (fun k hk => (⟨hk.1, hk.2.1, hk.2.2.1, Nat.lt_of_lt_of_le hk.2.2.2 hbx.size⟩ : k ≠ g ∧ ¬ P3 k ∧ (Value.slice Aa q ca).ownBlock ≠ some k ∧ k < W5.heap.size)))
        have HWC := Stow.mk (HWH.out W5 hbx)
        have HW5 := Stow.mk hW5
        clear hX hbx hW5 HWH
        have x0 := HX.out.cell (i := 0) rfl
        have x1 := HX.out.cell (i := 1) rfl
        have x2 := HX.out.cell (i := 2) rfl
        have hve : (v != (q : Int) + 1) = false := by have := HV.out; simp; omega
        have hq1 : (q : Int) + 1 ≤ 9223372036854775807 := by omega
        go_upto_region 13 with fail
        rw [show w4.alloc _ = W5 from HW5.out]
        go_wp2_with fail
        refine HWC.out.mono ?_
        rintro e w6 ⟨rfl, hb6⟩
        have HS := Stow.mk (HS.out.keep hb6)
        have HRS := Stow.mk (HRS.out.keep hb6)
        have HX := Stow.mk (HX.out.kept hb6)
        have HAP := Stow.mk (HAP.out.mono (fun k hk => (⟨hk.1, hk.2.1, hk.2.2.1, Nat.lt_of_lt_of_le hk.2.2.2 hb6.size⟩ : k ≠ g ∧ ¬ P3 k ∧ (Value.slice Aa q ca).ownBlock ≠ some k ∧ k < w6.heap.size)))
        clear hb6 x0 x1 x2 HW5 HWC hve hq1
        have x0 := HX.out.cell (i := 0) rfl
        have x1 := HX.out.cell (i := 1) rfl
        have x2 := HX.out.cell (i := 2) rfl
        have K2 : Stow ((q + 1) * 48 ≤ 140737488355328 ∧ q + 1 ≤ maxLen) := ⟨by omega, by unfold maxLen; omega⟩
        have HRW : Stow (w6.ownsRow w.heap.size 46 3 (.slice Aa q ca) q (L.flatMap Tm.cells)) := ⟨by have := HS.out.row; rw [HQL.out] at this; exact this⟩
        go_upto_region 16 with (at_builtin; refine wpList_append_elem_lies w6 [.int .i64 v, .slice tA m tc, .string (bs tf)] _ rfl (.tmp 77) (.tmp 79) 41 rfl w.heap.size 46 _ 3 48 Tryz.underlying41 info_tbl _ _ _ HRW.out rfl _ rfl rfl rfl (by decide) rfl (by intro u hu; simp at hu; rcases hu with rfl | rfl | rfl <;> rfl) K2.out.1 K2.out.2 HS.out.below.size ?_; intro g4 cap4 w7 hown4 hgr4 hb4 hs4 hat4; have HOW := Stow.mk hown4; have HGR := Stow.mk hgr4; have HAT := Stow.mk hat4; have HLT := Stow.mk ((World.ownsRow.lt hown4 g4 rfl).2); clear hown4 hgr4 hb4 hs4 hat4)
        have HSM : Stow (StyI w w7 g N (i + 1) (.slice (some ⟨g4, 0, none⟩) (q + 1) cap4) P3 p3 (L ++ [(⟨q + 1, tA, tc, tR, tf⟩ : Tm)]) []) := ⟨by
          have h := HS.out.more (W1 := w6.alloc (.cells [.int .i64 v, .slice tA m tc, .string (bs tf)].toArray 46)) (w2 := w7) (t := ⟨q + 1, tA, tc, tR, tf⟩) (g' := g4) (cap' := cap4) HRS.out HAP.out HC4.out (by rw [HQL.out]) (Below.alloc' (Below.self w6) _) HGR.out (by
            rw [HQL.out]
            have := HOW.out
            unfold Tm.cells
            simp only [HML.out, HV.out]
            exact this) HAT.out HLT.out
          rw [HQL.out] at h
          exact h⟩
        have HQL2 : Stow ((L ++ [(⟨q + 1, tA, tc, tR, tf⟩ : Tm)]).length = q + 1) := ⟨by rw [List.length_append, HQL.out]; rfl⟩
        clear HQL HS HRS HX HAP HGD HQC HN4 HOW HGR HAT HLT HRW x0 x1 x2 HC4 HML HV hql K2
        have HQL := HQL2
        have HS := HSM
        obtain ⟨L', hL'⟩ : ∃ L', L ++ [(⟨q + 1, tA, tc, tR, tf⟩ : Tm)] = L' := ⟨_, rfl⟩
        rw [hL'] at HQL HS HQL2 HSM
        clear hL'
        clear HQL2 HSM
        obtain ⟨q', hq'⟩ : ∃ q', q + 1 = q' := ⟨_, rfl⟩
        rw [hq'] at HQL HS ⊢
        have hq17 : q' ≤ 17 := by omega
        obtain ⟨A4, hA4⟩ : ∃ A4 : Option Addr, some ⟨g4, 0, none⟩ = A4 := ⟨_, rfl⟩
        rw [hA4] at HS ⊢
        clear hq' hA4
        go_wp2_with fail
        go_loopw [12, 13, 14] (fun u _ _ wi => ∃ j : Nat, u = .int .i64 (j : Int) ∧ j ≤ q' ∧ Stow (StyI w wi g N (i + 1) (.slice A4 q' cap4) P3 p3 L' [])) (fun u _ _ _ => q' - (intOf u).toNat)
        case atStart => exact ⟨0, rfl, by omega, HS⟩
        case round =>
          obtain ⟨j, rfl, hj, HS⟩ := hrel
          by_cases hjq : j < q'
          · have hjL : j < List.length L' := by rw [HQL.out]; exact hjq
            have hjT : j < (Ct.Pl.T p3).length := by rw [← HS.out.len]; exact hjL
            have HA := Stow.mk (ctAt_yes HS.out.plm HS.out.ok j hjT)
            have e1 : ((j + 1 : Nat) : Int) = (j : Int) + 1 := by omega
            rw [e1] at HA
            have hj63 : (j : Int) + 1 ≤ 9223372036854775807 := by omega
            have hji : (j : Int) < q' := by omega
            have hj0 : (0 : Int) ≤ j := by omega
            clear e1
            go_wp2_with fail
            refine HA.out.mono ?_
            rintro e w4 ⟨tm, rfl, hn4, hc4, hN4⟩
            have HS := Stow.mk (HS.out.keep hN4.below)
            have HC4 : Stow (tm.c = ((L')[j]'hjL).c) := ⟨by
              rw [hc4]
              have h2 := HS.out.eq
              rw [List.append_nil] at h2
              simp [← h2]⟩
            have HRS := Stow.mk hN4.own.read
            obtain ⟨tn, tA, tc, tR, tf⟩ := tm
            simp only at hn4 HRS
            subst hn4
            obtain ⟨m, hm⟩ : ∃ m, tR.length = m := ⟨_, rfl⟩
            have HML := Stow.mk hm
            unfold Tm.cells
            simp only [hm]
            obtain ⟨v, hv⟩ : ∃ v : Int, ((j + 1 : Nat) : Int) = v := ⟨_, rfl⟩
            rw [hv]
            have HV := Stow.mk hv
            clear hc4 hN4 HA hm hv
            have hbx := Below.alloc' (Below.self w4) (.cells #[.int .i64 v, .slice tA m tc, .string (bs tf)] 46)
            have hX := Held.made w4 [.int .i64 v, .slice tA m tc, .string (bs tf)] 46
            obtain ⟨W5, hW5⟩ : ∃ W, w4.alloc (.cells #[.int .i64 v, .slice tA m tc, .string (bs tf)] 46) = W := ⟨_, rfl⟩
            rw [show w4.alloc (.cells [.int .i64 v, .slice tA m tc, .string (bs tf)].toArray 46) = W5 from hW5] at hX
            rw [hW5] at hbx
            have HX := Stow.mk hX
            have HS := Stow.mk (HS.out.keep hbx)
            have HRS := Stow.mk (HRS.out.keep hbx)
            have HW5 := Stow.mk hW5
            have hxl := hX.lt
            clear hX hbx hW5
            go_upto_region 20 with fail
            rw [show w4.alloc _ = W5 from HW5.out]
            have hrow := HS.out.row
            obtain ⟨gr, cr, hform, _, hgrl⟩ := World.ownsRow.form hrow (by rw [HQL.out]; omega)
            simp only [Value.slice.injEq] at hform
            obtain ⟨rfl, _, rfl⟩ := hform
            rw [HQL.out] at hrow
            obtain ⟨c0, c1, c2⟩ := tm_at (own_of_cells (fun _ => rfl) hrow HQL.out.symm) hjL
            rw [Nat.zero_add] at c0 c1 c2
            have hno := HS.out.no j hjL
            rw [hno, HV.out] at c0
            have hLj := HS.out.each _ (List.getElem_mem hjL)
            have hcj := HC4.out
            obtain ⟨tj, htj⟩ : ∃ t, (L')[j]'hjL = t := ⟨_, rfl⟩
            rw [show (L')[j] = tj from htj] at c1 c2 hLj
            rw [htj] at hcj
            obtain ⟨jn, jA, jc, jR, jf⟩ := tj
            simp only [Tm.c, Cf.mk.injEq] at hcj c1 c2 hLj
            obtain ⟨hrr, rfl⟩ := hcj
            have hml : jR.length = m := by rw [← HML.out]; have := congrArg List.length hrr; simpa using this.symm
            rw [hml] at c1
            have HSM : Stow (∀ z : Later W5.heap.size W5, Calls Tryz.prog 22 #[.agg #[.int .i64 v, .slice tA m tc, .string (bs tf)], .agg #[.int .i64 v, .slice jA m jc, .string (bs tf)]] z.1 fun e w' => e = .returned (.bool true) ∧ Below z.1.heap.size z.1 w') := ⟨fun z => refTbSame_any v m tR jR tA jA tc jc tf z.1 HML.out (HRS.out.keep z.2) (hLj.keep z.2) hrr⟩
            have x0 : ∀ z : Later W5.heap.size W5, z.1.cell? ⟨w4.heap.size, 0, none⟩ = some (.int .i64 v) := fun z => z.cell (HX.out.cell (i := 0) rfl) hxl
            have x1 : ∀ z : Later W5.heap.size W5, z.1.cell? ⟨w4.heap.size, 1, none⟩ = some (.slice tA m tc) := fun z => z.cell (HX.out.cell (i := 1) rfl) hxl
            have x2 : ∀ z : Later W5.heap.size W5, z.1.cell? ⟨w4.heap.size, 2, none⟩ = some (.string (bs tf)) := fun z => z.cell (HX.out.cell (i := 2) rfl) hxl
            have y0 : ∀ z : Later W5.heap.size W5, z.1.cell? ⟨gr, j * 3, none⟩ = some (.int .i64 v) := fun z => z.cell c0 hgrl
            have y1 : ∀ z : Later W5.heap.size W5, z.1.cell? ⟨gr, j * 3 + 1, none⟩ = some (.slice jA m jc) := fun z => z.cell c1 hgrl
            have y2 : ∀ z : Later W5.heap.size W5, z.1.cell? ⟨gr, j * 3 + 2, none⟩ = some (.string (bs tf)) := fun z => z.cell c2 hgrl
            clear c0 c1 c2 hrow hno hLj htj hrr hml HC4 hgrl hxl
            refine wp_region_later W5.heap.size (by kernel_rfl) (by kernel_rfl) ?_
            repeat (go_big_quiet_step ((go_at_call 22; exact Calls.later (Nat.le_refl _) (HSM.out _))))
            refine wpQuiet_nil ?_
            rintro ⟨wx, hbx⟩
            have HS := Stow.mk (HS.out.keep hbx)
            clear x0 x1 x2 y0 y1 y2 HSM
            go_wp2_with fail
            exact ⟨⟨j + 1, by simp, by omega, HS⟩, by simp [intOf]; omega⟩
          · obtain rfl : j = q' := by omega
            have hji : ¬ (j : Int) < j := by omega
            go_wp2_with fail
            exact ⟨⟨i + 1, by simp, by omega, ⟨_, _, _, HS.out⟩⟩, by simp [intOf]; omega⟩
      · rw [if_neg hy0] at HPB
        have hnz : ((y : Int) == 0) = false := by simp; omega
        have hnz2 : ¬ (y : Int) = 0 := by omega
        go_wp2_with fail
        refine HPB.out.mono ?_
        rintro e w3 ⟨rfl, hp3, ht3⟩
        have h3 := HS.out.pub t hp3 ht3
        rw [HY.out, if_neg hy0] at h3
        have HS := Stow.mk h3
        obtain ⟨P3, hP3⟩ : ∃ P', NewP P wr.heap.size w3.heap.size = P' := ⟨_, rfl⟩
        obtain ⟨p3, hpp3⟩ : ∃ P', Ct.publish pl t = P' := ⟨_, rfl⟩
        rw [hP3, hpp3] at HS
        clear hp3 ht3 h3 hP3 hpp3 HPB q0 HQT HY
        go_wp2_with fail
        go_loopw [12, 13, 14] (fun u _ _ wi => ∃ j : Nat, u = .int .i64 (j : Int) ∧ j ≤ q ∧ Stow (StyI w wi g N (i + 1) (.slice Aa q ca) P3 p3 L [])) (fun u _ _ _ => q - (intOf u).toNat)
        case atStart => exact ⟨0, rfl, by omega, HS⟩
        case round =>
          obtain ⟨j, rfl, hj, HS⟩ := hrel
          by_cases hjq : j < q
          · have hjL : j < List.length L := by rw [HQL.out]; exact hjq
            have hjT : j < (Ct.Pl.T p3).length := by rw [← HS.out.len]; exact hjL
            have HA := Stow.mk (ctAt_yes HS.out.plm HS.out.ok j hjT)
            have e1 : ((j + 1 : Nat) : Int) = (j : Int) + 1 := by omega
            rw [e1] at HA
            have hj63 : (j : Int) + 1 ≤ 9223372036854775807 := by omega
            have hji : (j : Int) < q := by omega
            have hj0 : (0 : Int) ≤ j := by omega
            clear e1
            go_wp2_with fail
            refine HA.out.mono ?_
            rintro e w4 ⟨tm, rfl, hn4, hc4, hN4⟩
            have HS := Stow.mk (HS.out.keep hN4.below)
            have HC4 : Stow (tm.c = ((L)[j]'hjL).c) := ⟨by
              rw [hc4]
              have h2 := HS.out.eq
              rw [List.append_nil] at h2
              simp [← h2]⟩
            have HRS := Stow.mk hN4.own.read
            obtain ⟨tn, tA, tc, tR, tf⟩ := tm
            simp only at hn4 HRS
            subst hn4
            obtain ⟨m, hm⟩ : ∃ m, tR.length = m := ⟨_, rfl⟩
            have HML := Stow.mk hm
            unfold Tm.cells
            simp only [hm]
            obtain ⟨v, hv⟩ : ∃ v : Int, ((j + 1 : Nat) : Int) = v := ⟨_, rfl⟩
            rw [hv]
            have HV := Stow.mk hv
            clear hc4 hN4 HA hm hv
            have hbx := Below.alloc' (Below.self w4) (.cells #[.int .i64 v, .slice tA m tc, .string (bs tf)] 46)
            have hX := Held.made w4 [.int .i64 v, .slice tA m tc, .string (bs tf)] 46
            obtain ⟨W5, hW5⟩ : ∃ W, w4.alloc (.cells #[.int .i64 v, .slice tA m tc, .string (bs tf)] 46) = W := ⟨_, rfl⟩
            rw [show w4.alloc (.cells [.int .i64 v, .slice tA m tc, .string (bs tf)].toArray 46) = W5 from hW5] at hX
            rw [hW5] at hbx
            have HX := Stow.mk hX
            have HS := Stow.mk (HS.out.keep hbx)
            have HRS := Stow.mk (HRS.out.keep hbx)
            have HW5 := Stow.mk hW5
            have hxl := hX.lt
            clear hX hbx hW5
            go_upto_region 20 with fail
            rw [show w4.alloc _ = W5 from HW5.out]
            have hrow := HS.out.row
            obtain ⟨gr, cr, hform, _, hgrl⟩ := World.ownsRow.form hrow (by rw [HQL.out]; omega)
            simp only [Value.slice.injEq] at hform
            obtain ⟨rfl, _, rfl⟩ := hform
            rw [HQL.out] at hrow
            obtain ⟨c0, c1, c2⟩ := tm_at (own_of_cells (fun _ => rfl) hrow HQL.out.symm) hjL
            rw [Nat.zero_add] at c0 c1 c2
            have hno := HS.out.no j hjL
            rw [hno, HV.out] at c0
            have hLj := HS.out.each _ (List.getElem_mem hjL)
            have hcj := HC4.out
            obtain ⟨tj, htj⟩ : ∃ t, (L)[j]'hjL = t := ⟨_, rfl⟩
            rw [show (L)[j] = tj from htj] at c1 c2 hLj
            rw [htj] at hcj
            obtain ⟨jn, jA, jc, jR, jf⟩ := tj
            simp only [Tm.c, Cf.mk.injEq] at hcj c1 c2 hLj
            obtain ⟨hrr, rfl⟩ := hcj
            have hml : jR.length = m := by rw [← HML.out]; have := congrArg List.length hrr; simpa using this.symm
            rw [hml] at c1
            have HSM : Stow (∀ z : Later W5.heap.size W5, Calls Tryz.prog 22 #[.agg #[.int .i64 v, .slice tA m tc, .string (bs tf)], .agg #[.int .i64 v, .slice jA m jc, .string (bs tf)]] z.1 fun e w' => e = .returned (.bool true) ∧ Below z.1.heap.size z.1 w') := ⟨fun z => refTbSame_any v m tR jR tA jA tc jc tf z.1 HML.out (HRS.out.keep z.2) (hLj.keep z.2) hrr⟩
            have x0 : ∀ z : Later W5.heap.size W5, z.1.cell? ⟨w4.heap.size, 0, none⟩ = some (.int .i64 v) := fun z => z.cell (HX.out.cell (i := 0) rfl) hxl
            have x1 : ∀ z : Later W5.heap.size W5, z.1.cell? ⟨w4.heap.size, 1, none⟩ = some (.slice tA m tc) := fun z => z.cell (HX.out.cell (i := 1) rfl) hxl
            have x2 : ∀ z : Later W5.heap.size W5, z.1.cell? ⟨w4.heap.size, 2, none⟩ = some (.string (bs tf)) := fun z => z.cell (HX.out.cell (i := 2) rfl) hxl
            have y0 : ∀ z : Later W5.heap.size W5, z.1.cell? ⟨gr, j * 3, none⟩ = some (.int .i64 v) := fun z => z.cell c0 hgrl
            have y1 : ∀ z : Later W5.heap.size W5, z.1.cell? ⟨gr, j * 3 + 1, none⟩ = some (.slice jA m jc) := fun z => z.cell c1 hgrl
            have y2 : ∀ z : Later W5.heap.size W5, z.1.cell? ⟨gr, j * 3 + 2, none⟩ = some (.string (bs tf)) := fun z => z.cell c2 hgrl
            clear c0 c1 c2 hrow hno hLj htj hrr hml HC4 hgrl hxl
            refine wp_region_later W5.heap.size (by kernel_rfl) (by kernel_rfl) ?_
            repeat (go_big_quiet_step ((go_at_call 22; exact Calls.later (Nat.le_refl _) (HSM.out _))))
            refine wpQuiet_nil ?_
            rintro ⟨wx, hbx⟩
            have HS := Stow.mk (HS.out.keep hbx)
            clear x0 x1 x2 y0 y1 y2 HSM
            go_wp2_with fail
            exact ⟨⟨j + 1, by simp, by omega, HS⟩, by simp [intOf]; omega⟩
          · obtain rfl : j = q := by omega
            have hji : ¬ (j : Int) < j := by omega
            go_wp2_with fail
            exact ⟨⟨i + 1, by simp, by omega, ⟨_, _, _, HS.out⟩⟩, by simp [intOf]; omega⟩
    · obtain rfl : i = n := by omega
      have hii : ¬ (i : Int) < i := by omega
      have HVR := Stow.mk (ctVersions_any HS.out.plm)
      have HRF := Stow.mk (ctRefused_any HS.out.plm)
      have hqt : pl.T.length = q := by rw [← HS.out.len]; exact HQL.out
      have hsum := HS.out.sum
      rw [hqt] at HVR hsum
      obtain ⟨bad, hbad⟩ : ∃ b, pl.bad = b := ⟨_, rfl⟩
      rw [hbad] at HRF hsum
      have d3 : decide ((q : Int) ≤ 16) = true := by simp; omega
      have e3 : IntKind.i64.wrap ((q : Int) + (bad : Int)) = (i : Int) := by rw [IntWalk.i64_in _ (by omega)]; omega
      have HBL := Stow.mk HS.out.below
      clear hqt hbad hsum HS
      go_wp2_with fail
      refine HVR.out.mono ?_
      rintro e w3 ⟨rfl, hw3⟩
      rw [← hw3] at HVR HRF HBL
      clear hw3
      go_wp2_with fail
      refine HVR.out.mono ?_
      rintro e w4 ⟨rfl, hw4⟩
      rw [← hw4] at HRF HBL
      clear hw4
      go_wp2_with fail
      refine HRF.out.mono ?_
      rintro e w5 ⟨rfl, hw5⟩
      rw [← hw5] at HBL
      clear hw5
      have HBK := Stow.mk (known18_any _ (HM.out.keep HBL.out))
      have HBZ := Stow.mk (HBL.out)
      go_wp2_with fail
      refine HBK.out.mono ?_
      rintro e wk ⟨rfl, hbk⟩
      have HBE := Stow.mk (HBZ.out.trans (hbk.mono HBZ.out.size))
      clear hbk HBK
      go_wp2_with fail
      go_ret
      exact ⟨rfl, HBE.out⟩
end Go.Proofs.YtfbhdkkmcfnghaaGreatDoor
end

section
namespace Go.Proofs.YtfbhdkkmcfnghaaGreatDoor
open Go.RowKit Cells
set_option linter.unusedVariables false

theorem flatR_strs (w : World) : FlatR Tryz.prog w 38 [pSlice w 1 [pStrR]] := flatR_slice Tryz.underlying38 (by kernel_rfl) (flatR_string Tryz.underlying9)
theorem strs_of {w : World} {v : Value} (h : pSlice w 1 [pStrR] v) : ∃ A cap, ∃ l : List (List UInt8), v = .slice A l.length cap ∧ SlR w 1 (.slice A l.length cap) (strs l) := by
  obtain ⟨l, h1, _⟩ := slr_of (α := List UInt8) (fun t => [.string (bs t)]) (fun t => t.length ≤ 140737488355328) (fun cs hc => by
    obtain ⟨v, rfl, l, rfl, hl⟩ := Rel.one hc
    exact ⟨l, rfl, hl⟩) (fun _ => rfl) (by decide) h
  obtain ⟨A, cap, rfl, _⟩ := h1.form
  rw [List.length_map] at h1 ⊢
  exact ⟨A, cap, l, rfl, h1⟩
theorem stays18_at (v1 v2 : Value) (w : World) (h1 : pSlice w 1 [pStrR] v1) (h2 : pSlice w 1 [pStrR] v2) (hm : MaxIs w) : Calls Tryz.prog 4 #[v1, v2] w fun e w' => e = .returned (.bool true) ∧ Below w.heap.size w w' := by
  obtain ⟨A, cap, N, rfl, hN⟩ := strs_of h1
  obtain ⟨A2, cap2, l, rfl, hl⟩ := strs_of h2
  exact stays18 N l A A2 cap cap2 w hN hl hm
end Go.Proofs.YtfbhdkkmcfnghaaGreatDoor
end

section
namespace Go.Proofs.YtfbhdkkmcfnghaaGreatDoor
open Go.ChangeShapes Go.WideShapes Go.ChangeAt Go.RowKit

section
variable {H : Type} {enc : TypeId × Value → H}
/-- The kit's wrap for rows that list variables, with the world's shape and the condition handed to the contract. -/
theorem returns_and_both {a : Assume} {C : Checked} {os : Os} {f : FuncId} {fn : Func} {s : ChangeSpec} {conds : List PathCond} {apart fresh handsOn again : Bool} {X : World → Array Value → Prop} (hX : ∀ (w w' : World) (args : Array Value), w'.heap = w.heap → X w args → X w' args)
    (own : ownKnob C.prog.godebug = none) (started : os.Started) (noInit : C.prog.inits.idxOf? f = none) (hfn : C.prog.funcs[f]? = some fn)
    (witness : ∃ (w : World) (tape : Tape) (i : Input), w.os = os ∧ (w.forCall tape i).Shaped C.prog ∧ i.vars = [] ∧ Input.okWide C.prog (w.forCall tape i) .any w.heap.size f i ∧
      ((s.pre enc C.prog fn conds apart (w.forCall tape i).memory i.args ∧ X (w.forCall tape i).memory i.args) ∧ sizedMet enc C.prog fn (OpenSpec.ofChange s) apart (w.forCall tape i).memory i.args) ∧ a.holds C.prog (lone (Frame.enter C.prog f i.args .normal) [] (w.forCall tape i)))
    (contract : ∀ (W : World) (base : Nat) (args : Array Value) (ds gs : List (DataW H)) (before : List MemPlace),
      (∀ (j : Nat) t v, fn.params[j]? = some t → args[j]? = some v → Value.okWide C.prog W .any base t v) →
      DataW.Whole enc C.prog fn.params.toList s.vars apart W args.toList ds gs before →
      conds.all (PathCond.test C.prog ⟨fn.params.toList, ds, s.plain.varTypes C.prog, gs⟩) = true →
      (DataW.weightsEach C.prog (fn.params.toList ++ s.plain.varTypes C.prog) (ds ++ gs)).all (· ≤ reachBytes) = true → W.ShapedOpen C.prog → X W args →
      a.holds C.prog (lone (Frame.enter C.prog f args .normal) [] W) →
      Calls C.prog f args W fun e W' => ∃ v, e = .returned v ∧ s.post enc C.prog fn apart fresh handsOn again W args v W') :
    ReturnsInHanded a C os f .any (fun w args => (s.pre enc C.prog fn conds apart w args ∧ X w args) ∧ sizedMet enc C.prog fn (OpenSpec.ofChange s) apart w args) (s.post enc C.prog fn apart fresh handsOn again) := by
  refine returnsInHanded_of_calls own started noInit witness ?_
  intro w tape i _ hsh _ hok hpre hholds
  obtain ⟨_, _, _, fn', hfn', _, _, _, _, hval⟩ := hok
  have e : fn' = fn := Option.some.inj (hfn'.symm.trans hfn)
  subst e
  obtain ⟨⟨⟨ds, gs, before, hw, hc⟩, hx⟩, hz⟩ := hpre
  have hw' := DataW.Whole.of_heap (w' := w.forCall tape i) (by rfl) hw
  refine (contract (w.forCall tape i) w.heap.size i.args ds gs before hval hw' hc (hz.weights hw) hsh (hX _ _ _ (by rfl) hx) hholds).mono fun e W' ⟨v, he, hp⟩ => ?_
  subst he
  exact ChangeSpec.post_blind hp
end

theorem max_of_shaped' {W : World} (h : W.ShapedOpen Tryz.prog) : MaxIs W :=
  cell_of_shapedOpen_int (g := 0) (t := 3) (zero := #[.int .i64 0]) h (of_decide_eq_true (by kernel_rfl)) (by kernel_rfl) rfl (by kernel_rfl) (by kernel_rfl) Tryz.underlying3
def laidCt : List (String × DataW Unit) := [("unicode/utf8.acceptRanges", Rows.laid_unicode_utf8_acceptRanges), ("unicode/utf8.first", Rows.laid_unicode_utf8_first)]
theorem doorCt_met (os : Os) (args : Array Value) : laidMetH Tryz.prog laidCt ((World.laidAll Tryz.prog os laidCt).forCall (fun _ _ => 0) ⟨#[], args, []⟩).memory := by
  rw [MakeChecks.laidMetH_plain _ _ _ (by kernel_rfl)]
  exact laidMet_laidAll _ (by kernel_rfl) (by kernel_rfl)
theorem ctEnv_of {W : World} (hS : W.ShapedOpen Tryz.prog) (_h : laidMetH Tryz.prog laidCt W) : MaxIs W := max_of_shaped' hS
end Go.Proofs.YtfbhdkkmcfnghaaGreatDoor
end
