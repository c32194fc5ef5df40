/- Where a collector's lists lie. Conditions: the collector's memory.; Walk of the statement on what comes twice. Conditions: the texts' memory.; The statements on a collector, of arguments as they come in. Conditions: those of the form. -/
import Derived.Test.YtfbhdkkmcfnghaaGreatM42
import Derived.Test.YtfbhdkkmcfnghaaGreatM44
import Derived.Test.YtfbhdkkmcfnghaaGreatM02

section
namespace Go.Proofs.YtfbhdkkmcfnghaaGreat
open Go.RowKit
set_option linter.unusedVariables false

theorem InK.low {w : World} {A : Option Addr} {cap : Nat} {R : List Km} (h : KsR w A cap R) (hp : ∀ m ∈ R, 0 < m.k.L.length) : InK (fun k => k < w.heap.size) A R := by
  refine ⟨fun hne a ha => ?_, fun m hm a ha => km_block (h.each m hm) (hp m hm) a ha⟩
  obtain ⟨b, off, hA, hb, _⟩ := SlR.open h.row (by rw [List.length_map]; exact List.length_pos_iff.2 hne)
  rw [ha] at hA
  cases hA
  exact hb
/-- They lie in blocks that are there. -/
theorem CoM.low {w : World} {P : Nat → Prop} {g m : Nat} {c : Co} (h : CoM w P g c) (hc : c.Ok m) : CoM w (fun k => P k ∧ k < w.heap.size) g c := by
  obtain ⟨v, W, A, cap, R, h⟩ := h
  have hW : InW (fun k => k < w.heap.size) v W := InW.of_win h.row.win (fun p hp => by
    have hm : p.w ∈ c.D := by rw [← h.row.wis]; exact List.mem_map_of_mem hp
    have := (hc.dd.each _ hm).top
    intro e
    rw [e] at this
    cases this)
  have hK : InK (fun k => k < w.heap.size) A R := InK.low h.row.ks (fun m hm => by
    have : m.k ∈ c.K := by rw [← h.row.kk]; exact List.mem_map_of_mem hm
    exact (hc.fine.each _ this).1)
  exact ⟨v, W, A, cap, R, h.head, fun hg => h.gP hg.1, h.row.win, h.row.wis, ⟨fun a n c e => ⟨h.row.inw.1 a n c e, hW.1 a n c e⟩, fun p hp a e => ⟨h.row.inw.2 p hp a e, hW.2 p hp a e⟩⟩, ⟨fun hne a e => ⟨h.row.ink.1 hne a e, hK.1 hne a e⟩, fun p hp a e => ⟨h.row.ink.2 p hp a e, hK.2 p hp a e⟩⟩, h.row.ks, h.row.kk⟩
/-- The collector lies off a row of the call's own. -/
def offO (g : Nat) (o : Value) (k : Nat) : Prop := k ≠ g ∧ o.ownBlock ≠ some k
/-- Behind an append to that row. -/
theorem CoM.appended {w W w' : World} {g m g' n cap : Nat} {o : Value} {c : Co} (h : CoM w (offO g o) g c) (hc : c.Ok m) (hb : Below w.heap.size w W) (hgr : W.grownBy w' o.ownBlock) (ho : ∀ k, o.ownBlock = some k → k ≠ g) (hat : o.ownBlock = some g' ∨ w.heap.size ≤ g') :
    CoM w' (offO g (.slice (some ⟨g', 0, none⟩) n cap)) g c := by
  have h1 := (h.low hc).keep hb
  have h2 : CoM w' (fun k => offO g o k ∧ k < w.heap.size) g c := by
    refine h1.other (F := fun k => o.ownBlock = some k) ⟨hgr.os, hgr.tape, hgr.output, hgr.size, fun k hk hn => hgr.block k hk (fun e => hn e.symm)⟩ (fun i hi hP => hP.1.2 hi) (fun e => ho g e rfl)
  refine h2.said (fun k hk => ⟨hk.1.1, fun e => ?_⟩) (fun hg => hg.1 rfl)
  have e' : g' = k := by simpa [Value.ownBlock] using e
  subst e'
  rcases hat with h | h
  · exact hk.1.2 h
  · have := hk.2
    omega
/-- 'append(out, x)': the row, and where it lies. -/
theorem wpList_append_elem_lies {P : Program} {ops : Array Oper} {rest : List Oper} {o : Oper} {a : Act} {Q : Exit → Act → World → Prop}
    (wr : World) (xs : List Value) (eo : TypeId) (hgd : o.guard = none) (s y : Operand) (t : TypeId)
    (ho : o.op = Op.call { callee := Callee.builtin Builtin.append, args := #[s, y], argTypes := #[t, t] })
    (B : Nat) (e : TypeId) (z : Value) (size bytes : Nat) (ht : P.underlying t = some (.slice e))
    (hinfo : (P.info? e).map (fun i => (i.zero, i.size, i.bytes)) = some (some z, size, bytes))
    (v : Value) (n : Nat) (ys : List Value) (hown : wr.ownsRow B e size v n ys)
    (hs : a.eval s = v) (g : Nat) (hx : a.eval y = .slice (some ⟨g, 0, none⟩) 1 1) (hgs : g = wr.heap.size)
    (hzc : z.cells.size = size) (hsz : 0 < size) (hlen : xs.length = size) (h1 : ∀ u ∈ xs, u.oneCell' = true) (hbytes : (n + 1) * bytes ≤ 140737488355328) (hn : n + 1 ≤ maxLen) (hB : B ≤ wr.heap.size)
    (h : ∀ g' cap w', w'.ownsRow B e size (.slice (some ⟨g', 0, none⟩) (n + 1) cap) (n + 1) (ys ++ xs) → (wr.alloc (.cells xs.toArray eo)).grownBy w' v.ownBlock → Below B wr w' → wr.heap.size < w'.heap.size → (v.ownBlock = some g' ∨ wr.heap.size ≤ g') →
      wpList P ops Q rest (a.put o.dst (.slice (some ⟨g', 0, none⟩) (n + 1) cap)) w') :
    wpList P ops Q (o :: rest) a (wr.alloc (.cells xs.toArray eo)) := by
  subst hgs
  obtain ⟨i, hi, hz, hsz', hby⟩ := info_parts hinfo
  refine wpList_append_lies _ hgd s y t ho B e i z size bytes ht hi hz hsz' hby hzc hsz v n ys hs (hown.alloc _) ⟨wr.heap.size, 0, none⟩ 1 1 xs hx (by rw [hlen, Nat.one_mul]) ?_ h1 (by decide) hn hbytes (by simp; omega) (wr.heap.size + 1) (by simp) ?_
  · intro j u hj
    rw [Addr.add_lit, Nat.zero_add]
    have : (wr.alloc (.cells xs.toArray eo)).cell? ⟨wr.heap.size, j, none⟩ = xs[j]? := by simp
    rw [this, hj]
  · intro g' cap w' ho' hg hat hlt
    have hb : Below B wr (wr.alloc (.cells xs.toArray eo)) := (Below.refl _ _).alloc hB _
    refine h g' cap w' ho' hg (hb.grown hg (by simp; omega) fun k hk => (hown.lt k hk).1) ?_ (hat.imp id (by omega))
    have := hg.size
    simp at this; omega
/-- A row of one's own grows: where it lay it is another block's rows no more. -/
theorem km_grown {W w' : World} {o : Value} {m : Km} (h : KmR W m) (hgr : W.grownBy w' o.ownBlock) (hne : ∀ a, m.A = some a → o.ownBlock ≠ some a.block) : KmR w' m := by
  refine slrTurn (F := fun k => o.ownBlock = some k) h ⟨hgr.os, hgr.tape, hgr.output, hgr.size, fun k hk hn => hgr.block k hk (fun e => hn e.symm)⟩ (fun ad had hf => hne ad had hf)
theorem Co.get_fine {K : List Kp} {k : Kp} (hf : St.Fine K) (h : k ∈ K) : 0 < (St.get K k.hi k.lo).1.L.length ∧ (St.get K k.hi k.lo).1.L.length ≤ 64 := by
  have h2 := Co.get_mem h
  unfold St.get at h2 ⊢
  cases ho : St.at_ K k.hi k.lo with
  | none => rw [ho] at h2; cases h2
  | some i =>
    obtain ⟨hi, _⟩ := St.find_at ho
    simp only [List.getD_eq_getElem?_getD, List.getElem?_eq_getElem hi, Option.getD_some]
    exact hf.each _ (List.getElem_mem hi)
/-- Elements of a row that grows, which lie beside it. -/
structure BesideK (w : World) (D : Nat) (o : Value) (R : List Km) : Prop where
  each : ∀ m ∈ R, KmR w m
  far : ∀ m ∈ R, ∀ a, m.A = some a → D ≤ a.block ∧ a.block < w.heap.size ∧ o.ownBlock ≠ some a.block
theorem BesideK.nil (w : World) (D : Nat) (o : Value) : BesideK w D o [] := ⟨by simp, by simp⟩
theorem BesideK.keep {w w' : World} {D : Nat} {o : Value} {R : List Km} (h : BesideK w D o R) (hb : Below w.heap.size w w') : BesideK w' D o R :=
  ⟨fun m hm => (h.each m hm).keep hb, fun m hm a ha => by obtain ⟨h1, h2, h3⟩ := h.far m hm a ha; exact ⟨h1, Nat.lt_of_lt_of_le h2 hb.size, h3⟩⟩
/-- One element more: its rows are newer than the row. -/
theorem BesideK.more {w0 w W w' : World} {D g' n cap : Nat} {o : Value} {R : List Km} {m : Km} (h : BesideK w0 D o R) (hb0 : Below w0.heap.size w0 w) (hD : D ≤ w0.heap.size) (hm : KmR w m) (hpos : 0 < m.k.L.length) (hnew : ∀ a, m.A = some a → w0.heap.size ≤ a.block)
    (ho : ∀ k, o.ownBlock = some k → k < w0.heap.size) (hb : Below w.heap.size w W) (hgr : W.grownBy w' o.ownBlock) (hat : o.ownBlock = some g' ∨ w.heap.size ≤ g') : BesideK w' D (.slice (some ⟨g', 0, none⟩) n cap) (R ++ [m]) := by
  have h1 := h.keep hb0
  have hmb := km_block hm hpos
  have hsz := Nat.le_trans hb.size hgr.size
  refine ⟨fun x hx => ?_, fun x hx a ha => ?_⟩
  · rcases List.mem_append.1 hx with hx | hx
    · exact km_grown ((h1.each x hx).keep hb) hgr (fun a ha => (h1.far x hx a ha).2.2)
    · obtain rfl : x = m := by simpa using hx
      exact km_grown (hm.keep hb) hgr (fun a ha e => by have := ho _ e; have := hnew a ha; omega)
  · have key : D ≤ a.block ∧ a.block < w.heap.size ∧ o.ownBlock ≠ some a.block := by
      rcases List.mem_append.1 hx with hx | hx
      · exact h1.far x hx a ha
      · obtain rfl : x = m := by simpa using hx
        exact ⟨Nat.le_trans hD (hnew a ha), hmb a ha, fun e => by have := ho _ e; have := hnew a ha; omega⟩
    refine ⟨key.1, Nat.lt_of_lt_of_le key.2.1 hsz, fun e => ?_⟩
    have e' : g' = a.block := by simpa [Value.ownBlock] using e
    rcases hat with h | h
    · rw [e'] at h; exact key.2.2 h
    · omega
end Go.Proofs.YtfbhdkkmcfnghaaGreat
end

section
namespace Go.Proofs.YtfbhdkkmcfnghaaGreat
open Go.RowKit
set_option linter.unusedVariables false
set_option linter.unusedSimpArgs false

/-- A list of texts. -/
def TxR (w : World) (A : Option Addr) (cap : Nat) (l : List (List UInt8)) : Prop := SlR w 1 (.slice A l.length cap) (l.map fun t => [.string (bs t)])
theorem TxR.keep {w w' : World} {A : Option Addr} {cap : Nat} {l : List (List UInt8)} (h : TxR w A cap l) (hb : Below w.heap.size w w') : TxR w' A cap l := SlR.keep h hb
theorem tx_at {w : World} {b off n cap k : Nat} {l : List (List UInt8)} (h : SlR w 1 (.slice (some ⟨b, off, none⟩) n cap) (l.map fun t => [.string (bs t)])) (hk : k < l.length) : w.cell? ⟨b, off + k, none⟩ = some (.string (bs l[k])) := by
  obtain ⟨hb, hc⟩ := h.cells (i := k) (x := [.string (bs l[k])]) (by rw [List.getElem?_map, List.getElem?_eq_getElem hk]; rfl)
  have := hc 0 _ rfl
  simpa using this
theorem info_txt : (Tryz.prog.info? 9).map (fun i => (i.zero, i.size, i.bytes)) = some (some (.string ⟨#[]⟩), 1, 16) := by kernel_rfl
theorem turn_only {w w' : World} {g : Nat} (h : Turn (· = g) w w') : Only g w w' := ⟨h.os, h.tape, h.output, h.size, fun i hi hne => h.block i hi (fun e => hne (by subst e; rfl))⟩
def an (t : List UInt8) : Value := .string (bs (Co.ans t).1)
set_option maxHeartbeats 4000000 in
set_option maxRecDepth 100000 in
theorem twice33 (r : Int) (A : Option Addr) (cap : Nat) (l : List (List UInt8)) (a : Int) (w : World) (hr : -9223372036854775808 ≤ r ∧ r ≤ 9223372036854775807) (hl : TxR w A cap l) (hlen : ∀ t ∈ l, t.length ≤ 140737488355328) :
    Calls Tryz.prog 4 #[.int .i64 r, .slice A l.length cap, .int .i64 a] w fun e w' => e = .returned (.bool true) ∧ Below w.heap.size w w' := by
  have HL := Stow.mk hl
  have HL0 := Stow.mk hl
  have HLN := Stow.mk hlen
  have hmx : l.length ≤ 9223372036854775807 := by have := SlR.len hl; simpa using this
  clear hl hlen
  by_cases h60 : 60 < l.length
  · have h60i : (60 : Int) < l.length := by omega
    have hbs := Below.self w
    go_enter Tryz.func4, Tryz.ntmps4
    go_wp2_with fail
    refine (known33_any _).mono ?_
    rintro e wk ⟨rfl, hbk⟩
    have HBK := Stow.mk (hbs.trans (hbk.mono hbs.size))
    clear hbk
    go_wp2_with fail
    go_ret
    exact ⟨rfl, HBK.out⟩
  have h60i : ¬ (60 : Int) < l.length := by omega
  go_enter Tryz.func4, Tryz.ntmps4
  go_wp2_with fail
  refine (coNew_any r _).mono ?_
  rintro e w1 ⟨g, rfl, hg0, hg1, hM, hb1⟩
  have HM := Stow.mk (hM (offO g (.slice (some ⟨w1.heap.size, 0, none⟩) 0 0)) (fun h => h.1 rfl))
  have HB := Stow.mk hb1
  have HL := Stow.mk (HL.out.keep hb1)
  obtain ⟨B, hB⟩ : ∃ B, w1.heap.size = B := ⟨_, rfl⟩
  rw [hB] at HM hg1
  have hgw : w.heap.size ≤ g := hg0
  have hgB : g < B := hg1
  have HON := Stow.mk (World.ownsRow_made (e := 9) (size := 1) w1 #[] 0 (Nat.le_refl _) (Nat.zero_le _) (by simp))
  have hb2 := Below.alloc' (Below.self w1) (.cells #[] 9)
  have HM := Stow.mk (HM.out.keep hb2)
  have HB := Stow.mk (HB.out.trans (hb2.mono HB.out.size))
  have HL := Stow.mk (HL.out.keep hb2)
  have hs2 := hb2.size
  clear hM hb1 hb2
  go_upto_region 5 with fail
  rw [hB] at HON
  have HMW : Stow (w1.heap.size = B) := ⟨hB⟩
  generalize w1.alloc (.cells #[] 9) = w2 at HM HB HL HON hs2 ⊢
  have hsB : B ≤ w2.heap.size := by omega
  clear hs2 hB
  go_wp2_with fail
  go_loopw [8, 9, 10, 11] (fun o u _ _ wr => ∃ i : Nat, u = .int .i64 (i : Int) ∧ i ≤ l.length ∧ Stow (∃ c, CoM wr (offO g o) g c ∧ Co.RunOk r c (l.take i)) ∧ Stow (wr.ownsRow B 9 1 o i ((l.take i).map an)) ∧ Stow (TxR wr A cap l) ∧ Stow (Below w.heap.size w wr) ∧ B ≤ wr.heap.size) (fun _ u _ _ _ => l.length - (intOf u).toNat)
  case atStart => exact ⟨0, rfl, by omega, ⟨_, HM.out, Co.RunOk.start hr⟩, HON, HL, HB, hsB⟩
  case round =>
    obtain ⟨i, rfl, hi, HE, HO, HL, HB, hsB⟩ := hrel
    obtain ⟨c, hM, hR⟩ := HE.out
    obtain ⟨Ao, co, rfl⟩ := own_form HO.out
    by_cases hlt : i < l.length
    · obtain ⟨b, off, rfl, hblt, _⟩ := SlR.open HL.out (by simp; omega)
      have q0 := tx_at HL.out hlt
      have hmem := HLN.out _ (List.getElem_mem hlt)
      have HNX : Stow (l.take (i + 1) = l.take i ++ [l[i]]) := ⟨List.take_succ_eq_append_getElem hlt⟩
      obtain ⟨t, ht⟩ : ∃ t, l[i] = t := ⟨_, rfl⟩
      rw [ht] at q0 hmem HNX
      have hii : (i : Int) < l.length := by omega
      have hi0 : (0 : Int) ≤ i := by omega
      clear ht HE
      by_cases h3 : 3000 < t.length
      · have h3i : (3000 : Int) < t.length := by omega
        have HB1 := HB.out
        go_wp2_with fail
        refine (known33_any _).mono ?_
        rintro e wk ⟨rfl, hbk⟩
        have HBK := Stow.mk (HB1.trans (hbk.mono HB1.size))
        clear hbk
        go_wp2_with fail
        go_ret
        exact ⟨rfl, HBK.out⟩
      · have h3i : ¬ (3000 : Int) < t.length := by omega
        have hoB : ∀ k, (Value.slice Ao i co).ownBlock = some k → B ≤ k ∧ k < wr.heap.size := fun k hk => World.ownsRow.lt HO.out k hk
        have K1 := coRecv_any hM hR.ok (by rw [List.length_take]; omega) (fun k hk => ⟨by omega, fun e => by have := hoB k e; omega⟩) t (by omega)
        have HR2 := Stow.mk (hR.more t (by omega))
        rw [Co.recv_ans] at K1
        have HK := Stow.mk K1
        have HOB := Stow.mk (fun k hk => show k ≠ g by have := hoB k hk; omega)
        clear K1 hM hR hoB
        go_wp2_with fail
        refine HK.out.mono ?_
        rintro e w3 ⟨rfl, hM3, ht3⟩
        have HM3 := Stow.mk hM3
        have HB3 := Stow.mk (HB.out.trans (ht3.below (fun i hi => by omega) HB.out.size))
        have HO3 := Stow.mk (own_undr HO.out (turn_only ht3) hgB)
        have hsB3 := Nat.le_trans hsB ht3.size
        have K2 : Stow ((i + 1) * 16 ≤ 140737488355328 ∧ i + 1 ≤ maxLen) := ⟨by omega, by unfold maxLen; omega⟩
        have HAN : Stow ((l.take (i + 1)).map an = (l.take i).map an ++ [.string (bs (Co.ans t).1)]) := ⟨by rw [HNX.out]; simp [an]⟩
        rw [← HNX.out] at HR2
        obtain ⟨c', hc'⟩ : ∃ c', (c.recv t).1 = c' := ⟨_, rfl⟩
        rw [hc'] at HM3 HR2
        have hbx := Below.alloc' (Below.self w3) (.cells #[.string (bs (Co.ans t).1)] 9)
        have HBX := Stow.mk hbx
        clear hM3 ht3 HK HO HB HL hc' HM hbx
        go_upto_region 12 with (at_builtin; refine wpList_append_elem_lies w3 [.string (bs (Co.ans t).1)] _ rfl (.tmp 52) (.tmp 54) 22 rfl B 9 _ 1 16 Tryz.underlying22 info_txt _ _ _ HO3.out rfl _ rfl rfl rfl (by decide) rfl (by intro u hu; simp at hu; subst hu; rfl) K2.out.1 K2.out.2 hsB3 ?_; intro g4 cap4 w4 hown4 hgr4 hb4 hs4 hat4; have H4 := Stow.mk hown4; have HB4 := Stow.mk hb4; have HM4 := Stow.mk (CoM.appended HM3.out HR2.out.ok HBX.out hgr4 HOB.out hat4 (n := i + 1) (cap := cap4)); clear hown4 hgr4 hb4 hs4 hat4)
        rw [← HAN.out] at H4
        have HB5 := Stow.mk (HB3.out.trans (HB4.out.mono (Nat.le_trans (Nat.le_of_lt (Nat.lt_of_le_of_lt hgw hgB)) (Nat.le_refl _))))
        have HRM : Stow ((if (1 : Int) < (if (32 : Int) < r then 32 else r) then (if (32 : Int) < r then 32 else r) else 1) = (St.room r : Int)) := ⟨by
          unfold St.room
          split <;> split <;> omega⟩
        have hfew := HR2.out.few
        rw [HR2.out.room] at hfew
        have htl : c'.trs.length = c'.K.length := by simp [Co.trs]
        have hnot : ¬ (St.room r : Int) < c'.trs.length := by omega
        have HTR := Stow.mk (coTraces_any HM4.out HR2.out.ok)
        clear HM3 HO3 HOB HAN HNX HBX htl hfew
        go_upto_region 12 with fail
        go_wp2_with fail
        refine HTR.out.mono ?_
        rintro e w5 ⟨A5, k5, rfl, _, hb5⟩
        have HM5 := Stow.mk (HM4.out.keep hb5)
        have H5 := Stow.mk (own_kept H4.out hb5)
        have HB6 := Stow.mk (HB5.out.trans (hb5.mono HB5.out.size))
        have hs5 := hb5.size
        have hsB5 : B ≤ w5.heap.size := Nat.le_trans hsB3 (Nat.le_trans HB4.out.size hs5)
        have HL5 := Stow.mk (HL0.out.keep HB6.out)
        clear hb5 HTR HM4 H4
        have hrm := HRM.out
        go_wp2_with fail
        exact ⟨⟨i + 1, by simp, by omega, ⟨c', HM5.out, HR2.out⟩, H5, HL5, HB6, hsB5⟩, by simp [intOf]; omega⟩
    · obtain rfl : i = l.length := by omega
      have hii : ¬ (l.length : Int) < l.length := by omega
      rw [List.take_length] at hR HO
      have HM := Stow.mk hM
      have HR := Stow.mk hR
      clear hM hR HE
      by_cases ha0 : a < 0
      · have HB1 := HB.out
        go_wp2_with fail
        refine (known33_any _).mono ?_
        rintro e wk ⟨rfl, hbk⟩
        have HBK := Stow.mk (HB1.trans (hbk.mono HB1.size))
        clear hbk
        go_wp2_with fail
        go_ret
        exact ⟨rfl, HBK.out⟩
      by_cases ha1 : (l.length : Int) ≤ a
      · have HB1 := HB.out
        go_wp2_with fail
        refine (known33_any _).mono ?_
        rintro e wk ⟨rfl, hbk⟩
        have HBK := Stow.mk (HB1.trans (hbk.mono HB1.size))
        clear hbk
        go_wp2_with fail
        go_ret
        exact ⟨rfl, HBK.out⟩
      obtain ⟨q, rfl⟩ : ∃ q : Nat, a = (q : Int) := ⟨a.toNat, by omega⟩
      have hql : q < l.length := by omega
      have HTR := Stow.mk (coTraces_any HM.out HR.out.ok)
      go_upto_region 16 with fail
      go_wp2_with fail
      refine HTR.out.mono ?_
      rintro e w5 ⟨At, ct, rfl, ht5, hb5⟩
      have HT5 := Stow.mk ht5
      have HM5 := Stow.mk (HM.out.keep hb5)
      have HO5 := Stow.mk (own_kept HO.out hb5)
      have HB5 := Stow.mk (HB.out.trans (hb5.mono HB.out.size))
      have hsD : B ≤ w5.heap.size := Nat.le_trans hsB hb5.size
      have hgD : g < w5.heap.size := by omega
      have htl : c.trs.length = c.K.length := by simp [Co.trs]
      have htf : c.trs.length ≤ 32 := by have := HR.out.ok.fine.len; omega
      clear ht5 hb5 HTR HM HO HB HL htl
      go_wp2_with fail
      go_loopw [13, 14, 15, 16] (fun o u _ _ wr => ∃ j : Nat, u = .int .i64 (j : Int) ∧ j ≤ c.trs.length ∧ Stow (∃ R : List Km, R.length = j ∧ R.map Km.k = (c.K.take j).map (fun k => (St.get c.K k.hi k.lo).1) ∧ BesideK wr w5.heap.size o R ∧ wr.ownsRow w5.heap.size 40 5 o j (R.flatMap Km.cells)) ∧ Stow (Below w5.heap.size w5 wr)) (fun _ u _ _ _ => c.trs.length - (intOf u).toNat)
      case atStart => exact ⟨0, rfl, by omega, ⟨[], rfl, rfl, BesideK.nil _ _ _, World.ownsRow_nil _ _ _ _⟩, ⟨Below.self _⟩⟩
      case round =>
        obtain ⟨j, rfl, hj, HE2, HB2⟩ := hrel
        obtain ⟨R, hR1, hR2, hR3, hR4⟩ := HE2.out
        obtain ⟨Ak, ck, rfl⟩ := own_form hR4
        by_cases hjt : j < c.trs.length
        · have hjk : j < c.K.length := by simpa [Co.trs] using hjt
          obtain ⟨b, off, rfl, hblt, _⟩ := SlR.open HT5.out (by simp; omega)
          obtain ⟨q0, q1⟩ := tr_at (SlR.keep HT5.out HB2.out) hjt
          have hkj : c.trs[j] = (c.K[j].hi, c.K[j].lo) := by simp [Co.trs, Kp.tr]
          rw [hkj] at q0 q1
          have HNX : Stow (R.map Km.k ++ [(St.get c.K c.K[j].hi c.K[j].lo).1] = (c.K.take (j + 1)).map (fun k => (St.get c.K k.hi k.lo).1)) := ⟨by rw [hR2, List.take_succ_eq_append_getElem hjk, List.map_append]; rfl⟩
          have HF := Stow.mk (Co.get_fine HR.out.ok.fine (List.getElem_mem hjk))
          have HK6 := Stow.mk (coKeptN_any (HM5.out.keep HB2.out) HR.out.ok c.K[j].hi c.K[j].lo)
          unfold KeptOutN at HK6
          rw [Co.get_mem (List.getElem_mem hjk)] at HK6
          obtain ⟨kj, hkj2⟩ : ∃ k, (St.get c.K c.K[j].hi c.K[j].lo).1 = k := ⟨_, rfl⟩
          rw [hkj2] at HNX HF HK6
          have HR3 := Stow.mk hR3
          have HR4 := Stow.mk hR4
          have hbr := HB2.out.size
          have hji : (j : Int) < c.trs.length := by omega
          have hj0 : (0 : Int) ≤ j := by omega
          have HRL := Stow.mk hR1
          have HOB := Stow.mk (fun k hk => (World.ownsRow.lt hR4 k hk).2)
          have K8 : Stow ((j + 1) * 48 ≤ 140737488355328 ∧ j + 1 ≤ maxLen) := ⟨by omega, by unfold maxLen; omega⟩
          generalize c.K[j].hi = thi at q0 HK6
          generalize c.K[j].lo = tlo at q1 HK6
          clear hkj hkj2 hR1 hR2 hR3 hR4 HE2
          go_wp2_with fail
          refine HK6.out.mono ?_
          rintro e w6 ⟨⟨⟨mh, ml, mL, mx, mc⟩, mA, mcap⟩, rfl, hk6, hR6, hb6, hn6⟩
          have hx6 := Below.alloc' (Below.self w6) (.cells #[.int .u64 (mh : Int), .int .u64 (ml : Int), .slice mA mL.length mcap, .bool mx, .bool mc] 40)
          have hy6 := Below.alloc' (Below.self (w6.alloc (.cells #[.int .u64 (mh : Int), .int .u64 (ml : Int), .slice mA mL.length mcap, .bool mx, .bool mc] 40))) (.cells #[.int .u64 (mh : Int), .int .u64 (ml : Int), .slice mA mL.length mcap, .bool mx, .bool mc] 40)
          have HBM := Stow.mk (fun g' cap' w' hgr hat => BesideK.more (n := j + 1) (cap := cap') (w' := w') (g' := g') HR3.out hb6 hbr hR6 (by rw [hk6]; exact HF.out.1) hn6 HOB.out (Below.call hx6 hy6) hgr hat)
          have HO6 := Stow.mk (own_kept (own_kept HR4.out hb6) hx6)
          have HB6 := Stow.mk (HB2.out.trans ((hb6.trans (hx6.mono hb6.size)).mono hbr))
          have hs6 := hb6.size
          have HK7 := Stow.mk hk6
          clear hk6 hR6 hb6 hn6 hx6 hy6 HK6 HOB
          dsimp only [Km.cells]
          go_wp2_with (at_builtin; refine wpList_append_elem_lies (w6.alloc (.cells #[.int .u64 (mh : Int), .int .u64 (ml : Int), .slice mA mL.length mcap, .bool mx, .bool mc] 40)) [.int .u64 (mh : Int), .int .u64 (ml : Int), .slice mA mL.length mcap, .bool mx, .bool mc] _ rfl (.tmp 89) (.tmp 91) 30 rfl w5.heap.size 40 _ 5 48 Tryz.underlying30 info_kept _ _ _ HO6.out rfl _ rfl (by simp) rfl (by decide) rfl (by intro u hu; simp at hu; rcases hu with rfl | rfl | rfl | rfl | rfl <;> rfl) K8.out.1 K8.out.2 (by simp; omega) ?_; intro g7 cap7 w7 hown7 hgr7 hb7 hs7 hat7; have H7 := Stow.mk hown7; have HB7 := Stow.mk (HB6.out.trans hb7); have HBK := Stow.mk (HBM.out g7 cap7 w7 hgr7 (hat7.imp id (by simp; omega))); clear hown7 hgr7 hb7 hs7 hat7)
          refine ⟨⟨j + 1, by simp, by omega, ⟨R ++ [⟨⟨mh, ml, mL, mx, mc⟩, mA, mcap⟩], by simp [HRL.out], ?_, HBK.out, ?_⟩, HB7⟩, by simp [intOf]; omega⟩
          · rw [← HNX.out, List.map_append]
            show List.map Km.k R ++ [_] = _
            rw [HK7.out]
          · have := H7.out
            rw [List.flatMap_append]
            simpa [Km.cells] using this
        · obtain rfl : j = c.trs.length := by omega
          have hjj : ¬ (c.trs.length : Int) < c.trs.length := by omega
          have hKS : KsR wr Ak ck R := ⟨by rw [hR1]; exact own_of_cells Km.cells_len hR4 hR1.symm, hR3.each⟩
          have HKS := Stow.mk hKS
          have HRK : Stow (R.map Km.k = c.K.map (fun k => (St.get c.K k.hi k.lo).1)) := ⟨by rw [hR2, List.take_of_length_le (by simp [Co.trs])]⟩
          have HM6 := Stow.mk (HM5.out.keep HB2.out)
          have HO6 := Stow.mk (own_kept HO5.out HB2.out)
          have HT6 := Stow.mk (HT5.out.keep HB2.out)
          have HB6 := Stow.mk (HB5.out.trans (HB2.out.mono HB5.out.size))
          have hbr := HB2.out.size
          have hoB : ∀ k, (Value.slice Ao l.length co).ownBlock = some k → B ≤ k ∧ k < wr.heap.size := fun k hk => World.ownsRow.lt HO6.out k hk
          obtain ⟨b, off, rfl, hblt, _⟩ := SlR.open HL0.out (by simp; omega)
          have q0 := tx_at (HL0.out.keep HB6.out) hql
          have hmem := HLN.out _ (List.getElem_mem hql)
          have hsq := HR.out.seen _ (List.getElem_mem hql)
          have HOQ : Stow ((l.map an)[q]? = some (an l[q])) := ⟨by simp [hql]⟩
          obtain ⟨t, ht⟩ : ∃ t, l[q] = t := ⟨_, rfl⟩
          rw [ht] at q0 hmem hsq HOQ
          have K1 := coRecv_any HM6.out HR.out.ok (by omega) (fun k hk => ⟨by omega, fun e => by have := hoB k e; omega⟩) t (by omega)
          rw [Co.recv_ans] at K1
          have HK := Stow.mk K1
          have HOK2 := Stow.mk (Co.recv_ok HR.out.ok (l := t) (by omega))
          have HAG := Stow.mk (Co.again HR.out.ok hsq)
          obtain ⟨c', hc'⟩ : ∃ c', (c.recv t).1 = c' := ⟨_, rfl⟩
          rw [hc'] at HK HOK2 HAG
          have hqi : (q : Int) < l.length := by omega
          have hqn : ¬ (l.length : Int) ≤ q := by omega
          have hq0 : (0 : Int) ≤ q := by omega
          obtain ⟨v6, W6, A6, cap6, R6, h6⟩ := HM6.out
          have HHD := Stow.mk h6.head
          have HNU := Stow.mk (Co.noU h6.row)
          clear K1 hc' hsq ht h6 HE2 hR1 hR2 hR3 hR4 hoB hKS
          go_wp2_with fail
          refine (coTaken_any HM6.out).mono ?_
          rintro e w7 ⟨rfl, rfl⟩
          go_wp2_with fail
          refine HK.out.mono ?_
          rintro e w8 ⟨rfl, hM8, ht8⟩
          have HM8 := Stow.mk hM8
          have HKS8 := Stow.mk (KsR.turnU HHD.out HNU.out HKS.out ht8)
          have HT8 := Stow.mk (show TrL w8 At ct c.trs from slr_turnU HHD.out HNU.out HT6.out (by
            intro x hx
            obtain ⟨p, _, rfl⟩ := List.mem_map.1 hx
            exact ⟨_, rfl⟩) ht8)
          have HO8 := Stow.mk (own_undr HO6.out (turn_only ht8) hgB)
          have HB8 := Stow.mk (HB6.out.trans (ht8.below (fun i hi => by omega) HB6.out.size))
          clear hM8 ht8 HK HHD HNU HM6 HKS HT6 HO6 HB6 q0
          go_wp2_with fail
          go_loopw [20, 21, 22] (fun u _ _ wr => ∃ j : Nat, u = .int .i64 (j : Int) ∧ j ≤ c.trs.length ∧ Stow (Below w8.heap.size w8 wr)) (fun u _ _ _ => c.trs.length - (intOf u).toNat)
          case atStart => exact ⟨0, rfl, by omega, ⟨Below.self _⟩⟩
          case round =>
            obtain ⟨j, rfl, hj, HBR⟩ := hrel
            by_cases hjt : j < c.trs.length
            · have hjk : j < c.K.length := by simpa [Co.trs] using hjt
              have hRL : R.length = c.K.length := by have := congrArg List.length HRK.out; simpa using this
              have hjR : j < R.length := by omega
              obtain ⟨bt, offt, rfl, hbtlt, _⟩ := SlR.open HT8.out (by simp; omega)
              obtain ⟨bk, offk, rfl, hbklt, _⟩ := SlR.open HKS8.out.row (by simp; omega)
              obtain ⟨q0, q1⟩ := tr_at (SlR.keep HT8.out HBR.out) hjt
              have hkj : c.trs[j] = (c.K[j].hi, c.K[j].lo) := by simp [Co.trs, Kp.tr]
              rw [hkj] at q0 q1
              have hk7 := coKept_any (HM8.out.keep HBR.out) HOK2.out c.K[j].hi c.K[j].lo
              rw [HAG.out.1] at hk7
              unfold KeptOut at hk7
              rw [Co.get_mem (List.getElem_mem hjk)] at hk7
              have hrk : R[j].k = (St.get c.K c.K[j].hi c.K[j].lo).1 := by
                have := congrArg (fun l => l[j]?) HRK.out
                simpa [hjR, hjk] using this
              rw [← hrk] at hk7
              have hra := (km_at HKS8.out.row hjR).2
              have hre := HKS8.out.each _ (List.getElem_mem hjR)
              obtain ⟨n, hn⟩ : ∃ n, R[j] = n := ⟨_, rfl⟩
              rw [hn] at hk7 hra hre
              obtain ⟨⟨nh, nl, nL, nx, nc⟩, nA, ncap⟩ := n
              have HK7 := Stow.mk hk7
              have HRA := Stow.mk hra
              have HRE := Stow.mk hre
              have hji : (j : Int) < c.trs.length := by omega
              have hj0 : (0 : Int) ≤ j := by omega
              have hjR' : (j : Int) < (R.length : Nat) := by omega
              have hRT : Stow (R.length = c.trs.length) := ⟨by simp [Co.trs, hRL]⟩
              generalize c.K[j].hi = thi at q0 HK7
              generalize c.K[j].lo = tlo at q1 HK7
              clear hkj hk7 hrk hra hre hn hRL
              go_wp2_with fail
              refine HK7.out.mono ?_
              rintro e w9 ⟨⟨⟨mh, ml, mL, mx, mc⟩, mA, mcap⟩, rfl, hk9, hR9, hb9⟩
              simp only at hk9
              have hx9 := Below.alloc' (Below.self w9) (.cells #[.int .u64 (mh : Int), .int .u64 (ml : Int), .slice mA mL.length mcap, .bool mx, .bool mc] 40)
              have hb98 := hb9.trans (hx9.mono hb9.size)
              have hB98 := HBR.out.trans (hb98.mono HBR.out.size)
              have HBX := Stow.mk hB98
              have HH9 := Stow.mk (Held.made w9 [.int .u64 (mh : Int), .int .u64 (ml : Int), .slice mA mL.length mcap, .bool mx, .bool mc] 40)
              have hR9' := hR9.keep hx9
              obtain ⟨W9, hW9⟩ : ∃ W, w9.alloc (.cells #[.int .u64 (mh : Int), .int .u64 (ml : Int), .slice mA mL.length mcap, .bool mx, .bool mc] 40) = W := ⟨_, rfl⟩
              have HW9 := Stow.mk hW9
              rw [show w9.alloc (.cells [.int .u64 (mh : Int), .int .u64 (ml : Int), .slice mA mL.length mcap, .bool mx, .bool mc].toArray 40) = W9 from hW9] at HH9
              rw [hW9] at HBX hR9'
              have HR9 := Stow.mk hR9'
              have HE9 := Stow.mk hk9
              have HONE := Stow.mk (fun W (hb : Below W9.heap.size W9 W) => rOne_any ⟨⟨mh, ml, mL, mx, mc⟩, mA, mcap⟩ ⟨⟨nh, nl, nL, nx, nc⟩, nA, ncap⟩ W HE9.out (HR9.out.keep hb) (HRE.out.keep (HBX.out.trans (hb.mono HBX.out.size))))
              have HSF : Stow (∀ W', Below W9.heap.size W9 W' → W'.cell? ⟨w9.heap.size, 0, none⟩ = some (.int .u64 (mh : Int)) ∧ W'.cell? ⟨w9.heap.size, 1, none⟩ = some (.int .u64 (ml : Int)) ∧ W'.cell? ⟨w9.heap.size, 2, none⟩ = some (.slice mA mL.length mcap) ∧ W'.cell? ⟨w9.heap.size, 3, none⟩ = some (.bool mx) ∧ W'.cell? ⟨w9.heap.size, 4, none⟩ = some (.bool mc) ∧ W'.cell? ⟨bk, offk + j * 5, none⟩ = some (.int .u64 (nh : Int)) ∧ W'.cell? ⟨bk, offk + j * 5 + 1, none⟩ = some (.int .u64 (nl : Int)) ∧ W'.cell? ⟨bk, offk + j * 5 + 2, none⟩ = some (.slice nA nL.length ncap) ∧ W'.cell? ⟨bk, offk + j * 5 + 3, none⟩ = some (.bool nx) ∧ W'.cell? ⟨bk, offk + j * 5 + 4, none⟩ = some (.bool nc)) := ⟨fun W' hb => ⟨(HH9.out.kept hb).cell (i := 0) rfl, (HH9.out.kept hb).cell (i := 1) rfl, (HH9.out.kept hb).cell (i := 2) rfl, (HH9.out.kept hb).cell (i := 3) rfl, (HH9.out.kept hb).cell (i := 4) rfl, 
                ((HBX.out.trans (hb.mono HBX.out.size)).cell (p := ⟨bk, _, none⟩) hbklt).trans (HRA.out 0 _ rfl), ((HBX.out.trans (hb.mono HBX.out.size)).cell (p := ⟨bk, _, none⟩) hbklt).trans (HRA.out 1 _ rfl), ((HBX.out.trans (hb.mono HBX.out.size)).cell (p := ⟨bk, _, none⟩) hbklt).trans (HRA.out 2 _ rfl), ((HBX.out.trans (hb.mono HBX.out.size)).cell (p := ⟨bk, _, none⟩) hbklt).trans (HRA.out 3 _ rfl), ((HBX.out.trans (hb.mono HBX.out.size)).cell (p := ⟨bk, _, none⟩) hbklt).trans (HRA.out 4 _ rfl)⟩⟩
              have hkk := HSF.out W9 (Below.self W9)
              clear hk9 hR9 hb9 hx9 hb98 hB98 hW9 hR9' HK7 HRA HRE
              dsimp only [Km.cells]
              go_upto_region 29 with fail
              rw [HW9.out]
              obtain ⟨k0, k1, k2, k3, k4, k5, k6, k7, k8, k9⟩ := HSF.out W9 (Below.self W9)
              go_region_held3 (fun W' => W'.cell? ⟨w9.heap.size, 0, none⟩ = some (.int .u64 (mh : Int)) ∧ W'.cell? ⟨w9.heap.size, 1, none⟩ = some (.int .u64 (ml : Int)) ∧ W'.cell? ⟨w9.heap.size, 2, none⟩ = some (.slice mA mL.length mcap) ∧ W'.cell? ⟨w9.heap.size, 3, none⟩ = some (.bool mx) ∧ W'.cell? ⟨w9.heap.size, 4, none⟩ = some (.bool mc) ∧ W'.cell? ⟨bk, offk + j * 5, none⟩ = some (.int .u64 (nh : Int)) ∧ W'.cell? ⟨bk, offk + j * 5 + 1, none⟩ = some (.int .u64 (nl : Int)) ∧ W'.cell? ⟨bk, offk + j * 5 + 2, none⟩ = some (.slice nA nL.length ncap) ∧ W'.cell? ⟨bk, offk + j * 5 + 3, none⟩ = some (.bool nx) ∧ W'.cell? ⟨bk, offk + j * 5 + 4, none⟩ = some (.bool nc)) (first | go_keep | exact hkk)
                (first | (go_at_call 13; refine (HONE.out _ (Below.drew (Below.self W9))).mono ?_; rintro e ws ⟨rfl, hbs⟩; have HBl := Stow.mk ((Below.drew (Below.self W9)).trans hbs); have hkk := HSF.out _ HBl.out))
              all_goals
                have HBK := Stow.mk (HBX.out.trans (HBl.out.mono HBX.out.size))
                clear hkk k0 k1 k2 k3 k4 k5 k6 k7 k8 k9
                go_wp2_with fail
                exact ⟨⟨j + 1, by simp, by omega, HBK⟩, by simp [intOf]; omega⟩
            · obtain rfl : j = c.trs.length := by omega
              have hjj : ¬ (c.trs.length : Int) < c.trs.length := by omega
              have HM9 := Stow.mk (HM8.out.keep HBR.out)
              have HT9 := Stow.mk (HT8.out.keep HBR.out)
              have HO9 := Stow.mk (own_kept HO8.out HBR.out)
              have HB9 := Stow.mk (HB8.out.trans (HBR.out.mono HB8.out.size))
              obtain ⟨go, cpo, hvo, _, _⟩ := World.ownsRow.form HO9.out (by omega)
              simp only [Value.slice.injEq] at hvo
              obtain ⟨rfl, _, rfl⟩ := hvo
              have qo := World.ownsRow.cells HO9.out rfl q (an t) HOQ.out
              rw [Addr.add_lit, Nat.zero_add] at qo
              unfold an at qo
              have hsum := HOK2.out.sum
              have htk := HAG.out.2
              have htr : c'.trs = c.trs := by unfold Co.trs; rw [HAG.out.1]
              have HTR := Stow.mk (coTraces_any HM9.out HOK2.out)
              rw [htr] at HTR
              clear htr
              go_wp2_with fail
              refine HTR.out.mono ?_
              rintro e w10 ⟨A10, c10, rfl, ht10, hb10⟩
              have HSM := Stow.mk (rSameTr_any c.trs A10 At c10 ct w10 ht10 (HT9.out.keep hb10))
              have HM10 := Stow.mk (HM9.out.keep hb10)
              have HB10 := Stow.mk (HB9.out.trans (hb10.mono HB9.out.size))
              clear ht10 hb10 HTR qo
              go_wp2_with fail
              refine HSM.out.mono ?_
              rintro e w11 ⟨rfl, hb11⟩
              have HM11 := Stow.mk (HM10.out.keep hb11)
              have HB11 := Stow.mk (HB10.out.trans (hb11.mono HB10.out.size))
              clear hb11 HSM
              go_wp2_with fail
              refine (coTaken_any HM11.out).mono ?_
              rintro e w12 ⟨rfl, rfl⟩
              go_wp2_with fail
              refine (coTaken_any HM11.out).mono ?_
              rintro e w13 ⟨rfl, rfl⟩
              go_wp2_with fail
              refine (coTwice_any HM11.out).mono ?_
              rintro e w14 ⟨rfl, rfl⟩
              go_wp2_with fail
              refine (coBad_any HM11.out).mono ?_
              rintro e w15 ⟨rfl, rfl⟩
              have hse : (c'.tk : Int) + c'.tw + c'.bd = (l.length : Int) + 1 := by omega
              go_wp2_with fail
              refine (known33_any _).mono ?_
              rintro e wk ⟨rfl, hbk⟩
              have HBK := Stow.mk (HB11.out.trans (hbk.mono HB11.out.size))
              clear hbk
              go_wp2_with fail
              go_ret
              exact ⟨rfl, HBK.out⟩
end Go.Proofs.YtfbhdkkmcfnghaaGreat
end

section
namespace Go.Proofs.YtfbhdkkmcfnghaaGreat
open Go.RowKit Cells
set_option linter.unusedVariables false

theorem flatR_strs (w : World) : FlatR Tryz.prog w 22 [pSlice w 1 [pStrR]] := flatR_slice Tryz.underlying22 (by kernel_rfl) (flatR_string Tryz.underlying9)
theorem strs_of {w : World} {v : Value} (h : pSlice w 1 [pStrR] v) : ∃ A cap, ∃ l : List (List UInt8), v = .slice A l.length cap ∧ TxR w A cap l ∧ ∀ t ∈ l, t.length ≤ 140737488355328 := by
  obtain ⟨l, h1, h2⟩ := slr_of (α := List UInt8) (fun t => [.string (bs t)]) (fun t => t.length ≤ 140737488355328) (fun cs hc => by
    obtain ⟨v, rfl, l, rfl, hl⟩ := Rel.one hc
    exact ⟨l, rfl, hl⟩) (fun _ => rfl) (by decide) h
  obtain ⟨A, cap, rfl, _⟩ := h1.form
  rw [List.length_map] at h1 ⊢
  exact ⟨A, cap, l, rfl, h1, h2⟩
theorem twice33_at (r : Int) (v : Value) (a : Int) (w : World) (hr : -9223372036854775808 ≤ r ∧ r ≤ 9223372036854775807) (h : pSlice w 1 [pStrR] v) :
    Calls Tryz.prog 4 #[.int .i64 r, v, .int .i64 a] w fun e w' => e = .returned (.bool true) ∧ Below w.heap.size w w' := by
  obtain ⟨A, cap, l, rfl, h1, h2⟩ := strs_of h
  exact twice33 r A cap l a w hr h1 h2
end Go.Proofs.YtfbhdkkmcfnghaaGreat
end
