/- Walk of the config reader's rule. Conditions: the reader's memory; what a variable of the library's holds. -/
import Derived.Test.YtfbhdkkmcfnghaaGreatDoorCfRdOpt
import Derived.Test.YtfbhdkkmcfnghaaGreatDoorCfRdLaw
import Derived.ScopeJumps
namespace Go.Proofs.YtfbhdkkmcfnghaaGreatDoor
open Go.RowKit
set_option linter.unusedVariables false
set_option linter.unusedSimpArgs false

theorem XuM.off {w : World} {bx g i : Nat} {x : Ru} {vp v : Value} (h : XuM w bx x vp) (hg : g < bx) : XuM (w.setCell ⟨g, i, none⟩ v) bx x vp := by
  have ht := Turn.setC w g i v
  refine ⟨h.hd.turn ht (by omega), own_turn h.row ht (fun j hj e => ?_), h.fits, h.tg, h.mi, by simpa using h.lt⟩
  have := (World.ownsRow.lt h.row j hj).1
  omega
theorem info_rule : (Tryz.prog.info? 95).map (fun i => (i.zero, i.size, i.bytes)) = some (some (.agg #[.int .i64 0, .slice none 0 0, .string ByteArray.empty, .int .i64 0, .int .i64 0, .int .i64 0, .int .i64 0, .int .i64 0, .string ByteArray.empty, .int .i64 0]), 10, 112) := by kernel_rfl
/-- One rule more. -/
theorem RdM.more_rule {N H : Nat} {w W w' : World} {g g' cap' pc n : Nat} {LA PA : Option Addr} {lc : Nat} {L : List (List UInt8)} {k : Nat} {vr : Value} {R : List Rm} {f : List UInt8} {x : Ru} (h : RdM N w g LA lc L k vr R f) (hx : XuM w N x (.slice PA x.ps.length pc)) (hn : R.length = n)
    (hb : Below w.heap.size w W) (hg : W.grownBy w' vr.ownBlock) (ho : w'.ownsRow (g + 1) 95 10 (.slice (some ⟨g', 0, none⟩) (n + 1) cap') (n + 1) (R.flatMap Rm.cells ++ x.cs (.slice PA x.ps.length pc))) (hat : vr.ownBlock = some g' ∨ g' = H) (hH : w.heap.size ≤ H) :
    RdM (w'.setCell ⟨g, 2, none⟩ (.slice (some ⟨g', 0, none⟩) (n + 1) cap')).heap.size (w'.setCell ⟨g, 2, none⟩ (.slice (some ⟨g', 0, none⟩) (n + 1) cap')) g LA lc L k (.slice (some ⟨g', 0, none⟩) (n + 1) cap') (R ++ [⟨x, PA, pc⟩]) f := by
  have hT1 : Turn (fun i => vr.ownBlock = some i) w w' := (Turn.of_below hb).trans (Turn.of_grownO hg) (fun i hi => .inl hi)
  have hT2 := Turn.setC w' g 2 (.slice (some ⟨g', 0, none⟩) (n + 1) cap')
  have hge : ∀ i, vr.ownBlock = some i → g < i := fun i hi => by have := (World.ownsRow.lt h.row i hi).1; omega
  have hsz : w.heap.size ≤ w'.heap.size := Nat.le_trans hb.size hg.size
  have hpb : ∀ ad, PA = some ad → N < ad.block ∧ ad.block < w.heap.size := fun ad ha => by
    subst ha
    have := World.ownsRow.lt hx.row ad.block rfl
    omega
  have hg'1 : ∀ b, b < N → vr.ownBlock ≠ some b → g' ≠ b := fun b hb1 hb2 e => by
    subst e
    rcases hat with hat | hat
    · exact hb2 hat
    · have := h.hN; omega
  have hg'2 : ∀ b, N < b → b < w.heap.size → g' ≠ b := fun b hb1 hb2 e => by
    subst e
    rcases hat with hat | hat
    · have := h.rowN _ hat; omega
    · omega
  have hlt' : g' < w'.heap.size := (World.ownsRow.lt ho g' rfl).2
  have hszs : (w'.setCell ⟨g, 2, none⟩ (.slice (some ⟨g', 0, none⟩) (n + 1) cap')).heap.size = w'.heap.size := by simp
  refine ⟨?_, ?_, ?_, ?_, h.lsA, ?_, ?_, ?_, Nat.le_refl _⟩
  · exact (h.hd.turn hT1 (fun e => by have := hge _ e; omega)).set 2 _
  · exact slrTurn (slrTurn h.ls hT1 (fun ad ha e => by have := hge _ e; have := h.lsA ad ha; omega)) hT2 (fun ad ha e => by have := h.lsA ad ha; omega)
  · have e1 : (R ++ [(⟨x, PA, pc⟩ : Rm)]).length = n + 1 := by simp [hn]
    have e2 : (R ++ [(⟨x, PA, pc⟩ : Rm)]).flatMap Rm.cells = R.flatMap Rm.cells ++ x.cs (.slice PA x.ps.length pc) := by simp [Rm.cells, Ru.cs]
    rw [e1, e2]
    exact own_undr ho (Only.set g w' 2 _) (by omega)
  · intro m hm
    rcases List.mem_append.1 hm with hm | hm
    · exact ((h.each m hm).turn hT1 (fun ad ha e => (h.eachA m hm ad ha).2.2 e)).turn hT2 (fun ad ha e => by have := (h.eachA m hm ad ha).1; omega)
    · rw [List.mem_singleton.1 hm]
      have hr : w'.ownsRow (N + 1) 98 3 (.slice PA x.ps.length pc) x.ps.length (x.ps.flatMap Pd.cells) := own_turn hx.row hT1 (fun i hi e => by have h1 := (World.ownsRow.lt hx.row i hi).1; have h2 := h.rowN i e; omega)
      have hr2 := own_undr hr (Only.set g w' 2 (.slice (some ⟨g', 0, none⟩) (n + 1) cap')) (by have := h.gN; omega)
      exact ⟨own_of_cells (enc := Pd.cells) (fun _ => rfl) hr2 rfl, hx.fits, by have := hx.tg; simp only; omega, by have := hx.mi; simp only; omega⟩
  · intro m hm ad ha
    rw [hszs]
    rcases List.mem_append.1 hm with hm | hm
    · obtain ⟨h1, h2, h3⟩ := h.eachA m hm ad ha
      exact ⟨h1, by have := h.hN; omega, fun e => hg'1 ad.block h2 h3 (by simpa [Value.ownBlock] using e)⟩
    · rw [List.mem_singleton.1 hm] at ha
      obtain ⟨h1, h2⟩ := hpb ad ha
      exact ⟨by have := h.gN; omega, by omega, fun e => hg'2 ad.block h1 h2 (by simpa [Value.ownBlock] using e)⟩
  · intro i hi
    rw [hszs]
    have : g' = i := by simpa [Value.ownBlock] using hi
    omega
  · rw [hszs]
    have := h.gN
    have := h.hN
    omega
/-- Amid the predicates. -/
structure RuJ (w0 wl : World) (g bx : Nat) (LA : Option Addr) (lc : Nat) (L : List (List UInt8)) (vr : Value) (R : List Rm) (f : List UInt8) (F : Ru × Nat × Bool) (k : Nat) (x : Ru) (vp : Value) : Prop where
  rd : RdM bx wl g LA lc L k vr R f
  xu : XuM wl bx x vp
  be : Below g w0 wl
  left : Cf.predsR k (L.drop k) x = F
  few : x.ps.length ≤ k
  k : k ≤ L.length
def cellNat (w : World) (g : Nat) : Nat := match w.cell? ⟨g, 1, none⟩ with | some (.int _ i) => i.toNat | _ => 0
inductive RuG (w0 : World) (g : Nat) (LA : Option Addr) (lc : Nat) (L : List (List UInt8)) (vr : Value) (R : List Rm) (f : List UInt8) (F : Ru × Nat × Bool) (wl : World) : Act → Prop
  | mk (bx q : Nat) (x : Ru) (vp : Value) (u1 u2 u3 u4 u5 u6 u8 u9 u10 u11 u12 u13 u14 u15 u16 u17 u18 u19 u20 u21 u22 u23 u24 u25 u26 u27 u28 u29 u30 u31 u32 u33 u34 u35 u36 u37 u38 u39 u40 u41 u42 u43 u44 u45 u46 u47 u48 u49 u50 u51 u52 u53 u54 u55 u56 u57 u58 u59 u60 u61 u62 u63 u64 u65 u66 u67 u68 u69 u70 u71 u72 u73 u74 u75 u76 u77 u78 u79 u80 u81 u82 u83 u84 u85 u86 u87 u88 u89 u90 u91 u92 u93 u94 u95 u96 u97 : Value) (h : RuJ w0 wl g bx LA lc L vr R f F q x vp) : RuG w0 g LA lc L vr R f F wl { tmps := (.pointer (some ⟨g, 0, none⟩) :: u1 :: u2 :: u3 :: u4 :: u5 :: u6 :: .pointer (some ⟨bx, 0, none⟩) :: u8 :: u9 :: u10 :: u11 :: u12 :: u13 :: u14 :: u15 :: u16 :: u17 :: u18 :: u19 :: u20 :: u21 :: u22 :: u23 :: u24 :: u25 :: u26 :: u27 :: u28 :: u29 :: u30 :: u31 :: u32 :: u33 :: u34 :: u35 :: u36 :: u37 :: u38 :: u39 :: u40 :: u41 :: u42 :: u43 :: u44 :: u45 :: u46 :: u47 :: u48 :: u49 :: u50 :: u51 :: u52 :: u53 :: u54 :: u55 :: u56 :: u57 :: u58 :: u59 :: u60 :: u61 :: u62 :: u63 :: u64 :: u65 :: u66 :: u67 :: u68 :: u69 :: u70 :: u71 :: u72 :: u73 :: u74 :: u75 :: u76 :: u77 :: u78 :: u79 :: u80 :: u81 :: u82 :: u83 :: u84 :: u85 :: u86 :: u87 :: u88 :: u89 :: u90 :: u91 :: u92 :: u93 :: u94 :: u95 :: u96 :: u97 :: []).toArray, defers := [] }
def ruJ (w0 : World) (g : Nat) (LA : Option Addr) (lc : Nat) (L : List (List UInt8)) (vr : Value) (R : List Rm) (f : List UInt8) (F : Ru × Nat × Bool) (a' : Act) (wl : World) : Prop := RuG w0 g LA lc L vr R f F wl a'
theorem ruJ_mk {w0 : World} {g bx : Nat} {LA : Option Addr} {lc : Nat} {L : List (List UInt8)} {vr : Value} {R : List Rm} {f : List UInt8} {F : Ru × Nat × Bool} {wl : World} {k : Nat} {x : Ru} {vp : Value} {u1 u2 u3 u4 u5 u6 u8 u9 u10 u11 u12 u13 u14 u15 u16 u17 u18 u19 u20 u21 u22 u23 u24 u25 u26 u27 u28 u29 u30 u31 u32 u33 u34 u35 u36 u37 u38 u39 u40 u41 u42 u43 u44 u45 u46 u47 u48 u49 u50 u51 u52 u53 u54 u55 u56 u57 u58 u59 u60 u61 u62 u63 u64 u65 u66 u67 u68 u69 u70 u71 u72 u73 u74 u75 u76 u77 u78 u79 u80 u81 u82 u83 u84 u85 u86 u87 u88 u89 u90 u91 u92 u93 u94 u95 u96 u97 : Value} (h : RuJ w0 wl g bx LA lc L vr R f F k x vp) :
    ruJ w0 g LA lc L vr R f F { tmps := (.pointer (some ⟨g, 0, none⟩) :: u1 :: u2 :: u3 :: u4 :: u5 :: u6 :: .pointer (some ⟨bx, 0, none⟩) :: u8 :: u9 :: u10 :: u11 :: u12 :: u13 :: u14 :: u15 :: u16 :: u17 :: u18 :: u19 :: u20 :: u21 :: u22 :: u23 :: u24 :: u25 :: u26 :: u27 :: u28 :: u29 :: u30 :: u31 :: u32 :: u33 :: u34 :: u35 :: u36 :: u37 :: u38 :: u39 :: u40 :: u41 :: u42 :: u43 :: u44 :: u45 :: u46 :: u47 :: u48 :: u49 :: u50 :: u51 :: u52 :: u53 :: u54 :: u55 :: u56 :: u57 :: u58 :: u59 :: u60 :: u61 :: u62 :: u63 :: u64 :: u65 :: u66 :: u67 :: u68 :: u69 :: u70 :: u71 :: u72 :: u73 :: u74 :: u75 :: u76 :: u77 :: u78 :: u79 :: u80 :: u81 :: u82 :: u83 :: u84 :: u85 :: u86 :: u87 :: u88 :: u89 :: u90 :: u91 :: u92 :: u93 :: u94 :: u95 :: u96 :: u97 :: []).toArray, defers := [] } wl := RuG.mk bx k x vp u1 u2 u3 u4 u5 u6 u8 u9 u10 u11 u12 u13 u14 u15 u16 u17 u18 u19 u20 u21 u22 u23 u24 u25 u26 u27 u28 u29 u30 u31 u32 u33 u34 u35 u36 u37 u38 u39 u40 u41 u42 u43 u44 u45 u46 u47 u48 u49 u50 u51 u52 u53 u54 u55 u56 u57 u58 u59 u60 u61 u62 u63 u64 u65 u66 u67 u68 u69 u70 u71 u72 u73 u74 u75 u76 u77 u78 u79 u80 u81 u82 u83 u84 u85 u86 u87 u88 u89 u90 u91 u92 u93 u94 u95 u96 u97 h
theorem ruJ_elim {w0 : World} {g : Nat} {LA : Option Addr} {lc : Nat} {L : List (List UInt8)} {vr : Value} {R : List Rm} {f : List UInt8} {F : Ru × Nat × Bool} {wl : World} {a' : Act} {motive : Act → Prop} (h : ruJ w0 g LA lc L vr R f F a' wl) (hk : ∀ (bx q : Nat) (x : Ru) (vp : Value) (u1 u2 u3 u4 u5 u6 u8 u9 u10 u11 u12 u13 u14 u15 u16 u17 u18 u19 u20 u21 u22 u23 u24 u25 u26 u27 u28 u29 u30 u31 u32 u33 u34 u35 u36 u37 u38 u39 u40 u41 u42 u43 u44 u45 u46 u47 u48 u49 u50 u51 u52 u53 u54 u55 u56 u57 u58 u59 u60 u61 u62 u63 u64 u65 u66 u67 u68 u69 u70 u71 u72 u73 u74 u75 u76 u77 u78 u79 u80 u81 u82 u83 u84 u85 u86 u87 u88 u89 u90 u91 u92 u93 u94 u95 u96 u97 : Value), RuJ w0 wl g bx LA lc L vr R f F q x vp → motive { tmps := (.pointer (some ⟨g, 0, none⟩) :: u1 :: u2 :: u3 :: u4 :: u5 :: u6 :: .pointer (some ⟨bx, 0, none⟩) :: u8 :: u9 :: u10 :: u11 :: u12 :: u13 :: u14 :: u15 :: u16 :: u17 :: u18 :: u19 :: u20 :: u21 :: u22 :: u23 :: u24 :: u25 :: u26 :: u27 :: u28 :: u29 :: u30 :: u31 :: u32 :: u33 :: u34 :: u35 :: u36 :: u37 :: u38 :: u39 :: u40 :: u41 :: u42 :: u43 :: u44 :: u45 :: u46 :: u47 :: u48 :: u49 :: u50 :: u51 :: u52 :: u53 :: u54 :: u55 :: u56 :: u57 :: u58 :: u59 :: u60 :: u61 :: u62 :: u63 :: u64 :: u65 :: u66 :: u67 :: u68 :: u69 :: u70 :: u71 :: u72 :: u73 :: u74 :: u75 :: u76 :: u77 :: u78 :: u79 :: u80 :: u81 :: u82 :: u83 :: u84 :: u85 :: u86 :: u87 :: u88 :: u89 :: u90 :: u91 :: u92 :: u93 :: u94 :: u95 :: u96 :: u97 :: []).toArray, defers := [] }) : motive a' :=
  RuG.rec (motive := fun a' _ => motive a') hk h
theorem MaxIs.low {w w' : World} {g : Nat} (h : MaxIs w) (hb : Below g w w') (hg : 0 < g) : MaxIs w' := by
  obtain ⟨m, hm⟩ := h
  exact ⟨m, (hb.cell (p := ⟨0, 0, none⟩) hg).trans hm⟩
theorem cellNat_rd {N : Nat} {w : World} {g : Nat} {LA : Option Addr} {lc : Nat} {L : List (List UInt8)} {k : Nat} {vr : Value} {R : List Rm} {f : List UInt8} (h : RdM N w g LA lc L k vr R f) : cellNat w g = k := by
  unfold cellNat
  rw [h.hd.cell (i := 1) rfl]
  simp
theorem Cf.preds_to {L : List (List UInt8)} {q : Nat} {x : Ru} (hq : q < L.length) (h : (Pg.cut (L.getD q [])).1 = Cf.wTo) : Cf.predsR q (L.drop q) x = if Cf.single (L.getD q []) = true then ({ x with tg := (Pg.cut (L.getD q [])).2 }, q + 1, true) else (x, q, false) := by
  rw [Cf.getD_at hq] at h ⊢
  rw [List.drop_eq_getElem_cons hq]
  simp only [Cf.predsR]
  rw [if_pos h]
theorem Cf.preds_some {L : List (List UInt8)} {q : Nat} {x : Ru} {p : Pd} (hq : q < L.length) (h : (Pg.cut (L.getD q [])).1 ≠ Cf.wTo) (hp : Cf.predL (L.getD q []) = some p) : Cf.predsR q (L.drop q) x = Cf.predsR (q + 1) (L.drop (q + 1)) { x with ps := x.ps ++ [p] } := by
  rw [Cf.getD_at hq] at h hp
  rw [List.drop_eq_getElem_cons hq]
  simp only [Cf.predsR]
  rw [if_neg h, hp]
theorem Cf.preds_none {L : List (List UInt8)} {q : Nat} {x : Ru} (h : (Pg.cut (L.getD q [])).1 ≠ Cf.wTo) (hp : Cf.predL (L.getD q []) = none) : Cf.predsR q (L.drop q) x = (x, q, false) := by
  by_cases hq : q < L.length
  · rw [Cf.getD_at hq] at h hp
    rw [List.drop_eq_getElem_cons hq]
    simp only [Cf.predsR]
    rw [if_neg h, hp]
  · rw [List.drop_eq_nil_of_le (by omega)]
    rfl
theorem Cf.opt_zero {x : Ru} {l : List UInt8} (h : (Cf.opt x l).1 = 0) : Cf.opt x l = (0, false, x) := by
  by_cases h1 : (Pg.cut l).1 = Cf.wAbort
  · rw [Cf.opt_1 h1] at h; cases h
  by_cases h2 : (Pg.cut l).1 = Cf.wDelay
  · rw [Cf.opt_2 h2] at h; cases h
  by_cases h3 : (Pg.cut l).1 = Cf.wMirror
  · rw [Cf.opt_3 h3] at h; cases h
  by_cases h4 : (Pg.cut l).1 = Cf.wSample
  · rw [Cf.opt_4 h4] at h; cases h
  exact Cf.opt_0 h1 h2 h3 h4
theorem Cf.opt_four (x : Ru) (l : List UInt8) : (Cf.opt x l).1 ≤ 4 := by
  by_cases h1 : (Pg.cut l).1 = Cf.wAbort
  · rw [Cf.opt_1 h1]; simp
  by_cases h2 : (Pg.cut l).1 = Cf.wDelay
  · rw [Cf.opt_2 h2]; simp
  by_cases h3 : (Pg.cut l).1 = Cf.wMirror
  · rw [Cf.opt_3 h3]; simp
  by_cases h4 : (Pg.cut l).1 = Cf.wSample
  · rw [Cf.opt_4 h4]; simp
  rw [Cf.opt_0 h1 h2 h3 h4]; simp
theorem Cf.opts_0 {L : List (List UInt8)} {r last : Nat} {y : Ru} (h : (Cf.opt y (L.getD r [])).1 = 0) : Cf.optsR r (L.drop r) y last = (y, r, true) := by
  by_cases hr : r < L.length
  · rw [Cf.getD_at hr] at h
    rw [List.drop_eq_getElem_cons hr]
    exact Cf.opts_end h
  · rw [List.drop_eq_nil_of_le (by omega)]
    rfl
theorem Cf.opts_no {L : List (List UInt8)} {r last : Nat} {y : Ru} (hr : r < L.length) (h : (Cf.opt y (L.getD r [])).1 ≠ 0) (h2 : (Cf.opt y (L.getD r [])).2.1 = false ∨ (Cf.opt y (L.getD r [])).1 ≤ last) : Cf.optsR r (L.drop r) y last = ((Cf.opt y (L.getD r [])).2.2, r, false) := by
  rw [Cf.getD_at hr] at h h2 ⊢
  rw [List.drop_eq_getElem_cons hr]
  unfold Cf.optsR
  simp only
  rw [if_neg h, if_pos h2]
theorem Cf.opts_go {L : List (List UInt8)} {r last : Nat} {y : Ru} (hr : r < L.length) (h : (Cf.opt y (L.getD r [])).1 ≠ 0) (h2 : ¬ ((Cf.opt y (L.getD r [])).2.1 = false ∨ (Cf.opt y (L.getD r [])).1 ≤ last)) : Cf.optsR r (L.drop r) y last = Cf.optsR (r + 1) (L.drop (r + 1)) (Cf.opt y (L.getD r [])).2.2 (Cf.opt y (L.getD r [])).1 := by
  rw [Cf.getD_at hr] at h h2 ⊢
  rw [List.drop_eq_getElem_cons hr]
  conv => lhs; unfold Cf.optsR
  simp only
  rw [if_neg h, if_neg h2]
set_option maxHeartbeats 4000000 in
set_option maxRecDepth 100000 in
theorem rdRule_any {N : Nat} {w : World} {g : Nat} {LA : Option Addr} {lc : Nat} {L : List (List UInt8)} {k : Nat} {vr : Value} {R : List Rm} {f : List UInt8} (h : RdM N w g LA lc L k vr R f) (hL : LsOk L) (hm : MaxIs w) (hR : R.length ≤ 5000) (hk : k < L.length) (hg0 : 0 < g) :
    Calls Tryz.prog 122 #[.pointer (some ⟨g, 0, none⟩)] w fun e w' => e = .returned (.bool (Cf.ruleR L k).2.2) ∧ Below g w w' ∧ ∃ vr' R', RdM w'.heap.size w' g LA lc L (Cf.ruleR L k).2.1 vr' R' f ∧ R'.map Rm.r = R.map Rm.r ++ (if (Cf.ruleR L k).2.2 = true then [(Cf.ruleR L k).1] else []) := by
  have HWD := Stow.mk (rdWord_any h hL hm)
  have hlen : (L.getD k []).length ≤ 4096 := by rw [Cf.getD_at hk]; exact hL.2 _ (List.getElem_mem hk)
  have hcl := Pg.cut_le (L.getD k [])
  obtain ⟨O, hO⟩ : ∃ O, Cf.ruleR L k = O := ⟨_, rfl⟩
  have hO2 := hO
  unfold Cf.ruleR at hO2
  obtain ⟨a, ha⟩ : ∃ a, (Pg.cut (L.getD k [])).1 = a := ⟨_, rfl⟩
  obtain ⟨b, hb⟩ : ∃ b, (Pg.cut (L.getD k [])).2 = b := ⟨_, rfl⟩
  rw [ha, hb] at HWD
  rw [hb] at hO2
  have hbl : b.length ≤ 4096 := by rw [← hb]; omega
  rw [hO]
  have hsz := h.hN
  have hgN := h.gN
  have HH := Stow.mk h
  have HM := Stow.mk hm
  have HNB := Stow.mk (fun W => number_any b W (by omega))
  have HL := Stow.mk hL
  clear ha hb hO hcl h hm hL
  cases hnum : Cf.num b with
  | none =>
    rw [hnum] at HNB hO2
    simp only at hO2
    subst hO2
    go_enter Tryz.func122, Tryz.ntmps122
    go_wp2_with fail
    refine wp_scope_jumps 0 (fun _ _ => False) (fun _ _ => 0) rfl ?_ (fun _ _ h => h.elim)
    go_wp2_with fail
    refine HWD.out.mono ?_
    rintro e w1 ⟨rfl, hb1⟩
    go_wp2_with fail
    refine (HNB.out w1).mono ?_
    rintro e w2 ⟨rfl, rfl⟩
    go_wp2_with fail
    simp only [Exit.jump]
    go_ret
    exact ⟨rfl, hb1.mono (by omega), vr, R, (HH.out.keep (hb1.mono hsz)).more (Nat.le_trans hsz hb1.size) (Nat.le_refl _), by simp⟩
  | some n =>
    rw [hnum] at HNB hO2
    simp only at hO2
    obtain ⟨F, hF⟩ : ∃ F, Cf.predsR (k + 1) (L.drop (k + 1)) (Cf.newRu n) = F := ⟨_, rfl⟩
    rw [hF] at hO2
    have HO := Stow.mk hO2
    have HF := Stow.mk hF
    clear hO2 hF
    go_enter Tryz.func122, Tryz.ntmps122
    go_wp2_with fail
    refine wp_scope_jumps 0 (ruJ w g LA lc L vr R f F) (fun _ wl => L.length - cellNat wl g) rfl ?_ ?_
    · go_wp2_with fail
      refine HWD.out.mono ?_
      rintro e w1 ⟨rfl, hb1⟩
      go_wp2_with fail
      refine (HNB.out w1).mono ?_
      rintro e w2 ⟨rfl, rfl⟩
      go_upto_region 6 with fail
      have HR1 := Stow.mk ((HH.out.keep (hb1.mono hsz)).more (Nat.le_trans hsz hb1.size) (Nat.le_refl _))
      have hx2 := Held.made w2 ((Cf.newRu n).cs (.slice none 0 0)) 95
      have hb2 := Below.alloc' (Below.self w2) (.cells ((Cf.newRu n).cs (.slice none 0 0)).toArray 95)
      have hs2 : (w2.alloc (.cells ((Cf.newRu n).cs (.slice none 0 0)).toArray 95)).heap.size = w2.heap.size + 1 := by simp
      obtain ⟨W2, hW2⟩ : ∃ W, w2.alloc (.cells ((Cf.newRu n).cs (.slice none 0 0)).toArray 95) = W := ⟨_, rfl⟩
      rw [hW2] at hx2 hb2 hs2
      have hW2' : w2.alloc (.cells #[.int .i64 (n : Int), .slice none 0 0, .string ⟨#[]⟩, .int .i64 0, .int .i64 0, .int .i64 0, .int .i64 0, .int .i64 0, .string ⟨#[]⟩, .int .i64 0] 95) = W2 := hW2
      rw [hW2']
      have HR2 := Stow.mk (HR1.out.keep hb2)
      have HX2 : Stow (XuM W2 w2.heap.size (Cf.newRu n) (.slice none 0 0)) := ⟨⟨hx2, World.ownsRow_nil _ _ _ _, (by intro p hp; cases hp), by simp [Cf.newRu], by simp [Cf.newRu], by omega⟩⟩
      have HB2 : Stow (Below g w W2) := ⟨(Below.call hb1 hb2).mono (by omega)⟩
      have HJ0 : Stow (RuJ w (W2.setCell ⟨g, 1, none⟩ (.int .i64 ((k : Int) + 1))) g w2.heap.size LA lc L vr R f F (k + 1) (Cf.newRu n) (.slice none 0 0)) := ⟨⟨HR2.out.at (k + 1), HX2.out.off HR2.out.gN, HB2.out.setCell (p := ⟨g, 1, none⟩) (Nat.le_refl _) _, HF.out, by simp [Cf.newRu], by omega⟩⟩
      have c1 := HR2.out.hd.cell (i := 1) rfl
      have f1 := HR2.out.hd.free 1
      have hk1 : (k : Int) + 1 ≤ 9223372036854775807 := by have := HL.out.1; omega
      clear hW2 hW2' hx2 hb2 hs2 hb1
      go_upto_region 7 with fail
      clear c1 f1
      obtain ⟨wl, hwl⟩ : ∃ W, W2.setCell ⟨g, 1, none⟩ (.int .i64 ((k : Int) + 1)) = W := ⟨_, rfl⟩
      rw [hwl] at HJ0 ⊢
      clear hwl
      obtain ⟨bx, hbx⟩ : ∃ b, w2.heap.size = b := ⟨_, rfl⟩
      rw [hbx] at HJ0 ⊢
      obtain ⟨q, x, vp, HJ⟩ : ∃ q x vp, Stow (RuJ w wl g bx LA lc L vr R f F q x vp) := ⟨_, _, _, HJ0⟩
      clear HJ0 HR1 HR2 HX2 HB2 hbx
      have hqL := HJ.out.k
      have hsz1 : g < bx := HJ.out.rd.gN
      have hbxl := HJ.out.xu.lt
      have HMl := Stow.mk (HM.out.low HJ.out.be hg0)
      have HWq := Stow.mk (rdWord_any HJ.out.rd HL.out HMl.out)
      have hlen2 : (L.getD q []).length ≤ 4096 := by
        by_cases hk : q < L.length
        · rw [Cf.getD_at hk]; exact HL.out.2 _ (List.getElem_mem hk)
        · rw [Cf.getD_no hk]; simp
      have hLn := HL.out.1
      have hcl2 := Pg.cut_le (L.getD q [])
      have hqs : (Pg.cut (L.getD q [])).1 = Cf.wTo ∨ Cf.predL (L.getD q []) ≠ none → q < L.length := fun h => by
        refine Decidable.byContradiction fun hn => ?_
        rw [Cf.getD_no hn] at h
        rcases h with h | h
        · cases h
        · exact h rfl
      have hto := fun hq => Cf.preds_to (L := L) (q := q) (x := x) hq
      have hpn := Cf.preds_none (L := L) (q := q) (x := x)
      have hps := fun p hq => Cf.preds_some (L := L) (q := q) (x := x) (p := p) hq
      rw [HJ.out.left] at hto hpn hps
      have hsgl := fun (hk : q < L.length) (W : World) (hW : Below bx wl W) => rdSingle_any (HJ.out.rd.keep hW) hk _ rfl
      obtain ⟨la, hla⟩ : ∃ a, (Pg.cut (L.getD q [])).1 = a := ⟨_, rfl⟩
      obtain ⟨lb, hlb⟩ : ∃ b, (Pg.cut (L.getD q [])).2 = b := ⟨_, rfl⟩
      have hlb2 : lb.length ≤ 4096 := by rw [← hlb]; omega
      rw [hla] at HWq hqs hto hpn hps
      rw [hlb] at HWq hto hsgl
      have HTO := Stow.mk hto
      have HPN := Stow.mk hpn
      have HPS := Stow.mk hps
      have HSL := Stow.mk hsgl
      have HQS := Stow.mk hqs
      clear hla hlb hlen2 hcl2 hto hpn hps hsgl hqs
      (try go_step3)
      go_wp2_with fail
      refine HWq.out.mono ?_
      rintro e w3 ⟨rfl, hb3⟩
      have HB3 := Stow.mk hb3
      have HX3 := Stow.mk (HJ.out.xu.keep hb3)
      have HR3 := Stow.mk (HJ.out.rd.keep (hb3.mono HJ.out.rd.hN))
      clear hb3 HWq
      by_cases ht : la = Cf.wTo
      · have hq2 := HQS.out (.inl ht)
        have hF := HTO.out hq2 ht
        have g_to : (la == [116, 111]) = true := by rw [ht]; rfl
        have HSQ := Stow.mk (HSL.out hq2 w3 (HB3.out.mono HJ.out.rd.hN))
        obtain ⟨sg, hsg⟩ : ∃ s, Cf.single (L.getD q []) = s := ⟨_, rfl⟩
        rw [hsg] at HSQ hF
        clear hsg ht
        cases sg with
        | false =>
          simp only [Bool.false_eq_true, if_false] at hF
          subst hF
          have hO2 := HO.out
          simp only [Bool.false_eq_true, if_false] at hO2
          subst hO2
          (try go_step3)
          go_wp2_with fail
          refine HSQ.out.mono ?_
          rintro e w4 ⟨rfl, hb4⟩
          have HR4 := Stow.mk (HR3.out.keep (hb4.mono HR3.out.hN))
          have HB4 := Stow.mk (HJ.out.be.trans ((Below.call HB3.out hb4).mono (Nat.le_trans (Nat.le_of_lt HJ.out.rd.gN) HJ.out.rd.hN)))
          clear hb4
          (try go_step3)
          go_wp2_with fail
          (try go_step3)
          (try simp only [Exit.jump])
          go_ret
          exact ⟨rfl, HB4.out, vr, R, HR4.out.more HR4.out.hN (Nat.le_refl _), by simp⟩
        | true =>
          simp only [if_true] at hF
          subst hF
          have hO2 := HO.out
          simp only [if_true] at hO2
          have HO2 := Stow.mk hO2
          clear hO2
          (try go_step3)
          go_wp2_with fail
          refine HSQ.out.mono ?_
          rintro e w4 ⟨rfl, hb4⟩
          have HR4 := Stow.mk (HR3.out.keep (hb4.mono HR3.out.hN))
          have HX4 := Stow.mk (HX3.out.keep hb4)
          have HB4 := Stow.mk (HJ.out.be.trans ((Below.call HB3.out hb4).mono (Nat.le_trans (Nat.le_of_lt HJ.out.rd.gN) HJ.out.rd.hN)))
          clear hb4
          have c1 := HR4.out.hd.cell (i := 1) rfl
          have f1 := HR4.out.hd.free 1
          have c2 := HX4.out.hd.cell (i := 2) rfl
          have f2 := HX4.out.hd.free 2
          have hgb : g ≠ bx := by omega
          have hgb2 : (g == bx) = false := by simp; omega
          have hgb3 : (bx == g) = false := by simp; omega
          have hq1 : (q : Int) + 1 ≤ 9223372036854775807 := by omega
          have HR5 : Stow (RdM bx ((w4.setCell ⟨bx, 2, none⟩ (.string (bs lb))).setCell ⟨g, 1, none⟩ (.int .i64 ((q : Int) + 1))) g LA lc L (q + 1) vr R f) := ⟨(HR4.out.turn (Turn.setC w4 bx 2 _) (fun i hi e => by omega)).at (q + 1)⟩
          have HX5 : Stow (XuM ((w4.setCell ⟨bx, 2, none⟩ (.string (bs lb))).setCell ⟨g, 1, none⟩ (.int .i64 ((q : Int) + 1))) bx { x with tg := lb } vp) := ⟨(HX4.out.turned (x' := { x with tg := lb }) (Turn.setC w4 bx 2 _) (HX4.out.hd.set 2 (.string (bs lb))) rfl hlb2 HX4.out.mi).off hsz1⟩
          have HB5 : Stow (Below g w ((w4.setCell ⟨bx, 2, none⟩ (.string (bs lb))).setCell ⟨g, 1, none⟩ (.int .i64 ((q : Int) + 1)))) := ⟨(HB4.out.setCell (p := ⟨bx, 2, none⟩) (by show g ≤ bx; omega) _).setCell (p := ⟨g, 1, none⟩) (Nat.le_refl _) _⟩
          clear HR3 HX3 HB3 HTO HPN HPS HSL HQS HSQ HO HR4 HX4 HB4
          go_upto_region 16 with fail
          clear c1 f1 c2 f2
          obtain ⟨w5, hw5⟩ : ∃ W, (w4.setCell ⟨bx, 2, none⟩ (.string (bs lb))).setCell ⟨g, 1, none⟩ (.int .i64 ((q : Int) + 1)) = W := ⟨_, rfl⟩
          rw [hw5] at HR5 HX5 HB5 ⊢
          clear hw5
          have hq6 : q + 1 ≤ L.length := by omega
          have hfx : ({ x with tg := lb } : Ru).ps.length ≤ 5000 := by have := HJ.out.few; simp only; omega
          obtain ⟨x5, hx5⟩ : ∃ y, ({ x with tg := lb } : Ru) = y := ⟨_, rfl⟩
          rw [hx5] at HX5 HO2 hfx
          clear hx5
          go_wp2_with fail
          go_loopw [10] (fun lv wr => ∃ (r last : Nat) (y : Ru), lv = .int .i64 (last : Int) ∧ last ≤ 4 ∧ r ≤ L.length ∧ y.ps.length ≤ 5000 ∧ Stow (RdM bx wr g LA lc L r vr R f) ∧ Stow (XuM wr bx y vp) ∧ Stow (Below g w wr) ∧ Stow (Cf.optsR r (L.drop r) y last = O)) (fun _ wr => L.length - cellNat wr g)
          case atStart => exact ⟨q + 1, 0, x5, rfl, by omega, hq6, hfx, HR5, HX5, HB5, HO2⟩
          case round =>
            obtain ⟨r, last, y, rfl, hlast, hr, hyf, HR6, HX6, HB6, HG⟩ := hrel
            have hcp := rdOpt_any HR6.out HX6.out (Nat.le_refl _) HL.out (HM.out.low HB6.out hg0)
            have hz := Cf.opt_zero (x := y) (l := L.getD r [])
            have h4 := Cf.opt_four y (L.getD r [])
            have hy4 : (Cf.opt y (L.getD r [])).2.2.ps = y.ps := by
              by_cases e1 : (Pg.cut (L.getD r [])).1 = Cf.wAbort
              · rw [Cf.opt_1 e1]; exact (Cf.setA_cs y vp _).2.1
              by_cases e2 : (Pg.cut (L.getD r [])).1 = Cf.wDelay
              · rw [Cf.opt_2 e2]; exact (Cf.setD_cs y vp _).2.1
              by_cases e3 : (Pg.cut (L.getD r [])).1 = Cf.wMirror
              · rw [Cf.opt_3 e3]; cases (Cf.two (Pg.cut (L.getD r [])).2).isSome <;> rfl
              by_cases e4 : (Pg.cut (L.getD r [])).1 = Cf.wSample
              · rw [Cf.opt_4 e4]
              rw [Cf.opt_0 e1 e2 e3 e4]
            have hr2 : (Cf.opt y (L.getD r [])).1 ≠ 0 → r < L.length := fun h => by
              refine Decidable.byContradiction fun hn => ?_
              rw [Cf.getD_no hn] at h
              exact h rfl
            have g0 := Cf.opts_0 (L := L) (r := r) (last := last) (y := y)
            have g1 := fun hr => Cf.opts_no (L := L) (r := r) (last := last) (y := y) hr
            have g2 := fun hr => Cf.opts_go (L := L) (r := r) (last := last) (y := y) hr
            rw [HG.out] at g0 g1 g2
            obtain ⟨o, ho⟩ : ∃ o, Cf.opt y (L.getD r []) = o := ⟨_, rfl⟩
            rw [ho] at hcp hz h4 hy4 hr2 g0 g1 g2
            obtain ⟨o1, o2, o3⟩ := o
            simp only at hcp hz h4 hy4 hr2 g0 g1 g2
            have HCP := Stow.mk hcp
            have HY4 := Stow.mk hy4
            clear hcp ho HR5 HX5 HB5 HO2 hy4
            by_cases h0 : o1 = 0
            · have hz2 := hz h0
              simp only [Prod.mk.injEq] at hz2
              obtain ⟨rfl, rfl, hyo⟩ := hz2
              obtain rfl : y = o3 := hyo.symm
              clear HY4
              have hO := g0 rfl
              subst hO
              clear hz g0 g1 g2 hr2
              (try go_step3)
              go_wp2_with fail
              refine HCP.out.mono ?_
              rintro e w6 ⟨rfl, hb6, hx6⟩
              have HR7 := Stow.mk (HR6.out.keep hb6)
              have HX7 := Stow.mk hx6
              have HB7 : Stow (Below g w w6) := ⟨HB6.out.trans (hb6.mono (Nat.le_of_lt hsz1))⟩
              clear hb6 hx6
              go_upto_region 23 with fail
              obtain ⟨PA, pc, rfl⟩ := HX7.out.form
              obtain ⟨VA, vc, hvr⟩ := own_form HR7.out.row
              have HVR := Stow.mk hvr
              have p0 := HX7.out.hd.cell (i := 0) rfl
              have p1 := HX7.out.hd.cell (i := 1) rfl
              have p2 := HX7.out.hd.cell (i := 2) rfl
              have p3 := HX7.out.hd.cell (i := 3) rfl
              have p4 := HX7.out.hd.cell (i := 4) rfl
              have p5 := HX7.out.hd.cell (i := 5) rfl
              have p6 := HX7.out.hd.cell (i := 6) rfl
              have p7 := HX7.out.hd.cell (i := 7) rfl
              have p8 := HX7.out.hd.cell (i := 8) rfl
              have p9 := HX7.out.hd.cell (i := 9) rfl
              have c2 := HR7.out.hd.cell (i := 2) rfl
              rw [hvr] at c2
              have f2 := HR7.out.hd.free 2
              have hszw := HR7.out.hN
              have hge : (w6.heap.size == g) = false := by simp; omega
              have HD : Stow (Held (w6.alloc (.cells #[.int .i64 y.rank, .slice PA y.ps.length pc, .string (bs y.tg), .int .i64 y.ap, .int .i64 y.st, .int .i64 y.dp, .int .i64 y.dt, .int .i64 y.mp, .string (bs y.mi), .int .i64 y.sm] 95)).drew g [.slice LA L.length lc, .int .i64 (r : Int), vr, .string (bs f)]) := ⟨(HR7.out.hd.kept (Below.alloc' (Below.self w6) _)).drew⟩
              have c2a : (w6.alloc (.cells #[.int .i64 y.rank, .slice PA y.ps.length pc, .string (bs y.tg), .int .i64 y.ap, .int .i64 y.st, .int .i64 y.dp, .int .i64 y.dt, .int .i64 y.mp, .string (bs y.mi), .int .i64 y.sm] 95)).cell? ⟨g, 2, none⟩ = some (.slice VA R.length vc) := by
                have h := (HR7.out.hd.kept (Below.alloc' (Below.self w6) (.cells #[.int .i64 y.rank, .slice PA y.ps.length pc, .string (bs y.tg), .int .i64 y.ap, .int .i64 y.st, .int .i64 y.dp, .int .i64 y.dt, .int .i64 y.mp, .string (bs y.mi), .int .i64 y.sm] 95))).cell (i := 2) rfl
                rw [hvr] at h
                exact h
              have HO : Stow ((w6.alloc (.cells #[.int .i64 y.rank, .slice PA y.ps.length pc, .string (bs y.tg), .int .i64 y.ap, .int .i64 y.st, .int .i64 y.dp, .int .i64 y.dt, .int .i64 y.mp, .string (bs y.mi), .int .i64 y.sm] 95)).drew.ownsRow (g + 1) 95 10 (.slice VA R.length vc) R.length (R.flatMap Rm.cells)) := ⟨World.ownsRow.drew (World.ownsRow.alloc (by have := HR7.out.row; rw [hvr] at this; exact this) _)⟩
              have HXN : Stow (∀ i u, ([.int .i64 y.rank, .slice PA y.ps.length pc, .string (bs y.tg), .int .i64 y.ap, .int .i64 y.st, .int .i64 y.dp, .int .i64 y.dt, .int .i64 y.mp, .string (bs y.mi), .int .i64 y.sm] : List Value)[i]? = some u → (w6.alloc (.cells #[.int .i64 y.rank, .slice PA y.ps.length pc, .string (bs y.tg), .int .i64 y.ap, .int .i64 y.st, .int .i64 y.dp, .int .i64 y.dt, .int .i64 y.mp, .string (bs y.mi), .int .i64 y.sm] 95)).drew.cell? ((⟨w6.heap.size, 0, none⟩ : Addr).add i) = some u) := ⟨World.news_of_block (cs := #[.int .i64 y.rank, .slice PA y.ps.length pc, .string (bs y.tg), .int .i64 y.ap, .int .i64 y.st, .int .i64 y.dp, .int .i64 y.dt, .int .i64 y.mp, .string (bs y.mi), .int .i64 y.sm]) (heap_alloc_new w6 _)⟩
              have HX1 : Stow (∀ u ∈ ([.int .i64 y.rank, .slice PA y.ps.length pc, .string (bs y.tg), .int .i64 y.ap, .int .i64 y.st, .int .i64 y.dp, .int .i64 y.dt, .int .i64 y.mp, .string (bs y.mi), .int .i64 y.sm] : List Value), u.oneCell' = true) := ⟨fun u hu => Rm.one ⟨y, PA, pc⟩ u hu⟩
              have HN1 : Stow (R.length + 1 ≤ maxLen ∧ (R.length + 1) * 112 ≤ 140737488355328 ∧ g + 1 ≤ (w6.alloc (.cells #[.int .i64 y.rank, .slice PA y.ps.length pc, .string (bs y.tg), .int .i64 y.ap, .int .i64 y.st, .int .i64 y.dp, .int .i64 y.dt, .int .i64 y.mp, .string (bs y.mi), .int .i64 y.sm] 95)).drew.heap.size) := ⟨by unfold maxLen; omega, by omega, by simp; omega⟩
              have HBG : Stow (Below w6.heap.size w6 (w6.alloc (.cells #[.int .i64 y.rank, .slice PA y.ps.length pc, .string (bs y.tg), .int .i64 y.ap, .int .i64 y.st, .int .i64 y.dp, .int .i64 y.dt, .int .i64 y.mp, .string (bs y.mi), .int .i64 y.sm] 95)).drew) := ⟨Below.drew (Below.alloc' (Below.self w6) _)⟩
              have HBW : Stow (Below g w (w6.alloc (.cells #[.int .i64 y.rank, .slice PA y.ps.length pc, .string (bs y.tg), .int .i64 y.ap, .int .i64 y.st, .int .i64 y.dp, .int .i64 y.dt, .int .i64 y.mp, .string (bs y.mi), .int .i64 y.sm] 95)).drew) := ⟨(HB7.out.alloc (by omega) _).drew⟩
              obtain ⟨i0, hi, hz, hsz, hby⟩ := info_parts info_rule
              have HI := Stow.mk hi
              have HZ := Stow.mk hz
              have HSZ := Stow.mk hsz
              have HBY := Stow.mk hby
              clear hi hz hsz hby hvr
              go_region_law (refine step_append_lies _ rfl (.tmp 91) (.tmp 93) 44 rfl (g + 1) 95 i0 _ 10 112 Tryz.underlying44 HI.out HZ.out HSZ.out HBY.out rfl (by decide) _ R.length _ rfl HO.out ⟨w6.heap.size, 0, none⟩ 1 1 [.int .i64 y.rank, .slice PA y.ps.length pc, .string (bs y.tg), .int .i64 y.ap, .int .i64 y.st, .int .i64 y.dp, .int .i64 y.dt, .int .i64 y.mp, .string (bs y.mi), .int .i64 y.sm] rfl rfl HXN.out HX1.out (by decide) HN1.out.1 HN1.out.2.1 HN1.out.2.2 _ rfl ?_; intro g' cap' w' hown hgrow hat hlt'; have HOW := Stow.mk hown; have HGR := Stow.mk hgrow; have HAT := Stow.mk hat; have ha := held_grown HD.out hgrow (fun e => by have := (World.ownsRow.lt HO.out g e).1; omega); have c2' := ha.cell (i := 2) rfl; have f2' := ha.free 2; clear hown hgrow hat ha)
              all_goals
                have HFB : Stow (Below g w (w'.setCell ⟨g, 2, none⟩ (.slice (some ⟨g', 0, none⟩) (R.length + 1) cap'))) := ⟨(HBW.out.grown HGR.out (by simp; omega) (fun k hk => by have := (HO.out.lt k hk).1; omega)).setCell (p := ⟨g, 2, none⟩) (Nat.le_refl _) _⟩
                have HFR := Stow.mk (HR7.out.more_rule (n := R.length) (g' := g') (cap' := cap') (w' := w') (H := (w6.alloc (.cells #[.int .i64 y.rank, .slice PA y.ps.length pc, .string (bs y.tg), .int .i64 y.ap, .int .i64 y.st, .int .i64 y.dp, .int .i64 y.dt, .int .i64 y.mp, .string (bs y.mi), .int .i64 y.sm] 95)).drew.heap.size) HX7.out rfl HBG.out (by rw [HVR.out]; exact HGR.out) HOW.out (by rw [HVR.out]; exact HAT.out) HBG.out.size)
                (try go_step3)
                go_wp2_with fail
                (try go_step3)
                (try simp only [Exit.jump])
                go_ret
                exact ⟨rfl, HFB.out, _, _, HFR.out, by simp⟩
            · have hrl := hr2 h0
              have h0i : ((o1 : Int) == 0) = false := by simp; omega
              by_cases hbad : o2 = false ∨ o1 ≤ last
              · have hO := g1 hrl h0 hbad
                subst hO
                have hcc : o2 = false ∨ (o2 = true ∧ o1 ≤ last) := by rcases hbad with h | h; exact .inl h; cases o2 <;> simp [h]
                clear hz g0 g1 g2 hr2 hbad h0
                rcases hcc with rfl | ⟨rfl, hle⟩
                · (try go_step3)
                  go_wp2_with fail
                  refine HCP.out.mono ?_
                  rintro e w6 ⟨rfl, hb6, hx6⟩
                  have HR7 := Stow.mk (HR6.out.keep hb6)
                  have HB7 : Stow (Below g w w6) := ⟨HB6.out.trans (hb6.mono (Nat.le_of_lt hsz1))⟩
                  clear hb6 hx6
                  (try go_step3)
                  go_wp2_with fail
                  (try go_step3)
                  (try simp only [Exit.jump])
                  go_ret
                  exact ⟨rfl, HB7.out, vr, R, HR7.out.more HR7.out.hN (Nat.le_refl _), by simp⟩
                · have hlei : (o1 : Int) ≤ last := by omega
                  (try go_step3)
                  go_wp2_with fail
                  refine HCP.out.mono ?_
                  rintro e w6 ⟨rfl, hb6, hx6⟩
                  have HR7 := Stow.mk (HR6.out.keep hb6)
                  have HB7 : Stow (Below g w w6) := ⟨HB6.out.trans (hb6.mono (Nat.le_of_lt hsz1))⟩
                  clear hb6 hx6
                  (try go_step3)
                  go_wp2_with fail
                  (try go_step3)
                  (try simp only [Exit.jump])
                  go_ret
                  exact ⟨rfl, HB7.out, vr, R, HR7.out.more HR7.out.hN (Nat.le_refl _), by simp⟩
              · have hO := g2 hrl h0 hbad
                have ho2 : o2 = true := by cases o2 with | true => rfl | false => exact absurd (.inl rfl) hbad
                have hlei : decide (o1 ≤ last) = false := by have : ¬ o1 ≤ last := fun h => hbad (.inr h); rw [decide_eq_false_iff_not]; exact this
                subst ho2
                have HO3 := Stow.mk hO.symm
                clear hz g0 g1 g2 hr2 hbad h0 hO
                (try go_step3)
                go_wp2_with fail
                refine HCP.out.mono ?_
                rintro e w6 ⟨rfl, hb6, hx6⟩
                have HR7 := Stow.mk (HR6.out.keep hb6)
                have HX7 := Stow.mk hx6
                have HB7 : Stow (Below g w w6) := ⟨HB6.out.trans (hb6.mono (Nat.le_of_lt hsz1))⟩
                have c1 := HR7.out.hd.cell (i := 1) rfl
                have f1 := HR7.out.hd.free 1
                have hr1 : (r : Int) + 1 ≤ 9223372036854775807 := by omega
                have HR8 : Stow (RdM bx (w6.setCell ⟨g, 1, none⟩ (.int .i64 ((r : Int) + 1))) g LA lc L (r + 1) vr R f) := ⟨HR7.out.at (r + 1)⟩
                have HMS : Stow (L.length - cellNat (w6.setCell ⟨g, 1, none⟩ (.int .i64 ((r : Int) + 1))) g < L.length - cellNat wr g) := ⟨by rw [cellNat_rd HR8.out, cellNat_rd HR6.out]; omega⟩
                clear hb6 hx6
                go_wp2_with fail
                (try go_step3)
                exact ⟨⟨r + 1, o1, o3, rfl, h4, by omega, by rw [HY4.out]; exact hyf, HR8, ⟨HX7.out.off hsz1⟩, ⟨HB7.out.setCell (p := ⟨g, 1, none⟩) (Nat.le_refl _) _⟩, HO3⟩, HMS.out⟩
      · have g_to : (la == [116, 111]) = false := by rw [beq_eq_false_iff_ne]; exact ht
        have hcp := rdPred_any HR3.out HX3.out (Nat.le_refl _) HL.out (HMl.out.keep HB3.out) (by have := HJ.out.few; omega)
        cases hpl : Cf.predL (L.getD q []) with
        | none =>
          rw [hpl] at hcp
          have hF := HPN.out ht hpl
          subst hF
          have hO2 := HO.out
          simp only [Bool.false_eq_true, if_false] at hO2
          subst hO2
          have HCP := Stow.mk hcp
          clear hcp hpl ht
          (try go_step3)
          go_wp2_with fail
          refine HCP.out.mono ?_
          rintro e w4 ⟨rfl, hb4, _⟩
          have HR4 := Stow.mk (HR3.out.keep hb4)
          have HB4 : Stow (Below g w w4) := ⟨(HJ.out.be.trans (HB3.out.mono (Nat.le_trans (Nat.le_of_lt HJ.out.rd.gN) HJ.out.rd.hN))).trans (hb4.mono (Nat.le_of_lt HJ.out.rd.gN))⟩
          clear hb4
          (try go_step3)
          go_wp2_with fail
          (try go_step3)
          (try simp only [Exit.jump])
          go_ret
          exact ⟨rfl, HB4.out, vr, R, HR4.out.more HR4.out.hN (Nat.le_refl _), by simp⟩
        | some p =>
          rw [hpl] at hcp
          have hq2 := HQS.out (.inr (by rw [hpl]; simp))
          have hF := HPS.out p hq2 ht hpl
          have HFF := Stow.mk hF
          have HCP := Stow.mk hcp
          clear hcp hpl ht hF
          (try go_step3)
          go_wp2_with fail
          refine HCP.out.mono ?_
          rintro e w4 ⟨rfl, hb4, vp4, hx4⟩
          have HR4 := Stow.mk (HR3.out.keep hb4)
          have HX4 := Stow.mk hx4
          have HB4 : Stow (Below g w w4) := ⟨(HJ.out.be.trans (HB3.out.mono (Nat.le_trans (Nat.le_of_lt HJ.out.rd.gN) HJ.out.rd.hN))).trans (hb4.mono (Nat.le_of_lt HJ.out.rd.gN))⟩
          have c1 := HR4.out.hd.cell (i := 1) rfl
          have f1 := HR4.out.hd.free 1
          have HJN : Stow (RuJ w (w4.setCell ⟨g, 1, none⟩ (.int .i64 ((q : Int) + 1))) g bx LA lc L vr R f F (q + 1) { x with ps := x.ps ++ [p] } vp4) := ⟨⟨HR4.out.at (q + 1), HX4.out.off HJ.out.rd.gN, HB4.out.setCell (p := ⟨g, 1, none⟩) (Nat.le_refl _) _, HFF.out.symm, by have := HJ.out.few; simp; omega, by omega⟩⟩
          have HMS : Stow (L.length - cellNat (w4.setCell ⟨g, 1, none⟩ (.int .i64 ((q : Int) + 1))) g < L.length - cellNat wl g) := ⟨by rw [cellNat_rd HJN.out.rd, cellNat_rd HJ.out.rd]; omega⟩
          clear hb4 hx4
          go_wp2_with fail
          (try go_step3)
          refine ⟨rfl, ?_⟩
          first | exact ruJ_mk HJN.out | exact ⟨ruJ_mk HJN.out, HMS.out⟩
    · intro a' wl hj0
      refine ruJ_elim (motive := fun a' => Code.wp _ _ _ a' wl) hj0 ?_
      clear hj0
      intro bx q x vp u1 u2 u3 u4 u5 u6 u8 u9 u10 u11 u12 u13 u14 u15 u16 u17 u18 u19 u20 u21 u22 u23 u24 u25 u26 u27 u28 u29 u30 u31 u32 u33 u34 u35 u36 u37 u38 u39 u40 u41 u42 u43 u44 u45 u46 u47 u48 u49 u50 u51 u52 u53 u54 u55 u56 u57 u58 u59 u60 u61 u62 u63 u64 u65 u66 u67 u68 u69 u70 u71 u72 u73 u74 u75 u76 u77 u78 u79 u80 u81 u82 u83 u84 u85 u86 u87 u88 u89 u90 u91 u92 u93 u94 u95 u96 u97 hj
      have HJ := Stow.mk hj
      clear hj
      have hqL := HJ.out.k
      have hsz1 : g < bx := HJ.out.rd.gN
      have hbxl := HJ.out.xu.lt
      have HMl := Stow.mk (HM.out.low HJ.out.be hg0)
      have HWq := Stow.mk (rdWord_any HJ.out.rd HL.out HMl.out)
      have hlen2 : (L.getD q []).length ≤ 4096 := by
        by_cases hk : q < L.length
        · rw [Cf.getD_at hk]; exact HL.out.2 _ (List.getElem_mem hk)
        · rw [Cf.getD_no hk]; simp
      have hLn := HL.out.1
      have hcl2 := Pg.cut_le (L.getD q [])
      have hqs : (Pg.cut (L.getD q [])).1 = Cf.wTo ∨ Cf.predL (L.getD q []) ≠ none → q < L.length := fun h => by
        refine Decidable.byContradiction fun hn => ?_
        rw [Cf.getD_no hn] at h
        rcases h with h | h
        · cases h
        · exact h rfl
      have hto := fun hq => Cf.preds_to (L := L) (q := q) (x := x) hq
      have hpn := Cf.preds_none (L := L) (q := q) (x := x)
      have hps := fun p hq => Cf.preds_some (L := L) (q := q) (x := x) (p := p) hq
      rw [HJ.out.left] at hto hpn hps
      have hsgl := fun (hk : q < L.length) (W : World) (hW : Below bx wl W) => rdSingle_any (HJ.out.rd.keep hW) hk _ rfl
      obtain ⟨la, hla⟩ : ∃ a, (Pg.cut (L.getD q [])).1 = a := ⟨_, rfl⟩
      obtain ⟨lb, hlb⟩ : ∃ b, (Pg.cut (L.getD q [])).2 = b := ⟨_, rfl⟩
      have hlb2 : lb.length ≤ 4096 := by rw [← hlb]; omega
      rw [hla] at HWq hqs hto hpn hps
      rw [hlb] at HWq hto hsgl
      have HTO := Stow.mk hto
      have HPN := Stow.mk hpn
      have HPS := Stow.mk hps
      have HSL := Stow.mk hsgl
      have HQS := Stow.mk hqs
      clear hla hlb hlen2 hcl2 hto hpn hps hsgl hqs
      (try go_step3)
      go_wp2_with fail
      refine HWq.out.mono ?_
      rintro e w3 ⟨rfl, hb3⟩
      have HB3 := Stow.mk hb3
      have HX3 := Stow.mk (HJ.out.xu.keep hb3)
      have HR3 := Stow.mk (HJ.out.rd.keep (hb3.mono HJ.out.rd.hN))
      clear hb3 HWq
      by_cases ht : la = Cf.wTo
      · have hq2 := HQS.out (.inl ht)
        have hF := HTO.out hq2 ht
        have g_to : (la == [116, 111]) = true := by rw [ht]; rfl
        have HSQ := Stow.mk (HSL.out hq2 w3 (HB3.out.mono HJ.out.rd.hN))
        obtain ⟨sg, hsg⟩ : ∃ s, Cf.single (L.getD q []) = s := ⟨_, rfl⟩
        rw [hsg] at HSQ hF
        clear hsg ht
        cases sg with
        | false =>
          simp only [Bool.false_eq_true, if_false] at hF
          subst hF
          have hO2 := HO.out
          simp only [Bool.false_eq_true, if_false] at hO2
          subst hO2
          (try go_step3)
          go_wp2_with fail
          refine HSQ.out.mono ?_
          rintro e w4 ⟨rfl, hb4⟩
          have HR4 := Stow.mk (HR3.out.keep (hb4.mono HR3.out.hN))
          have HB4 := Stow.mk (HJ.out.be.trans ((Below.call HB3.out hb4).mono (Nat.le_trans (Nat.le_of_lt HJ.out.rd.gN) HJ.out.rd.hN)))
          clear hb4
          (try go_step3)
          go_wp2_with fail
          (try go_step3)
          (try simp only [Exit.jump])
          go_ret
          exact ⟨rfl, HB4.out, vr, R, HR4.out.more HR4.out.hN (Nat.le_refl _), by simp⟩
        | true =>
          simp only [if_true] at hF
          subst hF
          have hO2 := HO.out
          simp only [if_true] at hO2
          have HO2 := Stow.mk hO2
          clear hO2
          (try go_step3)
          go_wp2_with fail
          refine HSQ.out.mono ?_
          rintro e w4 ⟨rfl, hb4⟩
          have HR4 := Stow.mk (HR3.out.keep (hb4.mono HR3.out.hN))
          have HX4 := Stow.mk (HX3.out.keep hb4)
          have HB4 := Stow.mk (HJ.out.be.trans ((Below.call HB3.out hb4).mono (Nat.le_trans (Nat.le_of_lt HJ.out.rd.gN) HJ.out.rd.hN)))
          clear hb4
          have c1 := HR4.out.hd.cell (i := 1) rfl
          have f1 := HR4.out.hd.free 1
          have c2 := HX4.out.hd.cell (i := 2) rfl
          have f2 := HX4.out.hd.free 2
          have hgb : g ≠ bx := by omega
          have hgb2 : (g == bx) = false := by simp; omega
          have hgb3 : (bx == g) = false := by simp; omega
          have hq1 : (q : Int) + 1 ≤ 9223372036854775807 := by omega
          have HR5 : Stow (RdM bx ((w4.setCell ⟨bx, 2, none⟩ (.string (bs lb))).setCell ⟨g, 1, none⟩ (.int .i64 ((q : Int) + 1))) g LA lc L (q + 1) vr R f) := ⟨(HR4.out.turn (Turn.setC w4 bx 2 _) (fun i hi e => by omega)).at (q + 1)⟩
          have HX5 : Stow (XuM ((w4.setCell ⟨bx, 2, none⟩ (.string (bs lb))).setCell ⟨g, 1, none⟩ (.int .i64 ((q : Int) + 1))) bx { x with tg := lb } vp) := ⟨(HX4.out.turned (x' := { x with tg := lb }) (Turn.setC w4 bx 2 _) (HX4.out.hd.set 2 (.string (bs lb))) rfl hlb2 HX4.out.mi).off hsz1⟩
          have HB5 : Stow (Below g w ((w4.setCell ⟨bx, 2, none⟩ (.string (bs lb))).setCell ⟨g, 1, none⟩ (.int .i64 ((q : Int) + 1)))) := ⟨(HB4.out.setCell (p := ⟨bx, 2, none⟩) (by show g ≤ bx; omega) _).setCell (p := ⟨g, 1, none⟩) (Nat.le_refl _) _⟩
          clear HR3 HX3 HB3 HTO HPN HPS HSL HQS HSQ HO HR4 HX4 HB4
          go_upto_region 16 with fail
          clear c1 f1 c2 f2
          obtain ⟨w5, hw5⟩ : ∃ W, (w4.setCell ⟨bx, 2, none⟩ (.string (bs lb))).setCell ⟨g, 1, none⟩ (.int .i64 ((q : Int) + 1)) = W := ⟨_, rfl⟩
          rw [hw5] at HR5 HX5 HB5 ⊢
          clear hw5
          have hq6 : q + 1 ≤ L.length := by omega
          have hfx : ({ x with tg := lb } : Ru).ps.length ≤ 5000 := by have := HJ.out.few; simp only; omega
          obtain ⟨x5, hx5⟩ : ∃ y, ({ x with tg := lb } : Ru) = y := ⟨_, rfl⟩
          rw [hx5] at HX5 HO2 hfx
          clear hx5
          go_wp2_with fail
          go_loopw [10] (fun lv wr => ∃ (r last : Nat) (y : Ru), lv = .int .i64 (last : Int) ∧ last ≤ 4 ∧ r ≤ L.length ∧ y.ps.length ≤ 5000 ∧ Stow (RdM bx wr g LA lc L r vr R f) ∧ Stow (XuM wr bx y vp) ∧ Stow (Below g w wr) ∧ Stow (Cf.optsR r (L.drop r) y last = O)) (fun _ wr => L.length - cellNat wr g)
          case atStart => exact ⟨q + 1, 0, x5, rfl, by omega, hq6, hfx, HR5, HX5, HB5, HO2⟩
          case round =>
            obtain ⟨r, last, y, rfl, hlast, hr, hyf, HR6, HX6, HB6, HG⟩ := hrel
            have hcp := rdOpt_any HR6.out HX6.out (Nat.le_refl _) HL.out (HM.out.low HB6.out hg0)
            have hz := Cf.opt_zero (x := y) (l := L.getD r [])
            have h4 := Cf.opt_four y (L.getD r [])
            have hy4 : (Cf.opt y (L.getD r [])).2.2.ps = y.ps := by
              by_cases e1 : (Pg.cut (L.getD r [])).1 = Cf.wAbort
              · rw [Cf.opt_1 e1]; exact (Cf.setA_cs y vp _).2.1
              by_cases e2 : (Pg.cut (L.getD r [])).1 = Cf.wDelay
              · rw [Cf.opt_2 e2]; exact (Cf.setD_cs y vp _).2.1
              by_cases e3 : (Pg.cut (L.getD r [])).1 = Cf.wMirror
              · rw [Cf.opt_3 e3]; cases (Cf.two (Pg.cut (L.getD r [])).2).isSome <;> rfl
              by_cases e4 : (Pg.cut (L.getD r [])).1 = Cf.wSample
              · rw [Cf.opt_4 e4]
              rw [Cf.opt_0 e1 e2 e3 e4]
            have hr2 : (Cf.opt y (L.getD r [])).1 ≠ 0 → r < L.length := fun h => by
              refine Decidable.byContradiction fun hn => ?_
              rw [Cf.getD_no hn] at h
              exact h rfl
            have g0 := Cf.opts_0 (L := L) (r := r) (last := last) (y := y)
            have g1 := fun hr => Cf.opts_no (L := L) (r := r) (last := last) (y := y) hr
            have g2 := fun hr => Cf.opts_go (L := L) (r := r) (last := last) (y := y) hr
            rw [HG.out] at g0 g1 g2
            obtain ⟨o, ho⟩ : ∃ o, Cf.opt y (L.getD r []) = o := ⟨_, rfl⟩
            rw [ho] at hcp hz h4 hy4 hr2 g0 g1 g2
            obtain ⟨o1, o2, o3⟩ := o
            simp only at hcp hz h4 hy4 hr2 g0 g1 g2
            have HCP := Stow.mk hcp
            have HY4 := Stow.mk hy4
            clear hcp ho HR5 HX5 HB5 HO2 hy4
            by_cases h0 : o1 = 0
            · have hz2 := hz h0
              simp only [Prod.mk.injEq] at hz2
              obtain ⟨rfl, rfl, hyo⟩ := hz2
              obtain rfl : y = o3 := hyo.symm
              clear HY4
              have hO := g0 rfl
              subst hO
              clear hz g0 g1 g2 hr2
              (try go_step3)
              go_wp2_with fail
              refine HCP.out.mono ?_
              rintro e w6 ⟨rfl, hb6, hx6⟩
              have HR7 := Stow.mk (HR6.out.keep hb6)
              have HX7 := Stow.mk hx6
              have HB7 : Stow (Below g w w6) := ⟨HB6.out.trans (hb6.mono (Nat.le_of_lt hsz1))⟩
              clear hb6 hx6
              go_upto_region 23 with fail
              obtain ⟨PA, pc, rfl⟩ := HX7.out.form
              obtain ⟨VA, vc, hvr⟩ := own_form HR7.out.row
              have HVR := Stow.mk hvr
              have p0 := HX7.out.hd.cell (i := 0) rfl
              have p1 := HX7.out.hd.cell (i := 1) rfl
              have p2 := HX7.out.hd.cell (i := 2) rfl
              have p3 := HX7.out.hd.cell (i := 3) rfl
              have p4 := HX7.out.hd.cell (i := 4) rfl
              have p5 := HX7.out.hd.cell (i := 5) rfl
              have p6 := HX7.out.hd.cell (i := 6) rfl
              have p7 := HX7.out.hd.cell (i := 7) rfl
              have p8 := HX7.out.hd.cell (i := 8) rfl
              have p9 := HX7.out.hd.cell (i := 9) rfl
              have c2 := HR7.out.hd.cell (i := 2) rfl
              rw [hvr] at c2
              have f2 := HR7.out.hd.free 2
              have hszw := HR7.out.hN
              have hge : (w6.heap.size == g) = false := by simp; omega
              have HD : Stow (Held (w6.alloc (.cells #[.int .i64 y.rank, .slice PA y.ps.length pc, .string (bs y.tg), .int .i64 y.ap, .int .i64 y.st, .int .i64 y.dp, .int .i64 y.dt, .int .i64 y.mp, .string (bs y.mi), .int .i64 y.sm] 95)).drew g [.slice LA L.length lc, .int .i64 (r : Int), vr, .string (bs f)]) := ⟨(HR7.out.hd.kept (Below.alloc' (Below.self w6) _)).drew⟩
              have c2a : (w6.alloc (.cells #[.int .i64 y.rank, .slice PA y.ps.length pc, .string (bs y.tg), .int .i64 y.ap, .int .i64 y.st, .int .i64 y.dp, .int .i64 y.dt, .int .i64 y.mp, .string (bs y.mi), .int .i64 y.sm] 95)).cell? ⟨g, 2, none⟩ = some (.slice VA R.length vc) := by
                have h := (HR7.out.hd.kept (Below.alloc' (Below.self w6) (.cells #[.int .i64 y.rank, .slice PA y.ps.length pc, .string (bs y.tg), .int .i64 y.ap, .int .i64 y.st, .int .i64 y.dp, .int .i64 y.dt, .int .i64 y.mp, .string (bs y.mi), .int .i64 y.sm] 95))).cell (i := 2) rfl
                rw [hvr] at h
                exact h
              have HO : Stow ((w6.alloc (.cells #[.int .i64 y.rank, .slice PA y.ps.length pc, .string (bs y.tg), .int .i64 y.ap, .int .i64 y.st, .int .i64 y.dp, .int .i64 y.dt, .int .i64 y.mp, .string (bs y.mi), .int .i64 y.sm] 95)).drew.ownsRow (g + 1) 95 10 (.slice VA R.length vc) R.length (R.flatMap Rm.cells)) := ⟨World.ownsRow.drew (World.ownsRow.alloc (by have := HR7.out.row; rw [hvr] at this; exact this) _)⟩
              have HXN : Stow (∀ i u, ([.int .i64 y.rank, .slice PA y.ps.length pc, .string (bs y.tg), .int .i64 y.ap, .int .i64 y.st, .int .i64 y.dp, .int .i64 y.dt, .int .i64 y.mp, .string (bs y.mi), .int .i64 y.sm] : List Value)[i]? = some u → (w6.alloc (.cells #[.int .i64 y.rank, .slice PA y.ps.length pc, .string (bs y.tg), .int .i64 y.ap, .int .i64 y.st, .int .i64 y.dp, .int .i64 y.dt, .int .i64 y.mp, .string (bs y.mi), .int .i64 y.sm] 95)).drew.cell? ((⟨w6.heap.size, 0, none⟩ : Addr).add i) = some u) := ⟨World.news_of_block (cs := #[.int .i64 y.rank, .slice PA y.ps.length pc, .string (bs y.tg), .int .i64 y.ap, .int .i64 y.st, .int .i64 y.dp, .int .i64 y.dt, .int .i64 y.mp, .string (bs y.mi), .int .i64 y.sm]) (heap_alloc_new w6 _)⟩
              have HX1 : Stow (∀ u ∈ ([.int .i64 y.rank, .slice PA y.ps.length pc, .string (bs y.tg), .int .i64 y.ap, .int .i64 y.st, .int .i64 y.dp, .int .i64 y.dt, .int .i64 y.mp, .string (bs y.mi), .int .i64 y.sm] : List Value), u.oneCell' = true) := ⟨fun u hu => Rm.one ⟨y, PA, pc⟩ u hu⟩
              have HN1 : Stow (R.length + 1 ≤ maxLen ∧ (R.length + 1) * 112 ≤ 140737488355328 ∧ g + 1 ≤ (w6.alloc (.cells #[.int .i64 y.rank, .slice PA y.ps.length pc, .string (bs y.tg), .int .i64 y.ap, .int .i64 y.st, .int .i64 y.dp, .int .i64 y.dt, .int .i64 y.mp, .string (bs y.mi), .int .i64 y.sm] 95)).drew.heap.size) := ⟨by unfold maxLen; omega, by omega, by simp; omega⟩
              have HBG : Stow (Below w6.heap.size w6 (w6.alloc (.cells #[.int .i64 y.rank, .slice PA y.ps.length pc, .string (bs y.tg), .int .i64 y.ap, .int .i64 y.st, .int .i64 y.dp, .int .i64 y.dt, .int .i64 y.mp, .string (bs y.mi), .int .i64 y.sm] 95)).drew) := ⟨Below.drew (Below.alloc' (Below.self w6) _)⟩
              have HBW : Stow (Below g w (w6.alloc (.cells #[.int .i64 y.rank, .slice PA y.ps.length pc, .string (bs y.tg), .int .i64 y.ap, .int .i64 y.st, .int .i64 y.dp, .int .i64 y.dt, .int .i64 y.mp, .string (bs y.mi), .int .i64 y.sm] 95)).drew) := ⟨(HB7.out.alloc (by omega) _).drew⟩
              obtain ⟨i0, hi, hz, hsz, hby⟩ := info_parts info_rule
              have HI := Stow.mk hi
              have HZ := Stow.mk hz
              have HSZ := Stow.mk hsz
              have HBY := Stow.mk hby
              clear hi hz hsz hby hvr
              go_region_law (refine step_append_lies _ rfl (.tmp 91) (.tmp 93) 44 rfl (g + 1) 95 i0 _ 10 112 Tryz.underlying44 HI.out HZ.out HSZ.out HBY.out rfl (by decide) _ R.length _ rfl HO.out ⟨w6.heap.size, 0, none⟩ 1 1 [.int .i64 y.rank, .slice PA y.ps.length pc, .string (bs y.tg), .int .i64 y.ap, .int .i64 y.st, .int .i64 y.dp, .int .i64 y.dt, .int .i64 y.mp, .string (bs y.mi), .int .i64 y.sm] rfl rfl HXN.out HX1.out (by decide) HN1.out.1 HN1.out.2.1 HN1.out.2.2 _ rfl ?_; intro g' cap' w' hown hgrow hat hlt'; have HOW := Stow.mk hown; have HGR := Stow.mk hgrow; have HAT := Stow.mk hat; have ha := held_grown HD.out hgrow (fun e => by have := (World.ownsRow.lt HO.out g e).1; omega); have c2' := ha.cell (i := 2) rfl; have f2' := ha.free 2; clear hown hgrow hat ha)
              all_goals
                have HFB : Stow (Below g w (w'.setCell ⟨g, 2, none⟩ (.slice (some ⟨g', 0, none⟩) (R.length + 1) cap'))) := ⟨(HBW.out.grown HGR.out (by simp; omega) (fun k hk => by have := (HO.out.lt k hk).1; omega)).setCell (p := ⟨g, 2, none⟩) (Nat.le_refl _) _⟩
                have HFR := Stow.mk (HR7.out.more_rule (n := R.length) (g' := g') (cap' := cap') (w' := w') (H := (w6.alloc (.cells #[.int .i64 y.rank, .slice PA y.ps.length pc, .string (bs y.tg), .int .i64 y.ap, .int .i64 y.st, .int .i64 y.dp, .int .i64 y.dt, .int .i64 y.mp, .string (bs y.mi), .int .i64 y.sm] 95)).drew.heap.size) HX7.out rfl HBG.out (by rw [HVR.out]; exact HGR.out) HOW.out (by rw [HVR.out]; exact HAT.out) HBG.out.size)
                (try go_step3)
                go_wp2_with fail
                (try go_step3)
                (try simp only [Exit.jump])
                go_ret
                exact ⟨rfl, HFB.out, _, _, HFR.out, by simp⟩
            · have hrl := hr2 h0
              have h0i : ((o1 : Int) == 0) = false := by simp; omega
              by_cases hbad : o2 = false ∨ o1 ≤ last
              · have hO := g1 hrl h0 hbad
                subst hO
                have hcc : o2 = false ∨ (o2 = true ∧ o1 ≤ last) := by rcases hbad with h | h; exact .inl h; cases o2 <;> simp [h]
                clear hz g0 g1 g2 hr2 hbad h0
                rcases hcc with rfl | ⟨rfl, hle⟩
                · (try go_step3)
                  go_wp2_with fail
                  refine HCP.out.mono ?_
                  rintro e w6 ⟨rfl, hb6, hx6⟩
                  have HR7 := Stow.mk (HR6.out.keep hb6)
                  have HB7 : Stow (Below g w w6) := ⟨HB6.out.trans (hb6.mono (Nat.le_of_lt hsz1))⟩
                  clear hb6 hx6
                  (try go_step3)
                  go_wp2_with fail
                  (try go_step3)
                  (try simp only [Exit.jump])
                  go_ret
                  exact ⟨rfl, HB7.out, vr, R, HR7.out.more HR7.out.hN (Nat.le_refl _), by simp⟩
                · have hlei : (o1 : Int) ≤ last := by omega
                  (try go_step3)
                  go_wp2_with fail
                  refine HCP.out.mono ?_
                  rintro e w6 ⟨rfl, hb6, hx6⟩
                  have HR7 := Stow.mk (HR6.out.keep hb6)
                  have HB7 : Stow (Below g w w6) := ⟨HB6.out.trans (hb6.mono (Nat.le_of_lt hsz1))⟩
                  clear hb6 hx6
                  (try go_step3)
                  go_wp2_with fail
                  (try go_step3)
                  (try simp only [Exit.jump])
                  go_ret
                  exact ⟨rfl, HB7.out, vr, R, HR7.out.more HR7.out.hN (Nat.le_refl _), by simp⟩
              · have hO := g2 hrl h0 hbad
                have ho2 : o2 = true := by cases o2 with | true => rfl | false => exact absurd (.inl rfl) hbad
                have hlei : decide (o1 ≤ last) = false := by have : ¬ o1 ≤ last := fun h => hbad (.inr h); rw [decide_eq_false_iff_not]; exact this
                subst ho2
                have HO3 := Stow.mk hO.symm
                clear hz g0 g1 g2 hr2 hbad h0 hO
                (try go_step3)
                go_wp2_with fail
                refine HCP.out.mono ?_
                rintro e w6 ⟨rfl, hb6, hx6⟩
                have HR7 := Stow.mk (HR6.out.keep hb6)
                have HX7 := Stow.mk hx6
                have HB7 : Stow (Below g w w6) := ⟨HB6.out.trans (hb6.mono (Nat.le_of_lt hsz1))⟩
                have c1 := HR7.out.hd.cell (i := 1) rfl
                have f1 := HR7.out.hd.free 1
                have hr1 : (r : Int) + 1 ≤ 9223372036854775807 := by omega
                have HR8 : Stow (RdM bx (w6.setCell ⟨g, 1, none⟩ (.int .i64 ((r : Int) + 1))) g LA lc L (r + 1) vr R f) := ⟨HR7.out.at (r + 1)⟩
                have HMS : Stow (L.length - cellNat (w6.setCell ⟨g, 1, none⟩ (.int .i64 ((r : Int) + 1))) g < L.length - cellNat wr g) := ⟨by rw [cellNat_rd HR8.out, cellNat_rd HR6.out]; omega⟩
                clear hb6 hx6
                go_wp2_with fail
                (try go_step3)
                exact ⟨⟨r + 1, o1, o3, rfl, h4, by omega, by rw [HY4.out]; exact hyf, HR8, ⟨HX7.out.off hsz1⟩, ⟨HB7.out.setCell (p := ⟨g, 1, none⟩) (Nat.le_refl _) _⟩, HO3⟩, HMS.out⟩
      · have g_to : (la == [116, 111]) = false := by rw [beq_eq_false_iff_ne]; exact ht
        have hcp := rdPred_any HR3.out HX3.out (Nat.le_refl _) HL.out (HMl.out.keep HB3.out) (by have := HJ.out.few; omega)
        cases hpl : Cf.predL (L.getD q []) with
        | none =>
          rw [hpl] at hcp
          have hF := HPN.out ht hpl
          subst hF
          have hO2 := HO.out
          simp only [Bool.false_eq_true, if_false] at hO2
          subst hO2
          have HCP := Stow.mk hcp
          clear hcp hpl ht
          (try go_step3)
          go_wp2_with fail
          refine HCP.out.mono ?_
          rintro e w4 ⟨rfl, hb4, _⟩
          have HR4 := Stow.mk (HR3.out.keep hb4)
          have HB4 : Stow (Below g w w4) := ⟨(HJ.out.be.trans (HB3.out.mono (Nat.le_trans (Nat.le_of_lt HJ.out.rd.gN) HJ.out.rd.hN))).trans (hb4.mono (Nat.le_of_lt HJ.out.rd.gN))⟩
          clear hb4
          (try go_step3)
          go_wp2_with fail
          (try go_step3)
          (try simp only [Exit.jump])
          go_ret
          exact ⟨rfl, HB4.out, vr, R, HR4.out.more HR4.out.hN (Nat.le_refl _), by simp⟩
        | some p =>
          rw [hpl] at hcp
          have hq2 := HQS.out (.inr (by rw [hpl]; simp))
          have hF := HPS.out p hq2 ht hpl
          have HFF := Stow.mk hF
          have HCP := Stow.mk hcp
          clear hcp hpl ht hF
          (try go_step3)
          go_wp2_with fail
          refine HCP.out.mono ?_
          rintro e w4 ⟨rfl, hb4, vp4, hx4⟩
          have HR4 := Stow.mk (HR3.out.keep hb4)
          have HX4 := Stow.mk hx4
          have HB4 : Stow (Below g w w4) := ⟨(HJ.out.be.trans (HB3.out.mono (Nat.le_trans (Nat.le_of_lt HJ.out.rd.gN) HJ.out.rd.hN))).trans (hb4.mono (Nat.le_of_lt HJ.out.rd.gN))⟩
          have c1 := HR4.out.hd.cell (i := 1) rfl
          have f1 := HR4.out.hd.free 1
          have HJN : Stow (RuJ w (w4.setCell ⟨g, 1, none⟩ (.int .i64 ((q : Int) + 1))) g bx LA lc L vr R f F (q + 1) { x with ps := x.ps ++ [p] } vp4) := ⟨⟨HR4.out.at (q + 1), HX4.out.off HJ.out.rd.gN, HB4.out.setCell (p := ⟨g, 1, none⟩) (Nat.le_refl _) _, HFF.out.symm, by have := HJ.out.few; simp; omega, by omega⟩⟩
          have HMS : Stow (L.length - cellNat (w4.setCell ⟨g, 1, none⟩ (.int .i64 ((q : Int) + 1))) g < L.length - cellNat wl g) := ⟨by rw [cellNat_rd HJN.out.rd, cellNat_rd HJ.out.rd]; omega⟩
          clear hb4 hx4
          go_wp2_with fail
          (try go_step3)
          refine ⟨rfl, ?_⟩
          first | exact ruJ_mk HJN.out | exact ⟨ruJ_mk HJN.out, HMS.out⟩
end Go.Proofs.YtfbhdkkmcfnghaaGreatDoor
