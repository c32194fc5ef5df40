/- A config's reader in memory. No condition. -/
import Derived.Test.YtfbhdkkmcfnghaaGreatDoorCfNum
import Derived.Test.YtfbhdkkmcfnghaaGreatDoorTsLib
import Derived.Test.YtfbhdkkmcfnghaaGreatDoorPgCut
namespace Go.Proofs.YtfbhdkkmcfnghaaGreatDoor
open Go.RowKit
set_option linter.unusedVariables false

theorem cutW_any (l : List UInt8) (w : World) (hl : l.length < 4294967281) (hm : MaxIs w) :
    Calls Tryz.prog 128 #[.string (bs l), .string ⟨#[32]⟩] w fun e w' => e = .returned (.tuple #[.string (bs (Pg.cut l).1), .string (bs (Pg.cut l).2), .bool (decide ((32 : UInt8) ∈ l))]) ∧ Below w.heap.size w w' := by
  obtain ⟨m, hm⟩ := hm
  have h := Tryz.strings_Cut (bs l) (bs [32]) m w (by rw [bs_size]; exact hl) hm
  have e := Pg.cut_lib l
  rw [show (bs l).data.toList = l from rfl, show (bs [32]).data.toList = [32] from rfl, e] at h
  refine h.mono ?_
  rintro e w' ⟨rfl, n, rfl⟩
  by_cases h61 : (32 : UInt8) ∈ l
  · simp only [if_pos h61]
    exact ⟨by rw [decide_eq_true h61]; rfl, Below.drewN' (Below.self _) _⟩
  · simp only [if_neg h61]
    have hc : Pg.cut l = (l, []) := Pg.cut_none fun b hb e => h61 (e ▸ hb)
    rw [hc]
    exact ⟨by rw [decide_eq_false h61]; rfl, Below.drewN' (Below.self _) _⟩
theorem Pg.cut_le (l : List UInt8) : (Pg.cut l).1.length ≤ l.length ∧ (Pg.cut l).2.length ≤ l.length := by
  rcases Pg.cut_back l with ⟨h1, h2⟩ | h
  · rw [h2]; exact ⟨by rw [← h1]; exact Nat.le_refl _, by simp⟩
  · have := congrArg List.length h
    simp only [List.length_append, List.length_cons] at this
    omega
theorem own_turn {w w' : World} {B : Nat} {e : TypeId} {c n : Nat} {v : Value} {xs : List Value} {F : Nat → Prop} (h : w.ownsRow B e c v n xs) (ht : Turn F w w') (hF : ∀ i, v.ownBlock = some i → ¬ F i) : w'.ownsRow B e c v n xs := by
  obtain ⟨h1, h2⟩ := h
  refine ⟨h1, ?_⟩
  rcases h2 with h2 | ⟨g, cap, cur, rfl, hb, hg, r⟩
  · exact .inl h2
  · have hlt : g < w.heap.size := by obtain ⟨hl, _⟩ := Array.getElem?_eq_some_iff.1 hg; exact hl
    exact .inr ⟨g, cap, cur, rfl, hb, (ht.block g hlt (hF g rfl)).trans hg, r⟩
theorem RmR.turn {w w' : World} {m : Rm} {F : Nat → Prop} (h : RmR w m) (ht : Turn F w w') (hF : ∀ ad, m.A = some ad → ¬ F ad.block) : RmR w' m :=
  ⟨slrTurn h.row ht hF, h.fits, h.tg, h.mi⟩
/-- A reader in block g: its lines, the next one's place, the rules so far and where they lie, the format; all of it lies in blocks below N. -/
structure RdM (N : Nat) (w : World) (g : Nat) (LA : Option Addr) (lc : Nat) (L : List (List UInt8)) (k : Nat) (vr : Value) (R : List Rm) (f : List UInt8) : Prop where
  hd : Held w g [.slice LA L.length lc, .int .i64 (k : Int), vr, .string (bs f)]
  ls : SlR w 1 (.slice LA L.length lc) (L.map fun l => [Value.string (bs l)])
  row : w.ownsRow (g + 1) 95 10 vr R.length (R.flatMap Rm.cells)
  each : ∀ m ∈ R, RmR w m
  lsA : ∀ ad, LA = some ad → ad.block < g
  eachA : ∀ m ∈ R, ∀ ad, m.A = some ad → g < ad.block ∧ ad.block < N ∧ vr.ownBlock ≠ some ad.block
  rowN : ∀ i, vr.ownBlock = some i → i < N
  gN : g < N
  hN : N ≤ w.heap.size
theorem RdM.turn {N : Nat} {w w' : World} {g : Nat} {LA : Option Addr} {lc : Nat} {L : List (List UInt8)} {k : Nat} {vr : Value} {R : List Rm} {f : List UInt8} {F : Nat → Prop} (h : RdM N w g LA lc L k vr R f) (ht : Turn F w w') (hF : ∀ i, i < N → ¬ F i) : RdM N w' g LA lc L k vr R f :=
  ⟨h.hd.turn ht (hF _ h.gN), slrTurn h.ls ht (fun ad ha => hF _ (Nat.lt_trans (h.lsA ad ha) h.gN)), own_turn h.row ht (fun i hi => hF i (h.rowN i hi)),
    fun m hm => (h.each m hm).turn ht (fun ad ha => hF _ (h.eachA m hm ad ha).2.1), h.lsA, h.eachA, h.rowN, h.gN, Nat.le_trans h.hN ht.size⟩
theorem Turn.of_below' {N : Nat} {w w' : World} (h : Below N w w') : Turn (fun i => N ≤ i) w w' := ⟨h.os, h.tape, h.output, h.size, fun k _ hn => h.block k (by omega)⟩
theorem RdM.keep {N : Nat} {w w' : World} {g : Nat} {LA : Option Addr} {lc : Nat} {L : List (List UInt8)} {k : Nat} {vr : Value} {R : List Rm} {f : List UInt8} (h : RdM N w g LA lc L k vr R f) (hb : Below N w w') : RdM N w' g LA lc L k vr R f :=
  h.turn (Turn.of_below' hb) (fun i hi hn => by omega)
theorem RdM.more {N N' : Nat} {w : World} {g : Nat} {LA : Option Addr} {lc : Nat} {L : List (List UInt8)} {k : Nat} {vr : Value} {R : List Rm} {f : List UInt8} (h : RdM N w g LA lc L k vr R f) (h1 : N ≤ N') (h2 : N' ≤ w.heap.size) : RdM N' w g LA lc L k vr R f :=
  ⟨h.hd, h.ls, h.row, h.each, h.lsA, fun m hm ad ha => ⟨(h.eachA m hm ad ha).1, Nat.lt_of_lt_of_le (h.eachA m hm ad ha).2.1 h1, (h.eachA m hm ad ha).2.2⟩, fun i hi => Nat.lt_of_lt_of_le (h.rowN i hi) h1, Nat.lt_of_lt_of_le h.gN h1, h2⟩
theorem Turn.setC (w : World) (g i : Nat) (v : Value) : Turn (fun k => k = g) w (w.setCell ⟨g, i, none⟩ v) := Turn.of_grown (Only.set g w i v) (.inl rfl)
/-- The next line's place is set. -/
theorem RdM.at {N : Nat} {w : World} {g : Nat} {LA : Option Addr} {lc : Nat} {L : List (List UInt8)} {k : Nat} {vr : Value} {R : List Rm} {f : List UInt8} (h : RdM N w g LA lc L k vr R f) (k' : Nat) : RdM N (w.setCell ⟨g, 1, none⟩ (.int .i64 (k' : Int))) g LA lc L k' vr R f := by
  have ht := Turn.setC w g 1 (.int .i64 (k' : Int))
  refine ⟨h.hd.set 1 _, slrTurn h.ls ht (fun ad ha e => ?_), own_turn h.row ht (fun i hi e => ?_), fun m hm => (h.each m hm).turn ht (fun ad ha e => ?_), h.lsA, h.eachA, h.rowN, h.gN, Nat.le_trans h.hN ht.size⟩
  · have := h.lsA ad ha; omega
  · have := (World.ownsRow.lt h.row i hi).1; omega
  · have := (h.eachA m hm ad ha).1; omega
/-- The format is set. -/
theorem RdM.fmt {N : Nat} {w : World} {g : Nat} {LA : Option Addr} {lc : Nat} {L : List (List UInt8)} {k : Nat} {vr : Value} {R : List Rm} {f : List UInt8} (h : RdM N w g LA lc L k vr R f) (f' : List UInt8) : RdM N (w.setCell ⟨g, 3, none⟩ (.string (bs f'))) g LA lc L k vr R f' := by
  have ht := Turn.setC w g 3 (.string (bs f'))
  refine ⟨h.hd.set 3 _, slrTurn h.ls ht (fun ad ha e => ?_), own_turn h.row ht (fun i hi e => ?_), fun m hm => (h.each m hm).turn ht (fun ad ha e => ?_), h.lsA, h.eachA, h.rowN, h.gN, Nat.le_trans h.hN ht.size⟩
  · have := h.lsA ad ha; omega
  · have := (World.ownsRow.lt h.row i hi).1; omega
  · have := (h.eachA m hm ad ha).1; omega
/-- The lines are few and short. -/
def LsOk (L : List (List UInt8)) : Prop := L.length ≤ 4097 ∧ ∀ l ∈ L, l.length ≤ 4096
theorem RdM.line {N : Nat} {w : World} {g : Nat} {LA : Option Addr} {lc : Nat} {L : List (List UInt8)} {k : Nat} {vr : Value} {R : List Rm} {f : List UInt8} (h : RdM N w g LA lc L k vr R f) (hk : k < L.length) : ∃ b off, LA = some ⟨b, off, none⟩ ∧ w.cell? ⟨b, off + k, none⟩ = some (.string (bs L[k])) := by
  obtain ⟨b, off, rfl, hb, hc⟩ := SlR.open h.ls (by rw [List.length_map]; omega)
  refine ⟨b, off, rfl, ?_⟩
  have := hc k [Value.string (bs L[k])] (by rw [List.getElem?_map, List.getElem?_eq_getElem hk]; rfl) 0 _ rfl
  simpa using this
theorem Cf.getD_at {L : List (List UInt8)} {k : Nat} (h : k < L.length) : L.getD k [] = L[k] := by simp [List.getD_eq_getElem?_getD, h]
theorem Cf.getD_no {L : List (List UInt8)} {k : Nat} (h : ¬ k < L.length) : L.getD k [] = [] := by simp [List.getD_eq_getElem?_getD, h]

set_option maxHeartbeats 1000000 in
set_option maxRecDepth 100000 in
theorem rdWord_any {N : Nat} {w : World} {g : Nat} {LA : Option Addr} {lc : Nat} {L : List (List UInt8)} {k : Nat} {vr : Value} {R : List Rm} {f : List UInt8} (h : RdM N w g LA lc L k vr R f) (hL : LsOk L) (hm : MaxIs w) :
    Calls Tryz.prog 121 #[.pointer (some ⟨g, 0, none⟩)] w fun e w' => e = .returned (.tuple #[.string (bs (Pg.cut (L.getD k [])).1), .string (bs (Pg.cut (L.getD k [])).2)]) ∧ Below w.heap.size w w' := by
  have a0 := h.hd.cell (i := 0) rfl
  have a1 := h.hd.cell (i := 1) rfl
  by_cases hk : k < L.length
  · obtain ⟨b, off, rfl, hc⟩ := h.line hk
    have hlen := hL.2 _ (List.getElem_mem hk)
    rw [Cf.getD_at hk]
    obtain ⟨l, hl⟩ : ∃ l, L[k] = l := ⟨_, rfl⟩
    rw [hl] at hc hlen ⊢
    obtain ⟨n, hn⟩ : ∃ n, L.length = n := ⟨_, rfl⟩
    rw [hn] at a0 hk
    have hki : ¬ (n : Int) ≤ k := by omega
    have hk0 : (0 : Int) ≤ k := by omega
    have hk1 : (k : Int) < n := by omega
    have HM := Stow.mk hm
    clear h hL hm hl hn
    go_enter Tryz.func121, Tryz.ntmps121
    go_upto_region 1 with fail
    go_quiet (fail)
    go_upto_region 3 with fail
    go_region_with (go_at_call 128; refine (cutW_any l _ (by omega) (HM.out.keep (Below.drewN' (Below.self w) _))).mono ?_; rintro e w1 ⟨rfl, hb1⟩; have HB1 := Stow.mk ((Below.drewN' (Below.self w) _).trans hb1); clear hb1)
    all_goals
      go_wp2_with fail
      go_ret2
      exact ⟨rfl, HB1.out⟩
  · rw [Cf.getD_no hk]
    obtain ⟨n, hn⟩ : ∃ n, L.length = n := ⟨_, rfl⟩
    rw [hn] at a0 hk
    have hki : (n : Int) ≤ k := by omega
    clear h hL hm hn
    go_enter Tryz.func121, Tryz.ntmps121
    go_upto_region 1 with fail
    go_quiet (fail)
    go_wp2_with fail
    go_ret2
    exact ⟨rfl, Below.drewN' (Below.self w) _⟩
end Go.Proofs.YtfbhdkkmcfnghaaGreatDoor
