/- Walk of flow's Run. Conditions: the frames' memory; the books' memory; lists not longer than a thousand; texts whose sums are no longer than a length may be. -/
import Derived.Test.YthbpcdoddcacdaaFlCall
namespace Go.Proofs.Ythbpcdoddcacdaa
open Go.RowKit
set_option linter.unusedVariables false

/-- A frame goes on: the frame and the books then, and the call that it asks. -/
def runF : Nat → Fr → Option Bk.St → Bool → Fr × Option Bk.St × Option Ox
  | 0, x, S, _ => (x, S, none)
  | f + 1, x, S, sh =>
    match x.ops[x.at_.toNat]? with
    | none => (x, S, none)
    | some o =>
      if o.k = 6 then ({ x with at_ := x.at_ + 1 }, S, some o)
      else runF f (doF { x with at_ := x.at_ + 1 } o S sh).1 (doF { x with at_ := x.at_ + 1 } o S sh).2 sh
def Fr.begun (x : Fr) : Fr := { x with at_ := max x.at_ 0 }
def runO (x : Fr) (S : Option Bk.St) (sh : Bool) : Fr × Option Bk.St × Option Ox := runF (x.ops.length - x.begun.at_.toNat) x.begun S sh
/-- Bounds that a run keeps to. -/
structure RunFits (m : Nat) (x : Fr) (S : Option Bk.St) : Prop where
  m0 : m ≤ 4611686018427387904
  ops : ∀ o ∈ x.ops, o.a.length ≤ m ∧ o.b.length ≤ m
  hs : ∀ h ∈ x.hs, h.2.length ≤ m
  b : x.b.length ≤ m
  body : x.body.length ≤ 1000
  vals : ∀ S0, S = some S0 → S0.Vals m
theorem doF_keeps (x : Fr) (o : Ox) (S : Option Bk.St) (sh : Bool) : (doF x o S sh).1.ops = x.ops ∧ (doF x o S sh).1.at_ = x.at_ ∧ (doF x o S sh).1.hs = x.hs ∧ (doF x o S sh).1.b = x.b ∧ ((doF x o S sh).1.body.length ≤ 200 ∨ (doF x o S sh).1.body = x.body) := by
  have ht : ∀ a b : Txt, (tk a b).length ≤ 200 := fun a b => by unfold tk; rw [List.length_take]; omega
  unfold doF
  repeat' split
  all_goals first
    | exact ⟨rfl, rfl, rfl, rfl, .inl (ht _ _)⟩
    | exact ⟨rfl, rfl, rfl, rfl, .inr rfl⟩
theorem Bk.put_vals {S : Bk.St} {m : Nat} (h : S.Vals m) (n : Int) (s : Bool) (k : Txt) {v : Txt} (hv : v.length ≤ m) : (S.put n s k v).1.Vals m := by
  unfold Bk.St.put
  split
  · split
    · exact h
    · intro n' s' p hp
      try dsimp only at hp
      split at hp
      · unfold Bk.put at hp
        rcases Bk.ins_mem.1 hp with rfl | hp
        · exact hv
        · exact h _ _ p (List.mem_filter.1 hp).1
      · exact h n' s' p hp
  · exact h
theorem Bk.get_vals {S : Bk.St} {m : Nat} (h : S.Vals m) (n : Int) (s : Bool) (k : Txt) : ((Bk.get (S.of n s) k).getD []).length ≤ m := by
  unfold Bk.get
  cases hf : (S.of n s).find? (fun p => p.1 == k) with
  | none => simp
  | some p =>
    have hm := List.mem_of_find?_eq_some hf
    unfold Bk.St.of at hm
    split at hm
    · exact h _ _ p hm
    · cases hm
theorem hdGet_le {L : List Hd} {m : Nat} (h : ∀ x ∈ L, x.2.length ≤ m) (n : Txt) : ((hdGet L n).getD []).length ≤ m := by
  unfold hdGet
  cases hf : L.find? (fun h => h.1 == n) with
  | none => simp
  | some x => exact h x (List.mem_of_find?_eq_some hf)
theorem RunFits.fits {m : Nat} {x : Fr} {S : Option Bk.St} (h : RunFits m x S) {o : Ox} (ho : o ∈ x.ops) (sh : Bool) : DoFits x o S sh := by
  have h0 := h.m0
  obtain ⟨ha, hb⟩ := h.ops o ho
  have hbd := h.body
  refine ⟨by omega, ?_, ?_, by have := h.b; omega, by unfold maxLen; omega, by unfold maxLen; omega⟩
  · have : (getO S x.node sh o.a).length ≤ m := by
      cases S with
      | none => simp [getO]
      | some S0 => exact Bk.get_vals (h.vals S0 rfl) _ _ _
    omega
  · have := hdGet_le (n := o.a) h.hs
    omega
theorem RunFits.next {m : Nat} {x : Fr} {S : Option Bk.St} (h : RunFits m x S) {o : Ox} (ho : o ∈ x.ops) (sh : Bool) : RunFits m (doF x o S sh).1 (doF x o S sh).2 := by
  obtain ⟨k1, k2, k3, k4, k5⟩ := doF_keeps x o S sh
  refine ⟨h.m0, by rw [k1]; exact h.ops, by rw [k3]; exact h.hs, by rw [k4]; exact h.b, ?_, fun S0 hS => ?_⟩
  · rcases k5 with h1 | h1
    · omega
    · rw [h1]; exact h.body
  · unfold doF at hS
    split at hS
    · exact h.vals S0 hS
    · split at hS
      · exact h.vals S0 hS
      · split at hS
        · unfold putO at hS
          cases S with
          | none => cases hS
          | some S1 =>
            cases hS
            exact Bk.put_vals (h.vals S1 rfl) _ _ _ (h.ops o ho).2
        · repeat' split at hS
          all_goals exact h.vals S0 hS
theorem RunFits.at_ {m : Nat} {x : Fr} {S : Option Bk.St} (h : RunFits m x S) (a : Int) : RunFits m { x with at_ := a } S := ⟨h.m0, h.ops, h.hs, h.b, h.body, h.vals⟩
/-- The cells of what a flow wants. -/
def wantc (k : Int) (m h p : Txt) (A : Option Addr) (n c : Nat) (b : Txt) (st : Int) (body : Txt) (f : Fm) : List Value :=
  [.int .i64 k, .string (bs m), .string (bs h), .string (bs p), .slice A n c, .string (bs b), .int .i64 st, .slice none 0 0, .string (bs body)] ++ f.cells
abbrev want0 : List Value := wantc 0 [] [] [] none 0 0 [] 0 [] fmz
theorem BkS.low {w : World} {bp : Option Addr} {F : Nat → Prop} {S : Option Bk.St} {c : Nat} (h : BkS w bp F S c) : BkS w bp (fun k => F k ∧ k < w.heap.size) S c :=
  h.imp id fun ⟨g, S0, h1, h2, h3⟩ => by
    obtain ⟨m, N, Do, blk, hn, hk⟩ := h3
    exact ⟨g, S0, h1, h2, m, N, Do, blk, hn, { hk with own := ⟨⟨hk.own.1, hk.head.lt⟩, ⟨hk.own.2.1, hk.outer.lt⟩, fun n s b hn hb => ⟨hk.own.2.2 n s b hn hb, (hk.inner n s b hn hb).lt⟩⟩ }⟩
/-- What a flow wants. -/
inductive Wn where
  | none
  | call (m h p : Txt) (hs : List Hd) (b : Txt)
  | done (st : Int) (body : Txt) (x : Fr)
def WantR (w : World) (wc : List Value) : Wn → Prop
  | .none => wc = want0
  | .call m h p hs b => ∃ A c, wc = wantc 1 m h p A hs.length c b 0 [] fmz ∧ SlR w 2 (.slice A hs.length c) (hs.map Hd.cells)
  | .done st body x => ∃ y : Fm, y.c = x ∧ wc = wantc 2 [] [] [] none 0 0 [] st body y ∧ FmR w y
/-- A flow runs: the frames, what is wanted, the books then. -/
def runE (P : List Fr) (r : Fr × Option Bk.St × Option Ox) : List Fr × Wn × Option Bk.St :=
  match r.2.2 with
  | some o => (P ++ [r.1], .call r.1.m o.a o.b (hdStrip r.1.hs) r.1.body, r.2.1)
  | none => (P, .done r.1.st r.1.body r.1, r.2.1)
def runL (C : List Fr) (S : Option Bk.St) (sh : Bool) : List Fr × Wn × Option Bk.St :=
  match C.getLast? with
  | none => ([], .none, S)
  | some x => runE C.dropLast (runO x S sh)
theorem runL_nil (S : Option Bk.St) (sh : Bool) : runL [] S sh = ([], .none, S) := rfl
theorem runL_end (C : List Fr) (x : Fr) (S : Option Bk.St) (sh : Bool) : runL (C ++ [x]) S sh = runE C (runO x S sh) := by simp [runL]
theorem slrTurn {w w' : World} {F : Nat → Prop} {c : Nat} {A : Option Addr} {n cap : Nat} {L : List (List Value)} (h : SlR w c (.slice A n cap) L) (ht : Turn F w w') (hF : ∀ ad, A = some ad → ¬ F ad.block) : SlR w' c (.slice A n cap) L := by
  obtain ⟨A', cap', hv, h1, h2, h3⟩ := h
  simp only [Value.slice.injEq] at hv
  obtain ⟨rfl, rfl, rfl⟩ := hv
  refine ⟨_, _, rfl, h1, h2, fun hL => ?_⟩
  obtain ⟨b, off, rfl, hlt, hc⟩ := h3 hL
  exact ⟨b, off, rfl, Nat.lt_of_lt_of_le hlt ht.size, fun i x hx j u hu => (World.cell?_of_block (w := w) (ht.block b hlt (hF _ rfl))).trans (hc i x hx j u hu)⟩
theorem FmR.turn {w w' : World} {F : Nat → Prop} {x : Fm} (h : FmR w x) (ht : Turn F w w') (hN : FmN (fun b => ¬ F b) x) : FmR w' x := ⟨slrTurn h.ops ht hN.1, slrTurn h.heads ht hN.2⟩
/-- A run under way: the frame at work is y, the books are S; f operations are left. -/
structure RunI (w W3 wr : World) (B g cap : Nat) (Q : List Fm) (x : Fm) (bp : Option Addr) (F0 : Nat → Prop) (sh : Bool) (c m : Nat) (r0 : Fr × Option Bk.St × Option Ox) (y : Fm) (F : Nat → Prop) (S : Option Bk.St) (a f cc : Nat) : Prop where
  like : x.Like y
  ft : FT wr B g cap Q y
  bk : BkS wr bp F S cc
  low : ∀ k, F k → (F0 k ∨ W3.heap.size ≤ k) ∧ k < wr.heap.size
  fits : RunFits m y.c S
  run : runF f y.c S sh = r0
  at_ : y.c.at_ = (a : Int)
  fuel : f = y.c.ops.length - a
  cnt : cc + f ≤ c + 1000
  turn : Turn (fun k => k < w.heap.size ∨ k = g) W3 wr
  old : Turn F0 w wr
theorem RunI.below {w W3 wr wr' : World} {B g cap : Nat} {Q : List Fm} {x : Fm} {bp : Option Addr} {F0 : Nat → Prop} {sh : Bool} {c m : Nat} {r0 : Fr × Option Bk.St × Option Ox} {y : Fm} {F : Nat → Prop} {S : Option Bk.St} {a f cc : Nat}
    (h : RunI w W3 wr B g cap Q x bp F0 sh c m r0 y F S a f cc) (hb : Below wr.heap.size wr wr') : RunI w W3 wr' B g cap Q x bp F0 sh c m r0 y F S a f cc :=
  ⟨h.like, h.ft.keep hb, h.bk.keep hb, fun k hk => ⟨(h.low k hk).1, Nat.lt_of_lt_of_le (h.low k hk).2 hb.size⟩, h.fits, h.run, h.at_, h.fuel, h.cnt, h.turn.trans (Turn.of_below hb) fun k hk => .inl hk, h.old.trans (Turn.of_below hb) fun k hk => .inl hk⟩
theorem runF_step {f : Nat} {x : Fr} {S : Option Bk.St} {sh : Bool} {a : Nat} {o : Ox} (ha : x.at_ = (a : Int)) (hal : a < x.ops.length) (ho : x.ops[a] = o) :
    runF (f + 1) x S sh = if o.k = 6 then ({ x with at_ := x.at_ + 1 }, S, some o) else runF f (doF { x with at_ := x.at_ + 1 } o S sh).1 (doF { x with at_ := x.at_ + 1 } o S sh).2 sh := by
  have h1 : x.ops[x.at_.toNat]? = some o := by rw [ha, Int.toNat_natCast, List.getElem?_eq_getElem hal, ho]
  conv => lhs; unfold runF
  rw [h1]
theorem runF_stop {f : Nat} {x : Fr} {S : Option Bk.St} {sh : Bool} {a : Nat} (ha : x.at_ = (a : Int)) (hal : ¬ a < x.ops.length) : runF f x S sh = (x, S, none) := by
  cases f with
  | zero => rfl
  | succ f =>
    have h1 : x.ops[x.at_.toNat]? = none := by rw [ha, Int.toNat_natCast, List.getElem?_eq_none (by omega)]
    unfold runF
    rw [h1]
theorem Fm.Like.trans {x y z : Fm} (h : x.Like y) (k : y.Like z) : x.Like z := ⟨k.oa.trans h.oa, k.oc.trans h.oc, k.ha.trans h.ha, k.hc.trans h.hc, k.ops.trans h.ops, k.hs.trans h.hs⟩
/-- The frame one operation on. -/
def Fm.on (y : Fm) (a : Nat) : Fm := { y with c := { y.c with at_ := (a : Int) + 1 } }
/-- An operation that is no call was done. -/
theorem RunI.did {w W3 wr w' : World} {B g cap : Nat} {Q : List Fm} {x : Fm} {bp : Option Addr} {F0 : Nat → Prop} {sh : Bool} {c m : Nat} {r0 : Fr × Option Bk.St × Option Ox} {y : Fm} {F : Nat → Prop} {S : Option Bk.St} {a f cc : Nat}
    (h : RunI w W3 wr B g cap Q x bp F0 sh c m r0 y F S a f cc) (hF0 : ∀ k, F0 k → k < w.heap.size) (hwg : w.heap.size ≤ g) (hw3 : w.heap.size ≤ W3.heap.size) {W7 : World} (ht7 : Only g wr W7) {o : Ox} (hal : a < y.c.ops.length) (ho : y.c.ops[a] = o) (h6 : o.k ≠ 6) {F' : Nat → Prop} {z : Fm}
    (hz : z.c = (doF (y.on a).c o S sh).1) (hlk : (y.on a).Like z) (hft : FT w' B g cap Q z) (hbk : BkS w' bp F' (doF (y.on a).c o S sh).2 (cc + 1)) (hF' : ∀ k, F' k → F k ∨ W7.heap.size ≤ k) (ht : Turn (fun k => F k ∨ k = g) W7 w') :
    RunI w W3 w' B g cap Q x bp F0 sh c m r0 z (fun k => F' k ∧ k < w'.heap.size) (doF (y.on a).c o S sh).2 (a + 1) (f - 1) (cc + 1) := by
  obtain ⟨k1, k2, k3, k4, k5⟩ := doF_keeps (y.on a).c o S sh
  have hs7 := ht7.size
  have hfu := h.fuel
  have hcn := h.cnt
  have ha := h.at_
  have hto := h.turn.size
  obtain ⟨f', rfl⟩ : ∃ f', f = f' + 1 := ⟨f - 1, by omega⟩
  have heq : ({ y.c with at_ := y.c.at_ + 1 } : Fr) = (y.on a).c := by unfold Fm.on; rw [ha]
  refine ⟨(h.like.trans (show y.Like (y.on a) from ⟨rfl, rfl, rfl, rfl, rfl, rfl⟩)).trans hlk, hft, hbk.low, fun k hk => ⟨?_, hk.2⟩, ?_, ?_, ?_, ?_, ?_, ?_, ?_⟩
  · rcases hF' k hk.1 with h1 | h1
    · exact (h.low k h1).1
    · exact .inr (by omega)
  · rw [hz]
    have h1 := (h.fits.at_ ((a : Int) + 1)).next (o := o) (by rw [← ho]; exact List.getElem_mem hal) sh
    exact h1
  · rw [← h.run, runF_step ha hal ho, if_neg h6, heq, hz]
    rfl
  · rw [hz, k2]; show (a : Int) + 1 = ((a + 1 : Nat) : Int); simp
  · rw [hz, k1]
    show f' + 1 - 1 = y.c.ops.length - (a + 1)
    omega
  · omega
  · refine (h.turn.trans (Turn.of_grown (F := fun k => k < w.heap.size ∨ k = g) ht7 (.inl (.inr rfl))) fun k hk => .inl hk).trans ht fun k hk => ?_
    rcases hk with hk | hk
    · rcases (h.low k hk).1 with h1 | h1
      · exact .inl (.inl (hF0 k h1))
      · exact .inr h1
    · exact .inl (.inr hk)
  · refine (h.old.trans (Turn.of_grown (F := fun k => k = g) ht7 (.inl rfl)) fun k hk => .inr (by omega)).trans ht fun k hk => ?_
    rcases hk with hk | hk
    · rcases (h.low k hk).1 with h1 | h1
      · exact .inl h1
      · exact .inr (by omega)
    · exact .inr (by omega)
theorem wantc_len (k : Int) (m h p : Txt) (A : Option Addr) (n c : Nat) (b : Txt) (st : Int) (body : Txt) (f : Fm) : (wantc k m h p A n c b st body f).length = 22 := rfl
theorem wantc_one (k : Int) (m h p : Txt) (A : Option Addr) (n c : Nat) (b : Txt) (st : Int) (body : Txt) (f : Fm) : ∀ u ∈ wantc k m h p A n c b st body f, u.oneCell' = true := by
  intro u hu
  unfold wantc at hu
  rcases List.mem_append.1 hu with hu | hu
  · simp at hu
    rcases hu with rfl | rfl | rfl | rfl | rfl | rfl | rfl | rfl | rfl <;> rfl
  · exact Fm.one f u hu
theorem flrun_results (W : World) (g g' : Nat) (cs cs' : List Value) (tmps : Array Value) (hH : Held W g cs) (hH' : Held W g' cs') (hl : cs.length = 2) (hl' : cs'.length = 22)
    (h6 : tmps[6]?.getD undef = .pointer (some ⟨g, 0, none⟩)) (h7 : tmps[7]?.getD undef = .pointer (some ⟨g', 0, none⟩)) :
    (results Try.f58 tmps).run Try.prog W = .ok (.tuple #[.agg cs.toArray, .agg cs'.toArray]) W := by
  obtain ⟨t, hg⟩ := hH
  obtain ⟨t', hg'⟩ := hH'
  have hi : (Try.prog.info? 24).map (·.size) = some cs.toArray.size := by rw [List.size_toArray, hl]; kernel_rfl
  have hi' : (Try.prog.info? 98).map (·.size) = some cs'.toArray.size := by rw [List.size_toArray, hl']; kernel_rfl
  have r1 := run_loadVar_row (P := Try.prog) W g t 24 cs.toArray (0, 0) _ hg Try.underlying24 rfl hi
  have r2 := run_loadVar_row (P := Try.prog) W g' t' 98 cs'.toArray (0, 0) _ hg' Try.underlying98 rfl hi'
  simp [results, h6, h7, asAddr, r1, r2]
theorem RunI.drop {w W3 wr W' : World} {B g cap : Nat} {Q : List Fm} {x : Fm} {bp : Option Addr} {F0 : Nat → Prop} {sh : Bool} {c m : Nat} {r0 : Fr × Option Bk.St × Option Ox} {y : Fm} {F : Nat → Prop} {S : Option Bk.St} {a f cc : Nat}
    (h : RunI w W3 wr B g cap Q x bp F0 sh c m r0 y F S a f cc) {E : Nat → Prop} (ht : Turn E wr W') (hE : ∀ k, E k → w.heap.size ≤ k ∧ k < W3.heap.size) (hF0 : ∀ k, F0 k → k < w.heap.size) (hw3 : w.heap.size ≤ W3.heap.size) :
    BkS W' bp F S (c + 1001) ∧ (∀ k, F k → F0 k ∨ w.heap.size ≤ k) ∧ Turn F0 w W' := by
  refine ⟨(h.bk.turn ht fun k hk he => ?_).mono (by have := h.cnt; omega), fun k hk => ?_, h.old.trans ht fun k hk => .inr (hE k hk).1⟩
  · have := hE k he
    rcases (h.low k hk).1 with h1 | h1
    · have := hF0 k h1; omega
    · omega
  · rcases (h.low k hk).1 with h1 | h1
    · exact .inl h1
    · exact .inr (by omega)
/-- What is wanted, its lists from some block on. -/
def WR (D : Nat) (w : World) (wc : List Value) : Wn → Prop
  | .none => wc = want0
  | .call m h p hs b => ∃ A c, wc = wantc 1 m h p A hs.length c b 0 [] fmz ∧ SlR w 2 (.slice A hs.length c) (hs.map Hd.cells) ∧ ∀ ad, A = some ad → D ≤ ad.block
  | .done st body x => ∃ y : Fm, y.c = x ∧ wc = wantc 2 [] [] [] none 0 0 [] st body y ∧ FmR w y ∧ FmN (fun b => D ≤ b) y
theorem WR.only {D j : Nat} {w w' : World} {wc : List Value} {o : Wn} (h : WR D w wc o) (ho : Only j w w') (hj : j < D) : WR D w' wc o := by
  cases o with
  | none => exact h
  | call m h' p hs b =>
    obtain ⟨A, c, h1, h2, h3⟩ := h
    exact ⟨A, c, h1, slr_only h2 ho fun ad e => by have := h3 ad e; omega, h3⟩
  | done st body x =>
    obtain ⟨y, h1, h2, h3, h4⟩ := h
    exact ⟨y, h1, h2, h3.only ho (h4.mono fun b hb => by omega), h4⟩
theorem WR.keep {D : Nat} {w w' : World} {wc : List Value} {o : Wn} (h : WR D w wc o) (hb : Below w.heap.size w w') : WR D w' wc o := by
  cases o with
  | none => exact h
  | call m h' p hs b =>
    obtain ⟨A, c, h1, h2, h3⟩ := h
    exact ⟨A, c, h1, h2.keep hb, h3⟩
  | done st body x =>
    obtain ⟨y, h1, h2, h3, h4⟩ := h
    exact ⟨y, h1, h2, h3.keep hb, h4⟩
theorem WR.want {D : Nat} {w : World} {wc : List Value} {o : Wn} (h : WR D w wc o) : WantR w wc o := by
  cases o with
  | none => exact h
  | call m h' p hs b =>
    obtain ⟨A, c, h1, h2, h3⟩ := h
    exact ⟨A, c, h1, h2⟩
  | done st body x =>
    obtain ⟨y, h1, h2, h3, h4⟩ := h
    exact ⟨y, h1, h2, h3⟩
theorem WR.mono {D D' : Nat} {w : World} {wc : List Value} {o : Wn} (h : WR D w wc o) (hD : D' ≤ D) : WR D' w wc o := by
  cases o with
  | none => exact h
  | call m h' p hs b =>
    obtain ⟨A, c, h1, h2, h3⟩ := h
    exact ⟨A, c, h1, h2, fun ad e => Nat.le_trans hD (h3 ad e)⟩
  | done st body x =>
    obtain ⟨y, h1, h2, h3, h4⟩ := h
    exact ⟨y, h1, h2, h3, h4.mono fun b hb => Nat.le_trans hD hb⟩
end Go.Proofs.Ythbpcdoddcacdaa
