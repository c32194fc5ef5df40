/- Walk of flow's do: an operation that is no call. Conditions: the frame's row is the call's own; the books' memory; texts whose sums are no longer than a length may be. -/
import Derived.Test.YthbpcdoddcacdaaFlBk
import Derived.Test.YthbpcdoddcacdaaHead
namespace Go.Proofs.Ythbpcdoddcacdaa
open Go.RowKit
set_option linter.unusedVariables false

def tparent : Txt := [116, 114, 97, 99, 101, 112, 97, 114, 101, 110, 116]
def tstatel : Txt := [116, 114, 97, 99, 101, 115, 116, 97, 116, 101]
def tracedB (s : Txt) : Bool := (s == tparent) || (s == tstatel)
/-- What an operation that is no call does to a frame, and to books. -/
def doF (x : Fr) (o : Ox) (S : Option Bk.St) (sh : Bool) : Fr × Option Bk.St :=
  if o.k = 1 then ({ x with body := tk x.body o.a }, S)
  else if o.k = 2 then ({ x with body := tk x.body (getO S x.node sh o.a) }, S)
  else if o.k = 3 then (x, putO S x.node sh o.a o.b)
  else if o.k = 4 then (if tracedB o.a then x else { x with body := tk x.body ((hdGet x.hs o.a).getD []) }, S)
  else if o.k = 5 then ({ x with body := tk x.body x.b }, S)
  else if o.k = 7 then ({ x with st := o.n }, S)
  else (x, S)
/-- Sums of lengths that an operation may come to. -/
structure DoFits (x : Fr) (o : Ox) (S : Option Bk.St) (sh : Bool) : Prop where
  say : x.body.length + o.a.length ≤ 9223372036854775807
  get : x.body.length + (getO S x.node sh o.a).length ≤ 9223372036854775807
  head : x.body.length + ((hdGet x.hs o.a).getD []).length ≤ 9223372036854775807
  body : x.body.length + x.b.length ≤ 9223372036854775807
  a : o.a.length ≤ maxLen
  b : o.b.length ≤ maxLen
set_option maxHeartbeats 1000000 in
set_option maxRecDepth 100000 in
theorem traced_any (s : Txt) (w : World) : Calls Try.prog 114 #[.string (bs s)] w fun e w' => e = .returned (.bool (tracedB s)) ∧ w' = w := by
  obtain ⟨p, hp⟩ : ∃ p, (s == tparent) = p := ⟨_, rfl⟩
  obtain ⟨q, hq⟩ : ∃ q, (s == tstatel) = q := ⟨_, rfl⟩
  have HT := Stow.mk (show tracedB s = (p || q) by unfold tracedB; rw [hp, hq])
  unfold tparent at hp
  unfold tstatel at hq
  cases p <;> cases q
  all_goals
    go_enter Try.func114, Try.ntmps114
    go_wp2_with fail
    go_ret
    exact ⟨by rw [HT.out]; first | rfl | simp_all, rfl⟩
theorem FT.turn {w w' : World} {B g cap : Nat} {Q : List Fm} {x : Fm} {F : Nat → Prop} (h : FT w B g cap Q x) (ht : Turn F w w') (hg : ¬ F g) : FT w' B g cap Q x := by
  have hl := h.lt.2
  refine ⟨h.1, ?_⟩
  rcases h.2 with ⟨hv, _⟩ | ⟨g', cap', cur, hv, hb, hgb, r⟩
  · simp at hv
  · simp only [Value.slice.injEq, Option.some.injEq, Addr.mk.injEq, and_true, true_and] at hv
    obtain ⟨rfl, rfl⟩ := hv
    exact .inr ⟨g, cap, cur, rfl, hb, (ht.block g hl hg).trans hgb, r⟩
set_option maxHeartbeats 2000000 in
set_option maxRecDepth 100000 in
theorem flDo_any (w : World) (B g cap : Nat) (Q : List Fm) (x : Fm) (o : Ox) (bp : Option Addr) (F : Nat → Prop) (S : Option Bk.St) (c : Nat) (sh : Bool)
    (h : FT w B g cap Q x) (hR : FmR w x) (hbk : BkS w bp F S c) (hFg : ¬ F g) (hFl : ∀ k, F k → k < w.heap.size) (hc : c < 1000000) (hfit : DoFits x.c o S sh) :
    Calls Try.prog 93 #[.pointer (some ⟨g, Q.length * 13, none⟩), .agg #[.int .i64 o.k, .string (bs o.a), .string (bs o.b), .int .i64 o.n], .pointer bp, .bool sh] w fun e w' => e = .returned (.tuple #[]) ∧
      ∃ F' x', x'.c = (doF x.c o S sh).1 ∧ x.Like x' ∧ FT w' B g cap Q x' ∧ BkS w' bp F' (doF x.c o S sh).2 (c + 1) ∧ (∀ k, F' k → F k ∨ w.heap.size ≤ k) ∧ ¬ F' g ∧ Turn (fun k => F k ∨ k = g) w w' := by
  have ba := Below.alloc' (Below.self w) (.cells #[.int .i64 o.k, .string (bs o.a), .string (bs o.b), .int .i64 o.n] 106)
  have HX := Stow.mk (Held.made w [.int .i64 o.k, .string (bs o.a), .string (bs o.b), .int .i64 o.n] 106)
  have HT := Stow.mk (h.keep ba)
  have HFR := Stow.mk (hR.keep ba)
  have HBK := Stow.mk (hbk.keep ba)
  have HTU := Stow.mk (Turn.of_below (F := fun k => F k ∨ k = g) ba)
  have hgl := h.lt.2
  obtain ⟨W0, hW0⟩ : ∃ W, w.alloc (.cells #[.int .i64 o.k, .string (bs o.a), .string (bs o.b), .int .i64 o.n] 106) = W := ⟨_, rfl⟩
  rw [show w.alloc (.cells [.int .i64 o.k, .string (bs o.a), .string (bs o.b), .int .i64 o.n].toArray 106) = W0 from hW0] at HX
  rw [hW0] at HT HFR HBK HTU
  have hs0 : W0.heap.size = w.heap.size + 1 := by rw [← hW0]; simp
  clear h hR hbk ba
  obtain ⟨k, a, b, n⟩ := o
  obtain ⟨l1, l2, l3, l4, l5, l6⟩ := hfit
  simp only at l1 l2 l3 l4 l5 l6 HX hW0 ⊢
  have HGT := Stow.mk hs0
  have q0 := HX.out.cell (i := 0) rfl
  have q1 := HX.out.cell (i := 1) rfl
  have q2 := HX.out.cell (i := 2) rfl
  have q3 := HX.out.cell (i := 3) rfl
  clear hs0
  by_cases k1 : k = 1
  · subst k1
    have HD := Stow.mk (show doF x.c ⟨1, a, b, n⟩ S sh = ((x.takes a).c, S) from rfl)
    go_enter Try.func93, Try.ntmps93
    go_wp2_with fail
    refine (takes_any _ B g cap Q x a HT.out l1).mono ?_
    rintro e w9 ⟨rfl, hF9, hO9⟩
    have HB9 := Stow.mk (HBK.out.turn (Turn.of_grown (F := fun k => k = g) hO9 (.inl rfl)) fun k hk e => hFg (e ▸ hk))
    have HT9 := Stow.mk hF9
    have HU9 := Stow.mk (HTU.out.trans (Turn.of_grown (F := fun k => F k ∨ k = g) hO9 (.inl (.inr rfl))) fun k hk => .inl hk)
    clear hF9 hO9
    go_wp2_with fail
    first | go_end0 | (simp only [Exit.inBlock, Exit.then]; refine bodyPost_ret (results_none rfl _ _ _) rfl ?_) | refine bodyPost_ret (results_none rfl _ _ _) rfl ?_
    rw [HD.out]
    exact ⟨rfl, F, x.takes a, rfl, ⟨rfl, rfl, rfl, rfl, rfl, rfl⟩, HT9.out, HB9.out.mono (Nat.le_succ c), fun k hk => .inl hk, hFg, HU9.out⟩
  have k1' : (k == 1) = false := by simpa using k1
  by_cases k2 : k = 2
  · subst k2
    have HD := Stow.mk (show doF x.c ⟨2, a, b, n⟩ S sh = ((x.takes (getO S x.c.node sh a)).c, S) from rfl)
    have c0 := HT.out.cell (j := 0) (v := .int .i64 x.c.node) rfl
    rw [Nat.add_zero] at c0
    clear k1 k1'
    go_enter Try.func93, Try.ntmps93
    go_upto_region 5 with fail
    clear hW0
    have HG := Stow.mk (bkGetO W0.drew bp F S c x.c.node sh a (HBK.out.keep (Below.drew (Below.self W0))) l5)
    obtain ⟨got, hgot⟩ : ∃ z, getO S x.c.node sh a = z := ⟨_, rfl⟩
    obtain ⟨has, hhas⟩ : ∃ z, hasO S x.c.node sh a = z := ⟨_, rfl⟩
    rw [hgot, hhas] at HG
    rw [hgot] at HD l2
    clear hgot hhas
    go_region_held3 (fun w' => w'.cell? ⟨g, Q.length * 13, none⟩ = some (.int .i64 x.c.node) ∧ w'.cell? ⟨w.heap.size, 1, none⟩ = some (.string (bs a))) (first | go_keep | exact hkk)
      (first
        | (go_at_call 52; refine HG.out.mono ?_; rintro e w6 ⟨rfl, hb6⟩; have HB6 := Stow.mk ((Below.drew (Below.self W0)).trans hb6); have hkk := And.intro ((HB6.out.cell (p := ⟨g, Q.length * 13, none⟩) HT.out.lt.2).trans c0) ((HX.out.kept HB6.out).cell (i := 1) rfl)))
    have HT := Stow.mk (HT.out.keep HB6.out)
    have HBK := Stow.mk (HBK.out.keep HB6.out)
    have HTU := Stow.mk (HTU.out.trans (Turn.of_below (F := fun k => F k ∨ k = g) HB6.out) fun k hk => .inl hk)
    clear hkk hb6 c0 q0 q1 q2 q3
    go_wp2_with fail
    refine (takes_any _ B g cap Q x got HT.out l2).mono ?_
    rintro e w9 ⟨rfl, hF9, hO9⟩
    have HB9 := Stow.mk (HBK.out.turn (Turn.of_grown (F := fun k => k = g) hO9 (.inl rfl)) fun k hk e => hFg (e ▸ hk))
    have HT9 := Stow.mk hF9
    have HU9 := Stow.mk (HTU.out.trans (Turn.of_grown (F := fun k => F k ∨ k = g) hO9 (.inl (.inr rfl))) fun k hk => .inl hk)
    clear hF9 hO9
    go_wp2_with fail
    first | go_end0 | (simp only [Exit.inBlock, Exit.then]; refine bodyPost_ret (results_none rfl _ _ _) rfl ?_) | refine bodyPost_ret (results_none rfl _ _ _) rfl ?_
    rw [HD.out]
    exact ⟨rfl, F, x.takes got, rfl, ⟨rfl, rfl, rfl, rfl, rfl, rfl⟩, HT9.out, HB9.out.mono (Nat.le_succ c), fun k hk => .inl hk, hFg, HU9.out⟩
  have k2' : (k == 2) = false := by simpa using k2
  by_cases k3 : k = 3
  · subst k3
    have HD := Stow.mk (show doF x.c ⟨3, a, b, n⟩ S sh = (x.c, putO S x.c.node sh a b) from rfl)
    have c0 := HT.out.cell (j := 0) (v := .int .i64 x.c.node) rfl
    rw [Nat.add_zero] at c0
    clear k1 k1' k2 k2'
    go_enter Try.func93, Try.ntmps93
    go_upto_region 8 with fail
    clear hW0
    have HG := Stow.mk (bkPutO W0.drew bp F S c x.c.node sh a b (HBK.out.keep (Below.drew (Below.self W0))) hc l5 l6)
    have HFX := Stow.mk (show ¬ F w.heap.size from fun hf => Nat.lt_irrefl _ (hFl _ hf))
    have HKT := Stow.mk (fun (W : World) (ht : Turn F W0 W) => show W.cell? ⟨g, Q.length * 13, none⟩ = some (.int .i64 x.c.node) from (World.cell?_of_block (w := W0) (ht.block g HT.out.lt.2 hFg)).trans c0)
    go_region_held3 (fun w' => w'.cell? ⟨g, Q.length * 13, none⟩ = some (.int .i64 x.c.node) ∧ w'.cell? ⟨w.heap.size, 1, none⟩ = some (.string (bs a)) ∧ w'.cell? ⟨w.heap.size, 2, none⟩ = some (.string (bs b))) (first | go_keep | exact hkk)
      (first
        | (go_at_call 50; refine HG.out.mono ?_; rintro e w6 ⟨rfl, F6, h6, hF6, ht6⟩; have HT6 := Stow.mk ((Turn.of_below (F := F) (Below.drew (Below.self W0))).trans ht6 fun k hk => .inl hk); have hkk := And.intro (HKT.out w6 HT6.out) (And.intro ((held_turn HX.out HT6.out HFX.out).cell (i := 1) rfl) ((held_turn HX.out HT6.out HFX.out).cell (i := 2) rfl))))
    have HT9 := Stow.mk (HT.out.turn HT6.out hFg)
    have HU9 := Stow.mk (HTU.out.trans HT6.out fun k hk => .inl (.inl hk))
    have HB9 := Stow.mk h6
    have HF6 := Stow.mk hF6
    have hs6 := Nat.le_trans HTU.out.size (Nat.le_refl W0.heap.size)
    clear hkk c0 q0 q1 q2 q3 h6 hF6
    go_wp2_with fail
    first | go_end0 | (simp only [Exit.inBlock, Exit.then]; refine bodyPost_ret (results_none rfl _ _ _) rfl ?_) | refine bodyPost_ret (results_none rfl _ _ _) rfl ?_
    rw [HD.out]
    refine ⟨rfl, F6, x, rfl, ⟨rfl, rfl, rfl, rfl, rfl, rfl⟩, HT9.out, HB9.out, fun k hk => ?_, fun hf => ?_, HU9.out⟩
    · rcases HF6.out k hk with h1 | h1
      · exact .inl h1
      · exact .inr (Nat.le_trans hs6 h1)
    · rcases HF6.out g hf with h1 | h1
      · exact hFg h1
      · have : W0.heap.size ≤ g := h1
        omega
  have k3' : (k == 3) = false := by simpa using k3
  by_cases k4 : k = 4
  · subst k4
    have c8 : W0.cell? ⟨g, Q.length * 13 + 5 + 3, none⟩ = some (.slice x.ha x.c.hs.length x.hc) := HT.out.cell (j := 8) rfl
    clear k1 k1' k2 k2' k3 k3'
    go_enter Try.func93, Try.ntmps93
    go_upto_region 10 with fail
    clear hW0
    have HG := Stow.mk (hdGet_any a x.ha x.hc x.c.hs W0.drew (HFR.out.keep (Below.drew (Below.self W0))).heads)
    obtain ⟨got, hgot⟩ : ∃ z, (hdGet x.c.hs a).getD [] = z := ⟨_, rfl⟩
    obtain ⟨has, hhas⟩ : ∃ z, (hdGet x.c.hs a).isSome = z := ⟨_, rfl⟩
    obtain ⟨tr, htr⟩ : ∃ z, tracedB a = z := ⟨_, rfl⟩
    have HD := Stow.mk (show doF x.c ⟨4, a, b, n⟩ S sh = (if tr then x.c else (x.takes got).c, S) by rw [← htr, ← hgot]; rfl)
    have HTR := Stow.mk (fun W => traced_any a W)
    rw [htr] at HTR
    rw [hgot, hhas] at HG
    rw [hgot] at l3
    clear hgot hhas htr
    go_region_held3 (fun w' => w'.cell? ⟨g, Q.length * 13 + 5 + 3, none⟩ = some (.slice x.ha x.c.hs.length x.hc) ∧ w'.cell? ⟨w.heap.size, 1, none⟩ = some (.string (bs a))) (first | go_keep | exact hkk)
      (first
        | (go_at_call 113; refine HG.out.mono ?_; rintro e w6 ⟨rfl, hb6⟩; have HB6 := Stow.mk ((Below.drew (Below.self W0)).trans hb6); have hkk := And.intro ((HB6.out.cell (p := ⟨g, Q.length * 13 + 5 + 3, none⟩) HT.out.lt.2).trans c8) ((HX.out.kept HB6.out).cell (i := 1) rfl)))
    have HT := Stow.mk (HT.out.keep HB6.out)
    have HBK := Stow.mk (HBK.out.keep HB6.out)
    have HTU := Stow.mk (HTU.out.trans (Turn.of_below (F := fun k => F k ∨ k = g) HB6.out) fun k hk => .inl hk)
    have HX := Stow.mk (HX.out.kept HB6.out)
    clear hkk hb6 c8 q0 q1 q2 q3
    have q1 := HX.out.cell (i := 1) rfl
    go_wp2_with fail
    refine (HTR.out _).mono ?_
    rintro e w7 ⟨rfl, rfl⟩
    clear q1
    cases tr
    · have HD := Stow.mk (show doF x.c ⟨4, a, b, n⟩ S sh = ((x.takes got).c, S) by rw [HD.out]; rfl)
      go_wp2_with fail
      refine (takes_any _ B g cap Q x got HT.out l3).mono ?_
      rintro e w9 ⟨rfl, hF9, hO9⟩
      have HB9 := Stow.mk (HBK.out.turn (Turn.of_grown (F := fun k => k = g) hO9 (.inl rfl)) fun k hk e => hFg (e ▸ hk))
      have HT9 := Stow.mk hF9
      have HU9 := Stow.mk (HTU.out.trans (Turn.of_grown (F := fun k => F k ∨ k = g) hO9 (.inl (.inr rfl))) fun k hk => .inl hk)
      clear hF9 hO9
      go_wp2_with fail
      first | go_end0 | (simp only [Exit.inBlock, Exit.then]; refine bodyPost_ret (results_none rfl _ _ _) rfl ?_) | refine bodyPost_ret (results_none rfl _ _ _) rfl ?_
      rw [HD.out]
      exact ⟨rfl, F, x.takes got, rfl, ⟨rfl, rfl, rfl, rfl, rfl, rfl⟩, HT9.out, HB9.out.mono (Nat.le_succ c), fun k hk => .inl hk, hFg, HU9.out⟩
    · have HD := Stow.mk (show doF x.c ⟨4, a, b, n⟩ S sh = (x.c, S) by rw [HD.out]; rfl)
      go_wp2_with fail
      first | go_end0 | (simp only [Exit.inBlock, Exit.then]; refine bodyPost_ret (results_none rfl _ _ _) rfl ?_) | refine bodyPost_ret (results_none rfl _ _ _) rfl ?_
      rw [HD.out]
      exact ⟨rfl, F, x, rfl, ⟨rfl, rfl, rfl, rfl, rfl, rfl⟩, HT.out, HBK.out.mono (Nat.le_succ c), fun k hk => .inl hk, hFg, HTU.out⟩
  have k4' : (k == 4) = false := by simpa using k4
  by_cases k5 : k = 5
  · subst k5
    have HD := Stow.mk (show doF x.c ⟨5, a, b, n⟩ S sh = ((x.takes x.c.b).c, S) from rfl)
    have c9 : W0.cell? ⟨g, Q.length * 13 + 5 + 4, none⟩ = some (.string (bs x.c.b)) := HT.out.cell (j := 9) rfl
    have c9' : W0.cell? ⟨g, Q.length * 13 + 9, none⟩ = some (.string (bs x.c.b)) := HT.out.cell (j := 9) rfl
    clear k1 k1' k2 k2' k3 k3' k4 k4'
    go_enter Try.func93, Try.ntmps93
    go_wp2_with fail
    refine (takes_any _ B g cap Q x x.c.b HT.out l4).mono ?_
    rintro e w9 ⟨rfl, hF9, hO9⟩
    have HB9 := Stow.mk (HBK.out.turn (Turn.of_grown (F := fun k => k = g) hO9 (.inl rfl)) fun k hk e => hFg (e ▸ hk))
    have HT9 := Stow.mk hF9
    have HU9 := Stow.mk (HTU.out.trans (Turn.of_grown (F := fun k => F k ∨ k = g) hO9 (.inl (.inr rfl))) fun k hk => .inl hk)
    clear hF9 hO9
    go_wp2_with fail
    first | go_end0 | (simp only [Exit.inBlock, Exit.then]; refine bodyPost_ret (results_none rfl _ _ _) rfl ?_) | refine bodyPost_ret (results_none rfl _ _ _) rfl ?_
    rw [HD.out]
    exact ⟨rfl, F, x.takes x.c.b, rfl, ⟨rfl, rfl, rfl, rfl, rfl, rfl⟩, HT9.out, HB9.out.mono (Nat.le_succ c), fun k hk => .inl hk, hFg, HU9.out⟩
  have k5' : (k == 5) = false := by simpa using k5
  by_cases k7 : k = 7
  · subst k7
    have HD := Stow.mk (show doF x.c ⟨7, a, b, n⟩ S sh = ({ x.c with st := n }, S) from rfl)
    have c3 := HT.out.cell (j := 3) rfl
    have f3 := HT.out.free (Q.length * 13 + 3)
    clear k1 k1' k2 k2' k3 k3' k4 k4' k5 k5'
    have HT9 := Stow.mk (HT.out.set (y := { x with c := { x.c with st := n } }) 3 (.int .i64 n) rfl)
    have hO9 : Only g W0 (W0.setCell ⟨g, Q.length * 13 + 3, none⟩ (.int .i64 n)) := Only.set _ _ _ _
    have HB9 := Stow.mk (HBK.out.turn (Turn.of_grown (F := fun k => k = g) hO9 (.inl rfl)) fun k hk e => hFg (e ▸ hk))
    have HU9 := Stow.mk (HTU.out.trans (Turn.of_grown (F := fun k => F k ∨ k = g) hO9 (.inl (.inr rfl))) fun k hk => .inl hk)
    clear hO9
    go_enter Try.func93, Try.ntmps93
    go_wp2_with fail
    first | go_end0 | (simp only [Exit.inBlock, Exit.then]; refine bodyPost_ret (results_none rfl _ _ _) rfl ?_) | refine bodyPost_ret (results_none rfl _ _ _) rfl ?_
    rw [HD.out]
    exact ⟨rfl, F, { x with c := { x.c with st := n } }, rfl, ⟨rfl, rfl, rfl, rfl, rfl, rfl⟩, HT9.out, HB9.out.mono (Nat.le_succ c), fun k hk => .inl hk, hFg, HU9.out⟩
  have k7' : (k == 7) = false := by simpa using k7
  have HD := Stow.mk (show doF x.c ⟨k, a, b, n⟩ S sh = (x.c, S) by unfold doF; rw [if_neg k1, if_neg k2, if_neg k3, if_neg k4, if_neg k5, if_neg k7])
  clear k1 k2 k3 k4 k5 k7
  go_enter Try.func93, Try.ntmps93
  go_wp2_with fail
  first | go_end0 | (simp only [Exit.inBlock, Exit.then]; refine bodyPost_ret (results_none rfl _ _ _) rfl ?_) | refine bodyPost_ret (results_none rfl _ _ _) rfl ?_
  rw [HD.out]
  exact ⟨rfl, F, x, rfl, ⟨rfl, rfl, rfl, rfl, rfl, rfl⟩, HT.out, HBK.out.mono (Nat.le_succ c), fun k hk => .inl hk, hFg, HTU.out⟩
end Go.Proofs.Ythbpcdoddcacdaa
