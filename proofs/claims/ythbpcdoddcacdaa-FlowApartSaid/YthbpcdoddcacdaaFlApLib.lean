/- Books side by side, apart from each other; what a run asks of books, and what it leaves. No condition. -/
import Derived.Test.YthbpcdoddcacdaaFlBoth
import Derived.Test.YthbpcdoddcacdaaFlApMath
import Derived.Test.YthbpcdoddcacdaaFlSteps
namespace Go.Proofs.Ythbpcdoddcacdaa
open Go.RowKit Cells
set_option linter.unusedVariables false

/-- A book: the blocks that it takes, where it lies, what stands in it, how many puts it has had at the most. -/
structure BkE where
  F : Nat → Prop
  g : Nat
  S : Bk.St
  c : Nat
/-- Books that lie apart, from some block on. -/
def Sep (B : Nat) (w : World) (l : List BkE) : Prop := (∀ x ∈ l, BKs w x.F x.g x.S x.c ∧ ∀ k, x.F k → B ≤ k ∧ k < w.heap.size) ∧ l.Pairwise fun x y => ∀ k, x.F k → ¬ y.F k
theorem Sep.nil (B : Nat) (w : World) : Sep B w [] := ⟨by simp, List.Pairwise.nil⟩
theorem Sep.keep {B : Nat} {w w' : World} {l : List BkE} (h : Sep B w l) (hb : Below w.heap.size w w') : Sep B w' l :=
  ⟨fun x hx => ⟨(h.1 x hx).1.keep hb, fun k hk => ⟨((h.1 x hx).2 k hk).1, Nat.lt_of_lt_of_le ((h.1 x hx).2 k hk).2 hb.size⟩⟩, h.2⟩
theorem Sep.add {B : Nat} {w w' : World} {l : List BkE} {F : Nat → Prop} {g c : Nat} {S : Bk.St} (h : Sep B w l) (hb : Below w.heap.size w w') (hB : B ≤ w.heap.size) (hF : ∀ k, F k → w.heap.size ≤ k ∧ k < w'.heap.size) (hk : BKs w' F g S c) : Sep B w' (⟨F, g, S, c⟩ :: l) := by
  refine ⟨fun x hx => ?_, List.Pairwise.cons (fun y hy k hf hy' => ?_) h.2⟩
  · rcases List.mem_cons.1 hx with rfl | hx
    · exact ⟨hk, fun k hf => ⟨by have := (hF k hf).1; omega, (hF k hf).2⟩⟩
    · exact (h.keep hb).1 x hx
  · have h1 := (hF k hf).1
    have h2 := ((h.1 y hy).2 k hy').2
    omega
theorem Sep.perm {B : Nat} {w : World} {l l' : List BkE} (h : Sep B w l) (p : l.Perm l') : Sep B w l' :=
  ⟨fun x hx => h.1 x (p.mem_iff.2 hx), (p.pairwise_iff (fun {x y} h k a b => h k b a)).1 h.2⟩
/-- The first one turns. -/
theorem Sep.head {B : Nat} {w w' : World} {x : BkE} {l : List BkE} {F' : Nat → Prop} {S' : Bk.St} {c' : Nat} (h : Sep B w (x :: l)) (hk : BKs w' F' x.g S' c') (hF : ∀ k, F' k → x.F k ∨ w.heap.size ≤ k) (hT : Turn x.F w w') (hB : B ≤ w.heap.size) :
    Sep B w' (⟨fun k => F' k ∧ k < w'.heap.size, x.g, S', c'⟩ :: l) := by
  have hs := hT.size
  obtain ⟨hd, ht⟩ := List.pairwise_cons.1 h.2
  refine ⟨fun y hy => ?_, List.Pairwise.cons (fun y hy k hf hy' => ?_) ht⟩
  · rcases List.mem_cons.1 hy with rfl | hy
    · refine ⟨hk.low', fun k hf => ⟨?_, hf.2⟩⟩
      rcases hF k hf.1 with h1 | h1
      · exact ((h.1 x (by simp)).2 k h1).1
      · omega
    · have hy2 := h.1 y (List.mem_cons_of_mem _ hy)
      exact ⟨hy2.1.turn hT fun k hk hx => hd y hy k hx hk, fun k hk => ⟨(hy2.2 k hk).1, by have := (hy2.2 k hk).2; omega⟩⟩
  · rcases hF k hf.1 with h1 | h1
    · exact hd y hy k h1 hy'
    · have := ((h.1 y (List.mem_cons_of_mem _ hy)).2 k hy').2
      omega
theorem Sep.at {B : Nat} {w : World} {l : List BkE} (h : Sep B w l) {x : BkE} (hx : x ∈ l) : BKs w x.F x.g x.S x.c := (h.1 x hx).1

theorem play_vals (n : Int) {m : Nat} : ∀ (L : List Mv4) (S : Bk.St), S.Vals m → (∀ x ∈ L, x.v.length ≤ m) → (L.foldl (fun S m => (S.put m.n m.s m.k m.v).1) S).Vals m
  | [], S, h, _ => h
  | x :: t, S, h, hv => play_vals n t _ (Bk.put_vals h x.n x.s x.k (hv x (by simp))) fun y hy => hv y (by simp [hy])
theorem new_vals (n : Int) (m : Nat) : (Bk.new n).Vals m := fun _ _ p hp => by cases hp
theorem doF_short {S : Bk.St} (h : S.Short) (x : Fr) (o : Ox) (sh : Bool) (ho : o.a.length ≤ maxLen) : ∃ S', (doF x o (some S) sh).2 = some S' ∧ S'.Short := by
  unfold doF
  repeat' split
  all_goals first
    | exact ⟨S, rfl, h⟩
    | exact ⟨_, rfl, Bk.put_short h _ _ ho _⟩
theorem runF_short {sh : Bool} : ∀ (f : Nat) (x : Fr) (S : Bk.St), S.Short → (∀ o ∈ x.ops, o.a.length ≤ maxLen) → ∃ S', (runF f x (some S) sh).2.1 = some S' ∧ S'.Short
  | 0, x, S, h, _ => ⟨S, rfl, h⟩
  | f + 1, x, S, h, ho => by
    unfold runF
    cases hx : x.ops[x.at_.toNat]? with
    | none => exact ⟨S, rfl, h⟩
    | some o =>
      dsimp only
      have hm : o ∈ x.ops := List.mem_of_getElem? hx
      split
      · exact ⟨S, rfl, h⟩
      · obtain ⟨S', h2, h3⟩ := doF_short h { x with at_ := x.at_ + 1 } o sh (ho o hm)
        rw [h2]
        refine runF_short f _ S' h3 ?_
        rw [(doF_keeps { x with at_ := x.at_ + 1 } o (some S) sh).1]
        exact ho
theorem runL_short {sh : Bool} {S : Bk.St} (C : List Fr) (h : S.Short) (ho : ∀ x ∈ C, ∀ o ∈ x.ops, o.a.length ≤ maxLen) : ∃ S', (runL C (some S) sh).2.2 = some S' ∧ S'.Short := by
  unfold runL
  cases hx : C.getLast? with
  | none => exact ⟨S, rfl, h⟩
  | some x =>
    dsimp only
    unfold runE runO
    have hm : x ∈ C := List.mem_of_getLast? hx
    obtain ⟨S', h1, h2⟩ := runF_short (sh := sh) (x.ops.length - x.begun.at_.toNat) x.begun S h (ho x hm)
    rw [h1]
    cases (runF (x.ops.length - x.begun.at_.toNat) x.begun (some S) sh).2.2 with
    | none => exact ⟨S', rfl, h2⟩
    | some o => exact ⟨S', rfl, h2⟩
theorem WR.turn {D : Nat} {w w' : World} {F : Nat → Prop} {wc : List Value} {o : Wn} (h : WR D w wc o) (ht : Turn F w w') (hF : ∀ k, F k → k < D) : WR D w' wc o := by
  cases o with
  | none => exact h
  | call m h' p hs b =>
    obtain ⟨A, c, h1, h2, h3⟩ := h
    exact ⟨A, c, h1, slrTurn h2 ht fun ad e hf => by have := h3 ad e; have := hF _ hf; omega, h3⟩
  | done st body x =>
    obtain ⟨y, h1, h2, h3, h4⟩ := h
    exact ⟨y, h1, h2, h3.turn ht (h4.mono fun b hb hf => by have := hF b hf; omega), h4⟩
theorem WR.len {D : Nat} {w : World} {wc : List Value} {o : Wn} (h : WR D w wc o) : wc.length = 22 ∧ ∀ u ∈ wc, u.oneCell' = true := by
  cases o with
  | none => obtain rfl := h; exact ⟨wantc_len _ _ _ _ _ _ _ _ _ _ _, wantc_one _ _ _ _ _ _ _ _ _ _ _⟩
  | call m h' p hs b =>
    obtain ⟨A, c, rfl, _⟩ := h
    exact ⟨wantc_len _ _ _ _ _ _ _ _ _ _ _, wantc_one _ _ _ _ _ _ _ _ _ _ _⟩
  | done st body x =>
    obtain ⟨y, _, rfl, _⟩ := h
    exact ⟨wantc_len _ _ _ _ _ _ _ _ _ _ _, wantc_one _ _ _ _ _ _ _ _ _ _ _⟩
theorem fmz_R (w : World) : FmR w fmz := ⟨SlR.nil _ _, SlR.nil _ _⟩
/-- The same is wanted. -/
theorem wnSame_any (o : Wn) (wc wc' : List Value) (w : World) (h : WantR w wc o) (h' : WantR w wc' o) :
    Calls Try.prog 59 #[.agg wc.toArray, .agg wc'.toArray] w fun e w' => e = .returned (.bool true) ∧ Below w.heap.size w w' := by
  cases o with
  | none =>
    obtain rfl := h
    obtain rfl := h'
    exact wantSame_any 0 [] [] [] [] none none 0 0 [] 0 [] fmz fmz w rfl (fmz_R w) (fmz_R w) (SlR.nil _ _) (SlR.nil _ _)
  | call m h2 p hs b =>
    obtain ⟨A, c, rfl, hS⟩ := h
    obtain ⟨A', c', rfl, hS'⟩ := h'
    exact wantSame_any 1 m h2 p hs A A' c c' b 0 [] fmz fmz w rfl (fmz_R w) (fmz_R w) hS hS'
  | done st body x =>
    obtain ⟨y, hy, rfl, hR⟩ := h
    obtain ⟨y', hy', rfl, hR'⟩ := h'
    exact wantSame_any 2 [] [] [] [] none none 0 0 [] st body y y' w (hy.trans hy'.symm) hR hR' (SlR.nil _ _) (SlR.nil _ _)
/-- What a run gives is laid into two boxes. -/
theorem runbox (w : World) (A : Option Addr) (n c : Nat) (hops : Int) (wc : List Value) (hl : wc.length = 22) :
    ((w.alloc (.cells #[.slice A n c, .int .i64 hops] 24)).alloc (.cells want0.toArray 98)).there (w.heap.size + 1) 0 wc.length ∧
    Held (((w.alloc (.cells #[.slice A n c, .int .i64 hops] 24)).alloc (.cells want0.toArray 98)).setCells (w.heap.size + 1) 0 wc) w.heap.size [.slice A n c, .int .i64 hops] ∧
    Held (((w.alloc (.cells #[.slice A n c, .int .i64 hops] 24)).alloc (.cells want0.toArray 98)).setCells (w.heap.size + 1) 0 wc) (w.heap.size + 1) wc ∧
    Below w.heap.size w (((w.alloc (.cells #[.slice A n c, .int .i64 hops] 24)).alloc (.cells want0.toArray 98)).setCells (w.heap.size + 1) 0 wc) := by
  have e8 : (w.alloc (.cells #[.slice A n c, .int .i64 hops] 24)).heap.size = w.heap.size + 1 := by simp
  have ba1 := Below.alloc' (Below.self w) (.cells #[.slice A n c, .int .i64 hops] 24)
  have ba2 := Below.alloc' (Below.self (w.alloc (.cells #[.slice A n c, .int .i64 hops] 24))) (.cells want0.toArray 98)
  have hba := Below.call ba1 ba2
  have h5 := (Held.made w [.slice A n c, .int .i64 hops] 24).kept ba2
  have h6 := Held.made (w.alloc (.cells #[.slice A n c, .int .i64 hops] 24)) want0 98
  rw [e8] at h6
  have hw : want0.length = wc.length := by rw [hl]; exact wantc_len _ _ _ _ _ _ _ _ _ _ _
  have hO : Only (w.heap.size + 1) ((w.alloc (.cells #[.slice A n c, .int .i64 hops] 24)).alloc (.cells want0.toArray 98)) (((w.alloc (.cells #[.slice A n c, .int .i64 hops] 24)).alloc (.cells want0.toArray 98)).setCells (w.heap.size + 1) 0 wc) := only_all _ _ _
  refine ⟨?_, h5.offO hO (by omega), h6.over wc hw, hba.trans (hO.below (by omega) hba.size)⟩
  have := h6.there
  rw [hw] at this
  exact this
theorem info_ent37 : (Try.prog.info? 94).map (fun i => (i.zero, i.size, i.bytes)) = some (some (.agg #[.int .i64 0, .bool false, .string ⟨#[]⟩, .string ⟨#[]⟩]), 4, 48) := by kernel_rfl
def ownL (L : List Mv4) : List Mv4 := L.filter fun m => !m.s
theorem ownL_next {L : List Mv4} {i : Nat} (h : i < L.length) : ownL (L.take (i + 1)) = ownL (L.take i) ++ (if L[i].s then [] else [L[i]]) := by
  rw [List.take_succ_eq_append_getElem h]
  unfold ownL
  rw [List.filter_append]
  cases hs : L[i].s <;> simp [hs]
theorem ownL_len (L : List Mv4) (i : Nat) : (ownL (L.take i)).length ≤ i := Nat.le_trans (List.length_filter_le _ _) (by simp; omega)
end Go.Proofs.Ythbpcdoddcacdaa
