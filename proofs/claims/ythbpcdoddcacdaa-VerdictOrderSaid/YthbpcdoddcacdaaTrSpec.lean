/- Spans as a tree, in plain Lean: roots, orphans, children, walks. No condition. -/
import Derived.Test.YthbpcdoddcacdaaSp
import Derived.Test.YthbpcdoddcacdaaSoLaw2
namespace Go.Proofs.Ythbpcdoddcacdaa
set_option linter.unusedVariables false
namespace Tr

def sp (L : List Sp) (i : Nat) : Sp := L.getD i ⟨0, 0, 0, 0, [], 0, 0, 0, false, 0, 0⟩
def places (L : List Sp) (p : Sp → Bool) : List Nat := (List.range L.length).filter fun i => p (sp L i)
def roots (L : List Sp) : List Nat := places L fun s => s.up == 0
def lost_ (L : List Sp) (s : Sp) : Bool := s.up != 0 && !L.any fun x => x.id == s.up
def orphans (L : List Sp) : List Nat := places L (lost_ L)
/-- Children stand by Seq, those of one Seq by their places. -/
def lt (L : List Sp) (x y : Nat) : Prop := (sp L x).sq < (sp L y).sq ∨ ((sp L x).sq = (sp L y).sq ∧ x < y)
def bf (x y : Nat) : Prop := x < y
theorem ord (L : List Sp) : So.Ord (lt L) bf where
  trans := by
    intro x y z h k
    unfold lt at *
    omega
  asymm := by
    intro x y h k
    unfold lt at *
    omega
  total := by
    intro x y h k
    unfold lt bf at *
    omega
/-- A place is put among others, behind all whose Seq is not greater. -/
def ins (L : List Sp) (x : Nat) : List Nat → List Nat
  | [] => [x]
  | y :: t => if (sp L y).sq ≤ (sp L x).sq then y :: ins L x t else x :: y :: t
def sort (L : List Sp) (A : List Nat) : List Nat := A.foldl (fun out x => ins L x out) []
def raw (L : List Sp) (at_ : Nat) : List Nat := places L fun s => s.up == (sp L at_).id
def kids (L : List Sp) (at_ : Nat) : List Nat := if at_ < L.length ∧ (sp L at_).id ≠ 0 then sort L (raw L at_) else []

theorem places_sorted (L : List Sp) (p : Sp → Bool) : (places L p).Pairwise bf := List.Pairwise.filter _ List.pairwise_lt_range
theorem places_mem {L : List Sp} {p : Sp → Bool} {i : Nat} : i ∈ places L p ↔ i < L.length ∧ p (sp L i) = true := by simp [places]
theorem places_len (L : List Sp) (p : Sp → Bool) : (places L p).length ≤ L.length := by
  have := List.length_filter_le (fun i => p (sp L i)) (List.range L.length)
  simpa [places] using this
theorem ins_perm (L : List Sp) (x : Nat) : ∀ A, (ins L x A).Perm (x :: A)
  | [] => List.Perm.refl _
  | y :: t => by
    unfold ins
    split
    · exact (List.Perm.cons y (ins_perm L x t)).trans (List.Perm.swap x y t)
    · exact List.Perm.refl _
theorem ins_sorted {L : List Sp} {x : Nat} : ∀ {A : List Nat}, So.Sorted (lt L) A → (∀ y ∈ A, y < x) → So.Sorted (lt L) (ins L x A)
  | [], _, _ => by simp [ins]
  | y :: t, hs, hb => by
    obtain ⟨h1, h2⟩ := List.pairwise_cons.1 hs
    unfold ins
    split
    · rename_i hle
      refine List.pairwise_cons.2 ⟨fun z hz => ?_, ins_sorted h2 fun z hz => hb z (List.mem_cons_of_mem y hz)⟩
      rcases List.mem_cons.1 ((ins_perm L x t).mem_iff.1 hz) with rfl | hz
      · have := hb y (by simp)
        unfold lt; omega
      · exact h1 z hz
    · rename_i hle
      have hxy : lt L x y := by unfold lt; omega
      exact List.pairwise_cons.2 ⟨fun z hz => by
        rcases List.mem_cons.1 hz with rfl | hz
        · exact hxy
        · exact (ord L).trans hxy (h1 z hz), hs⟩
theorem sort_ok {L : List Sp} : ∀ {A out : List Nat}, (out ++ A).Pairwise bf ∨ (A.Pairwise bf ∧ ∀ x ∈ out, ∀ y ∈ A, x < y) → So.Sorted (lt L) out → So.Sorted (lt L) (A.foldl (fun out x => ins L x out) out) ∧ (A.foldl (fun out x => ins L x out) out).Perm (out ++ A)
  | [], out, _, hs => ⟨hs, by simp⟩
  | x :: A, out, h, hs => by
    have h' : (x :: A).Pairwise bf ∧ ∀ y ∈ out, ∀ z ∈ x :: A, y < z := by
      rcases h with h | h
      · obtain ⟨a, b, c⟩ := List.pairwise_append.1 h; exact ⟨b, c⟩
      · exact h
    obtain ⟨h1, h2⟩ := h'
    obtain ⟨h3, h4⟩ := List.pairwise_cons.1 h1
    have hi := ins_sorted (L := L) (x := x) hs fun y hy => h2 y hy x (by simp)
    have hp := ins_perm L x out
    obtain ⟨r1, r2⟩ := sort_ok (L := L) (A := A) (out := ins L x out) (.inr ⟨h4, fun y hy z hz => by
      rcases List.mem_cons.1 (hp.mem_iff.1 hy) with rfl | hy
      · exact h3 z hz
      · exact h2 y hy z (List.mem_cons_of_mem x hz)⟩) hi
    refine ⟨r1, r2.trans ?_⟩
    exact (List.Perm.append_right A hp).trans List.perm_middle.symm
theorem sort_sorted {L : List Sp} {A : List Nat} (h : A.Pairwise bf) : So.Sorted (lt L) (sort L A) ∧ (sort L A).Perm A := by
  have := sort_ok (L := L) (A := A) (out := []) (.inl (by simpa using h)) (by simp)
  simpa [sort] using this
theorem sort_eq {L : List Sp} {A Z : List Nat} (h : A.Pairwise bf) (hz : So.Sorted (lt L) Z) (hp : Z.Perm A) : Z = sort L A :=
  So.perm_eq (ord L) hz (sort_sorted h).1 (hp.trans (sort_sorted h).2.symm)
theorem raw_sorted (L : List Sp) (at_ : Nat) : (raw L at_).Pairwise bf := places_sorted L _
theorem kids_mem {L : List Sp} {at_ i : Nat} : i ∈ kids L at_ ↔ at_ < L.length ∧ (sp L at_).id ≠ 0 ∧ i < L.length ∧ (sp L i).up = (sp L at_).id := by
  unfold kids
  split
  · rename_i h
    rw [(sort_sorted (raw_sorted L at_)).2.mem_iff, raw, places_mem]
    simp [h]
  · rename_i h
    simp only [List.not_mem_nil, false_iff]
    intro h2
    exact h ⟨h2.1, h2.2.1⟩
theorem kids_len (L : List Sp) (at_ : Nat) : (kids L at_).length ≤ L.length := by
  unfold kids
  split
  · rw [(sort_sorted (raw_sorted L at_)).2.length_eq]; exact places_len _ _
  · simp

/-! What one comes to. -/
/-- What is still to do, the next one ahead, and what stands already. -/
def stk (K : Nat → List Nat) : Nat → List (Nat × Nat) → List (Nat × Nat) → List (Nat × Nat)
  | 0, _, out => out
  | _ + 1, [], out => out
  | f + 1, (x, d) :: t, out => if x ∈ out.map Prod.fst then stk K f t out else stk K f ((K x).map (fun k => (k, d + 1)) ++ t) (out ++ [(x, d)])
/-- By calls of itself. -/
def dfs (K : Nat → List Nat) : Nat → Nat → Nat → List (Nat × Nat) → List (Nat × Nat)
  | 0, _, _, seen => seen
  | f + 1, at_, d, seen => if at_ ∈ seen.map Prod.fst then seen else (K at_).foldl (fun s k => dfs K f k (d + 1) s) (seen ++ [(at_, d)])
/-- How much is to do at most. -/
def mea (N : Nat) (todo out : List (Nat × Nat)) : Nat := (N - out.length) * (N + 2) + todo.length
/-- Places and their number. -/
structure Fit (K : Nat → List Nat) (N : Nat) : Prop where
  len : ∀ x, (K x).length ≤ N
  lt : ∀ x, ∀ k ∈ K x, k < N
structure Out (N : Nat) (out : List (Nat × Nat)) : Prop where
  nd : (out.map Prod.fst).Nodup
  lt : ∀ x ∈ out.map Prod.fst, x < N
theorem nodup_le : ∀ (N : Nat) (l : List Nat), l.Nodup → (∀ x ∈ l, x < N) → l.length ≤ N
  | 0, l, _, h => by
    cases l with
    | nil => simp
    | cons a t => exact absurd (h a (by simp)) (by omega)
  | N + 1, l, hn, h => by
    have h1 := nodup_le N (l.erase N) (hn.erase N) fun x hx => by
      have h2 := h x (List.mem_of_mem_erase hx)
      have h3 := (hn.mem_erase_iff.1 hx).1
      omega
    have h4 := List.length_erase (a := N) (l := l)
    split at h4 <;> omega
theorem Out.len {N : Nat} {out : List (Nat × Nat)} (h : Out N out) : out.length ≤ N := by
  have := nodup_le N _ h.nd h.lt
  simpa using this
theorem Out.push {N : Nat} {out : List (Nat × Nat)} (h : Out N out) {x d : Nat} (hx : x < N) (hn : x ∉ out.map Prod.fst) : Out N (out ++ [(x, d)]) := by
  refine ⟨?_, fun y hy => ?_⟩
  · rw [List.map_append]
    refine List.nodup_append.2 ⟨h.nd, by simp, fun a ha b hb => ?_⟩
    simp at hb; subst hb
    intro e; subst e; exact hn ha
  · rw [List.map_append] at hy
    rcases List.mem_append.1 hy with hy | hy
    · exact h.lt y hy
    · simp at hy; subst hy; exact hx
theorem Out.more {N : Nat} {out : List (Nat × Nat)} (h : Out N out) {x : Nat} (hx : x < N) (hn : x ∉ out.map Prod.fst) : out.length + 1 ≤ N := by
  have := (h.push (d := 0) hx hn).len
  simpa using this
theorem mea_skip {N : Nat} {x : Nat × Nat} {t out : List (Nat × Nat)} : mea N (x :: t) out = mea N t out + 1 := by unfold mea; simp only [List.length_cons]; omega
theorem mea_push {K : Nat → List Nat} {N : Nat} (hK : Fit K N) {x d : Nat} {t out : List (Nat × Nat)} (h : out.length + 1 ≤ N) :
    mea N ((K x).map (fun k => (k, d + 1)) ++ t) (out ++ [(x, d)]) < mea N ((x, d) :: t) out := by
  unfold mea
  have := hK.len x
  simp only [List.length_append, List.length_map, List.length_cons, List.length_nil]
  have e : N - out.length = N - (out.length + 1) + 1 := by omega
  rw [e, Nat.add_mul]
  generalize (N - (out.length + 1)) * (N + 2) = q
  omega
/-- With enough steps it is the same. -/
theorem stk_fuel {K : Nat → List Nat} {N : Nat} (hK : Fit K N) : ∀ f g todo out, Out N out → (∀ x ∈ todo.map Prod.fst, x < N) → mea N todo out < f → mea N todo out < g → stk K f todo out = stk K g todo out
  | 0, _, _, _, _, _, h, _ => by omega
  | _ + 1, 0, _, _, _, _, _, h => by omega
  | f + 1, g + 1, [], out, _, _, _, _ => rfl
  | f + 1, g + 1, (x, d) :: t, out, ho, ht, h1, h2 => by
    unfold stk
    split
    · rw [mea_skip] at h1 h2
      exact stk_fuel hK f g t out ho (fun y hy => ht y (by simp at hy ⊢; exact .inr hy)) (by omega) (by omega)
    · rename_i hn
      have hx : x < N := ht x (by simp)
      have hm := mea_push hK (x := x) (d := d) (t := t) (ho.more hx hn)
      refine stk_fuel hK f g _ _ (ho.push hx hn) (fun y hy => ?_) (by omega) (by omega)
      rw [List.map_append, List.mem_append] at hy
      rcases hy with hy | hy
      · obtain ⟨p, hp, rfl⟩ := List.mem_map.1 hy
        obtain ⟨k, hk, rfl⟩ := List.mem_map.1 hp
        exact hK.lt x k hk
      · exact ht y (by simp at hy ⊢; exact .inr hy)
def run (K : Nat → List Nat) (N : Nat) (todo out : List (Nat × Nat)) : List (Nat × Nat) := stk K (mea N todo out + 1) todo out
theorem run_nil (K : Nat → List Nat) (N : Nat) (out : List (Nat × Nat)) : run K N [] out = out := by unfold run; rfl
theorem run_skip {K : Nat → List Nat} {N : Nat} (hK : Fit K N) {x d : Nat} {t out : List (Nat × Nat)} (ho : Out N out) (ht : ∀ y ∈ ((x, d) :: t).map Prod.fst, y < N) (h : x ∈ out.map Prod.fst) : run K N ((x, d) :: t) out = run K N t out := by
  unfold run
  conv => lhs; unfold stk
  rw [if_pos h]
  exact stk_fuel hK _ _ _ _ ho (fun y hy => ht y (by simp at hy ⊢; exact .inr hy)) (by rw [mea_skip]; omega) (by omega)
theorem run_push {K : Nat → List Nat} {N : Nat} (hK : Fit K N) {x d : Nat} {t out : List (Nat × Nat)} (ho : Out N out) (ht : ∀ y ∈ ((x, d) :: t).map Prod.fst, y < N) (h : x ∉ out.map Prod.fst) :
    run K N ((x, d) :: t) out = run K N ((K x).map (fun k => (k, d + 1)) ++ t) (out ++ [(x, d)]) := by
  unfold run
  conv => lhs; unfold stk
  rw [if_neg h]
  have hx : x < N := ht x (by simp)
  have hm := mea_push hK (x := x) (d := d) (t := t) (ho.more hx h)
  refine stk_fuel hK _ _ _ _ (ho.push hx h) (fun y hy => ?_) (by omega) (by omega)
  rw [List.map_append, List.mem_append] at hy
  rcases hy with hy | hy
  · obtain ⟨p, hp, rfl⟩ := List.mem_map.1 hy
    obtain ⟨k, hk, rfl⟩ := List.mem_map.1 hp
    exact hK.lt x k hk
  · exact ht y (by simp at hy ⊢; exact .inr hy)
theorem dfs_out {K : Nat → List Nat} {N : Nat} (hK : Fit K N) : ∀ f x d out, Out N out → x < N → Out N (dfs K f x d out) ∧ out.length ≤ (dfs K f x d out).length
  | 0, _, _, out, ho, _ => ⟨ho, Nat.le_refl _⟩
  | f + 1, x, d, out, ho, hx => by
    unfold dfs
    split
    · exact ⟨ho, Nat.le_refl _⟩
    · rename_i hn
      have key : ∀ (A : List Nat) (s : List (Nat × Nat)), (∀ k ∈ A, k < N) → Out N s → Out N (A.foldl (fun s k => dfs K f k (d + 1) s) s) ∧ s.length ≤ (A.foldl (fun s k => dfs K f k (d + 1) s) s).length := by
        intro A
        induction A with
        | nil => intro s _ hs; exact ⟨hs, Nat.le_refl _⟩
        | cons k A ih =>
          intro s hA hs
          have h1 := dfs_out hK f k (d + 1) s hs (hA k (by simp))
          have h2 := ih _ (fun k' hk' => hA k' (List.mem_cons_of_mem k hk')) h1.1
          exact ⟨h2.1, Nat.le_trans h1.2 h2.2⟩
      have := key (K x) (out ++ [(x, d)]) (hK.lt x) (ho.push hx hn)
      refine ⟨this.1, ?_⟩
      have h3 := this.2
      rw [List.length_append] at h3
      exact Nat.le_trans (Nat.le_add_right _ _) h3
/-- The list that is gone through and the calls give the same. -/
theorem run_dfs {K : Nat → List Nat} {N : Nat} (hK : Fit K N) : ∀ f x d t out, Out N out → (∀ y ∈ ((x, d) :: t).map Prod.fst, y < N) → N - out.length < f → run K N ((x, d) :: t) out = run K N t (dfs K f x d out)
  | 0, _, _, _, _, _, _, h => by omega
  | f + 1, x, d, t, out, ho, ht, hf => by
    have hx : x < N := ht x (by simp)
    have htt : ∀ y ∈ t.map Prod.fst, y < N := fun y hy => ht y (by simp at hy ⊢; exact .inr hy)
    unfold dfs
    split
    · rename_i h; exact run_skip hK ho ht h
    · rename_i hn
      rw [run_push hK ho ht hn]
      have hm := ho.more hx hn
      have key : ∀ (A : List Nat) (s : List (Nat × Nat)), (∀ k ∈ A, k < N) → Out N s → out.length + 1 ≤ s.length → run K N (A.map (fun k => (k, d + 1)) ++ t) s = run K N t (A.foldl (fun s k => dfs K f k (d + 1) s) s) := by
        intro A
        induction A with
        | nil => intro s _ _ _; rfl
        | cons k A ih =>
          intro s hA hs hsl
          have hA2 : ∀ k' ∈ A, k' < N := fun k' hk' => hA k' (List.mem_cons_of_mem k hk')
          have h1 := dfs_out hK f k (d + 1) s hs (hA k (by simp))
          rw [List.map_cons, List.cons_append, run_dfs hK f k (d + 1) (A.map (fun k => (k, d + 1)) ++ t) s hs (fun y hy => by
            rw [List.map_cons, List.map_append, List.mem_cons, List.mem_append] at hy
            rcases hy with rfl | hy | hy
            · exact hA _ (by simp)
            · obtain ⟨p, hp, rfl⟩ := List.mem_map.1 hy
              obtain ⟨k', hk', rfl⟩ := List.mem_map.1 hp
              exact hA2 k' hk'
            · exact htt y hy) (by omega), ih _ hA2 h1.1 (by omega)]
          rfl
      exact key (K x) (out ++ [(x, d)]) (hK.lt x) (ho.push hx hn) (by simp)
theorem fit (L : List Sp) : Fit (kids L) L.length := ⟨kids_len L, fun x k hk => (kids_mem.1 hk).2.2.1⟩
/-- What one comes to from a place, with depths. -/
def walk (L : List Sp) (at_ : Nat) : List (Nat × Nat) := if at_ < L.length then run (kids L) L.length [(at_, 0)] [] else []
theorem walk_dfs {L : List Sp} {at_ f : Nat} (h : at_ < L.length) (hf : L.length < f) : walk L at_ = dfs (kids L) f at_ 0 [] := by
  unfold walk
  rw [if_pos h, run_dfs (fit L) f at_ 0 [] [] ⟨by simp, by simp⟩ (by simpa using h) (by simpa using hf), run_nil]
def lost (L : List Sp) : List Nat := (List.range L.length).filter fun i => !((roots L ++ orphans L).flatMap fun t => (walk L t).map Prod.fst).contains i
end Tr
end Go.Proofs.Ythbpcdoddcacdaa
