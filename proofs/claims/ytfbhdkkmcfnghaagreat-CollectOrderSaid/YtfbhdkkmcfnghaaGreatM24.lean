/- What is said of a trace, in plain Lean: clashes, lacks, whole; in whatever order its spans stand; without one of them. No condition. -/
import Derived.Test.YtfbhdkkmcfnghaaGreatM23

section
namespace Go.Proofs.YtfbhdkkmcfnghaaGreat
set_option linter.unusedVariables false
namespace Tr

/-! What is said. -/
def seqs (L : List Sp) (i : Nat) : List Int := (kids L i).map fun k => (sp L k).sq
def fits (kd : Int) : Int → List Int → Bool
  | _, [] => true
  | last, q :: t => if q ≤ last ∨ kd ≤ q then false else fits kd q t
def okAt (L : List Sp) (i : Nat) : Bool := decide (((kids L i).length : Int) ≤ (sp L i).kd) && fits (sp L i).kd (-1) (seqs L i)
def clashes (L : List Sp) (c : Bool) : Bool := c || decide (1 < (roots L).length) || decide (0 < (lost L).length) || !(List.range L.length).all (okAt L)
def lackAt (L : List Sp) (i : Nat) : Int := max 0 ((sp L i).kd - ((kids L i).length : Nat))
def lackTo (L : List Sp) (i : Nat) : Int := ((List.range i).map (lackAt L)).sum
def lacks (L : List Sp) : Int := lackTo L L.length
def whole (L : List Sp) (s : Bool) : Bool := !s && decide ((roots L).length = 1) && decide ((orphans L).length = 0) && decide (lacks L = 0)
def said (L : List Sp) (s c : Bool) : Nat := if clashes L c then 2 else if whole L s then 1 else 0

theorem lackTo_next (L : List Sp) (i : Nat) : lackTo L (i + 1) = lackTo L i + lackAt L i := by
  unfold lackTo
  rw [List.range_succ, List.map_append, List.sum_append]
  simp
theorem lackAt_nonneg (L : List Sp) (i : Nat) : 0 ≤ lackAt L i := by unfold lackAt; omega
theorem lackTo_nonneg (L : List Sp) : ∀ i, 0 ≤ lackTo L i
  | 0 => by simp [lackTo]
  | i + 1 => by have := lackTo_nonneg L i; have := lackAt_nonneg L i; rw [lackTo_next]; omega
theorem lackTo_le {L : List Sp} {b : Int} (h : ∀ s ∈ L, s.kd ≤ b) (hb : 0 ≤ b) : ∀ i, i ≤ L.length → lackTo L i ≤ b * i
  | 0, _ => by simp [lackTo]
  | i + 1, hi => by
    have h1 := lackTo_le h hb i (by omega)
    have h2 : (sp L i).kd ≤ b := by
      unfold sp
      rw [List.getD_eq_getElem?_getD, List.getElem?_eq_getElem (show i < L.length by omega)]
      exact h _ (List.getElem_mem _)
    rw [lackTo_next]
    have h3 : lackAt L i ≤ b := by unfold lackAt; omega
    have e : b * ((i + 1 : Nat) : Int) = b * i + b := by rw [Int.natCast_succ, Int.mul_add, Int.mul_one]
    omega

/-! Spans and places. -/
theorem sp_in {L : List Sp} {i : Nat} (h : i < L.length) : sp L i = L[i] := by
  unfold sp
  rw [List.getD_eq_getElem?_getD, List.getElem?_eq_getElem h]; rfl
theorem sp_mem {L : List Sp} {i : Nat} (h : i < L.length) : sp L i ∈ L := by rw [sp_in h]; exact List.getElem_mem h
theorem sp_of_mem {L : List Sp} {s : Sp} (h : s ∈ L) : ∃ i, i < L.length ∧ sp L i = s := by
  obtain ⟨i, hi, rfl⟩ := List.getElem_of_mem h
  exact ⟨i, hi, sp_in hi⟩
theorem range_sp (L : List Sp) : (List.range L.length).map (sp L) = L := by
  apply List.ext_getElem
  · simp
  · intro i h1 h2; simp [sp_in h2]
theorem places_count (L : List Sp) (p : Sp → Bool) : (places L p).length = L.countP p := by
  unfold places
  have : L.countP p = ((List.range L.length).map (sp L)).countP p := by rw [range_sp]
  rw [this, List.countP_map, List.countP_eq_length_filter]
  rfl
def cnt (L : List Sp) (s : Sp) : Nat := if s.id ≠ 0 then L.countP (fun x => x.up == s.id) else 0
theorem kids_cnt {L : List Sp} {i : Nat} (h : i < L.length) : (kids L i).length = cnt L (sp L i) := by
  unfold kids cnt
  by_cases h2 : (sp L i).id ≠ 0
  · rw [if_pos ⟨h, h2⟩, if_pos h2, (sort_sorted (raw_sorted L i)).2.length_eq]
    exact places_count L _
  · rw [if_neg (fun h => h2 h.2), if_neg h2]; rfl
def lackS (L : List Sp) (s : Sp) : Int := max 0 (s.kd - (cnt L s : Nat))
theorem lacks_eq (L : List Sp) : lacks L = (L.map (lackS L)).sum := by
  unfold lacks lackTo
  have : L.map (lackS L) = ((List.range L.length).map (sp L)).map (lackS L) := by rw [range_sp]
  rw [this, List.map_map]
  congr 1
  apply List.map_congr_left
  intro i hi
  have hi : i < L.length := by simpa using hi
  unfold lackAt lackS
  rw [kids_cnt hi]
  rfl
theorem seqs_sorted (L : List Sp) (i : Nat) : (seqs L i).Pairwise (· ≤ ·) := by
  unfold seqs kids
  split
  · rw [List.pairwise_map]
    refine List.Pairwise.imp ?_ (sort_sorted (raw_sorted L i)).1
    intro a b h
    unfold lt at h
    omega
  · simp
theorem seqs_perm {L : List Sp} {i : Nat} (h : i < L.length) (hid : (sp L i).id ≠ 0) : (seqs L i).Perm ((L.filter fun x => x.up == (sp L i).id).map (·.sq)) := by
  unfold seqs kids
  rw [if_pos ⟨h, hid⟩]
  refine ((sort_sorted (raw_sorted L i)).2.map _).trans ?_
  unfold raw places
  have : (L.filter fun x => x.up == (sp L i).id) = (((List.range L.length).map (sp L)).filter fun x => x.up == (sp L i).id) := by rw [range_sp]
  rw [this, List.filter_map, List.map_map]
  exact List.Perm.refl _
theorem seqs_nil {L : List Sp} {i : Nat} (hid : (sp L i).id = 0) : seqs L i = [] := by
  unfold seqs kids
  rw [if_neg (fun h => h.2 hid)]
  rfl

/-! What one comes to at all. -/
inductive R (L : List Sp) : Sp → Prop
  | top {s : Sp} : s ∈ L → (s.up = 0 ∨ lost_ L s = true) → R L s
  | kid {p s : Sp} : R L p → p.id ≠ 0 → s ∈ L → s.up = p.id → R L s
theorem R.mem {L : List Sp} {s : Sp} (h : R L s) : s ∈ L := by cases h <;> assumption
def topS (L : List Sp) : List Nat := roots L ++ orphans L
theorem top_mem {L : List Sp} {t : Nat} : t ∈ topS L ↔ t < L.length ∧ ((sp L t).up = 0 ∨ lost_ L (sp L t) = true) := by
  unfold topS roots orphans
  rw [List.mem_append, places_mem, places_mem]
  constructor
  · rintro (⟨a, b⟩ | ⟨a, b⟩)
    · exact ⟨a, .inl (by simpa using b)⟩
    · exact ⟨a, .inr b⟩
  · rintro ⟨a, b | b⟩
    · exact .inl ⟨a, by simpa using b⟩
    · exact .inr ⟨a, b⟩
theorem walk_start {L : List Sp} {t : Nat} (h : t < L.length) : t ∈ (walk L t).map Prod.fst := by
  unfold walk
  rw [if_pos h]
  have := run_ind (fit L) (fun todo out => t ∈ out.map Prod.fst ∨ t ∈ todo.map Prod.fst)
    (fun x d t' out hI hx => by
      rcases hI with h | h
      · exact .inl h
      · rw [List.map_cons, List.mem_cons] at h
        rcases h with rfl | h
        · exact .inl hx
        · exact .inr h)
    (fun x d t' out hI hx => by
      rcases hI with h | h
      · exact .inl (by rw [List.map_append, List.mem_append]; exact .inl h)
      · rw [List.map_cons, List.mem_cons] at h
        rcases h with rfl | h
        · exact .inl (by simp)
        · exact .inr (by rw [List.map_append, List.mem_append]; exact .inr h))
    _ [(t, 0)] [] ⟨by simp, by simp⟩ (by simpa using h) (Nat.lt_succ_self _) (.inr (by simp))
  rcases this with h | h
  · exact h
  · simp at h
theorem walk_R {L : List Sp} {t : Nat} (ht : t ∈ topS L) : ∀ x ∈ (walk L t).map Prod.fst, R L (sp L x) := by
  obtain ⟨h, hu⟩ := top_mem.1 ht
  unfold walk
  rw [if_pos h]
  have := run_ind (fit L) (fun todo out => ∀ x, x ∈ out.map Prod.fst ∨ x ∈ todo.map Prod.fst → R L (sp L x))
    (fun x d t' out hI hx y hy => by
      rcases hy with hy | hy
      · exact hI y (.inl hy)
      · exact hI y (.inr (List.mem_cons_of_mem _ hy)))
    (fun x d t' out hI hx y hy => by
      rw [List.map_append, List.mem_append, List.map_append, List.mem_append] at hy
      rcases hy with (hy | hy) | (hy | hy)
      · exact hI y (.inl hy)
      · simp at hy; subst hy; exact hI y (.inr (by simp))
      · have hy : y ∈ kids L x := by simpa using hy
        obtain ⟨a, b, c, d⟩ := kids_mem.1 hy
        exact .kid (hI x (.inr (by simp))) b (sp_mem c) d
      · exact hI y (.inr (List.mem_cons_of_mem _ hy)))
    _ [(t, 0)] [] ⟨by simp, by simp⟩ (by simpa using h) (Nat.lt_succ_self _) (by
      intro x hx
      rcases hx with hx | hx
      · simp at hx
      · simp at hx; subst hx; exact .top (sp_mem h) hu)
  exact fun x hx => this x (.inl hx)
theorem R_walk {L : List Sp} {s : Sp} (h : R L s) : ∀ i, i < L.length → sp L i = s → ∃ t ∈ topS L, i ∈ (walk L t).map Prod.fst := by
  induction h with
  | top hm hu => intro i hi he; subst he; exact ⟨i, top_mem.2 ⟨hi, hu⟩, walk_start hi⟩
  | kid hp hid hm hu ih =>
    intro i hi he
    subst he
    obtain ⟨k, hk, he⟩ := sp_of_mem hp.mem
    obtain ⟨t, ht, hw⟩ := ih k hk he
    exact ⟨t, ht, walk_kids L t k hw i (kids_mem.2 ⟨hk, by rw [he]; exact hid, hi, by rw [he]; exact hu⟩)⟩
theorem lost_nil {L : List Sp} : (lost L).length = 0 ↔ ∀ s ∈ L, R L s := by
  rw [List.length_eq_zero_iff]
  unfold lost
  rw [List.filter_eq_nil_iff]
  constructor
  · intro h s hs
    obtain ⟨i, hi, rfl⟩ := sp_of_mem hs
    have := h i (by simpa using hi)
    simp only [List.contains_eq_mem, Bool.not_eq_true', decide_eq_false_iff_not, Decidable.not_not, List.mem_flatMap] at this
    obtain ⟨t, ht, hx⟩ := this
    exact walk_R ht i hx
  · intro h i hi
    have hi : i < L.length := by simpa using hi
    simp only [List.contains_eq_mem, Bool.not_eq_true', decide_eq_false_iff_not, Decidable.not_not, List.mem_flatMap]
    exact R_walk (h _ (sp_mem hi)) i hi rfl

/-! In whatever order. -/
theorem lost_perm {L L' : List Sp} (h : L.Perm L') (s : Sp) : lost_ L s = lost_ L' s := by
  unfold lost_
  congr 2
  rw [Bool.eq_iff_iff, List.any_eq_true, List.any_eq_true]
  constructor
  · rintro ⟨x, a, b⟩; exact ⟨x, h.mem_iff.1 a, b⟩
  · rintro ⟨x, a, b⟩; exact ⟨x, h.mem_iff.2 a, b⟩
theorem R.perm {L L' : List Sp} (h : L.Perm L') {s : Sp} (hs : R L s) : R L' s := by
  induction hs with
  | top hm hu => exact .top (h.mem_iff.1 hm) (by rw [← lost_perm h]; exact hu)
  | kid hp hid hm hu ih => exact .kid ih hid (h.mem_iff.1 hm) hu
theorem lostn_perm {L L' : List Sp} (h : L.Perm L') : ((lost L).length = 0) = ((lost L').length = 0) := by
  rw [lost_nil, lost_nil]
  exact propext ⟨fun g s hs => (g s (h.mem_iff.2 hs)).perm h, fun g s hs => (g s (h.mem_iff.1 hs)).perm h.symm⟩
theorem roots_perm {L L' : List Sp} (h : L.Perm L') : (roots L).length = (roots L').length := by
  unfold roots; rw [places_count, places_count, h.countP_eq]
theorem orphans_perm {L L' : List Sp} (h : L.Perm L') : (orphans L).length = (orphans L').length := by
  unfold orphans
  rw [places_count, places_count, h.countP_eq]
  congr 1
  funext s
  exact lost_perm h s
theorem cnt_perm {L L' : List Sp} (h : L.Perm L') (s : Sp) : cnt L s = cnt L' s := by unfold cnt; rw [h.countP_eq]
theorem sum_perm {A B : List Int} (h : A.Perm B) : A.sum = B.sum := by
  induction h with
  | nil => rfl
  | cons x _ ih => simp [ih]
  | swap x y l => simp; omega
  | trans _ _ a b => exact a.trans b
theorem lacks_perm {L L' : List Sp} (h : L.Perm L') : lacks L = lacks L' := by
  rw [lacks_eq, lacks_eq]
  have : lackS L = lackS L' := by funext s; unfold lackS; rw [cnt_perm h]
  rw [this]
  exact sum_perm (h.map _)
theorem le_perm_eq : ∀ {A B : List Int}, A.Pairwise (· ≤ ·) → B.Pairwise (· ≤ ·) → A.Perm B → A = B
  | [], B, _, _, h => h.nil_eq
  | a :: A, B, hA, hB, h => by
    cases B with
    | nil => exact absurd h.symm.nil_eq (by simp)
    | cons b B =>
      have ha : a ∈ b :: B := h.mem_iff.1 (by simp)
      have hb : b ∈ a :: A := h.mem_iff.2 (by simp)
      have e : a = b := by
        rcases List.mem_cons.1 ha with e | ha
        · exact e
        · rcases List.mem_cons.1 hb with e | hb
          · exact e.symm
          · have := (List.pairwise_cons.1 hA).1 b hb
            have := (List.pairwise_cons.1 hB).1 a ha
            omega
      subst e
      rw [le_perm_eq (List.pairwise_cons.1 hA).2 (List.pairwise_cons.1 hB).2 (List.Perm.cons_inv h)]
theorem seqs_eq {L L' : List Sp} (h : L.Perm L') {i i' : Nat} (hi : i < L.length) (hi' : i' < L'.length) (he : sp L i = sp L' i') : seqs L i = seqs L' i' := by
  by_cases hid : (sp L i).id = 0
  · rw [seqs_nil hid, seqs_nil (by rw [← he]; exact hid)]
  · refine le_perm_eq (seqs_sorted L i) (seqs_sorted L' i') ((seqs_perm hi hid).trans (List.Perm.trans ?_ (seqs_perm hi' (by rw [← he]; exact hid)).symm))
    rw [he]
    exact (h.filter _).map _
theorem okAt_eq {L L' : List Sp} (h : L.Perm L') {i i' : Nat} (hi : i < L.length) (hi' : i' < L'.length) (he : sp L i = sp L' i') : okAt L i = okAt L' i' := by
  unfold okAt
  rw [kids_cnt hi, kids_cnt hi', seqs_eq h hi hi' he, he, cnt_perm h]
theorem all_perm1 {L L' : List Sp} (h : L.Perm L') (g : (List.range L.length).all (okAt L) = true) : (List.range L'.length).all (okAt L') = true := by
  rw [List.all_eq_true] at g ⊢
  intro i' hi'
  have hi' : i' < L'.length := by simpa using hi'
  obtain ⟨i, hi, he⟩ := sp_of_mem (h.mem_iff.2 (sp_mem hi'))
  rw [← okAt_eq h hi hi' he]
  exact g i (by simpa using hi)
theorem all_perm {L L' : List Sp} (h : L.Perm L') : (List.range L.length).all (okAt L) = (List.range L'.length).all (okAt L') := by
  rw [Bool.eq_iff_iff]
  exact ⟨all_perm1 h, all_perm1 h.symm⟩
theorem said_perm {L L' : List Sp} (h : L.Perm L') (s c : Bool) : said L s c = said L' s c := by
  have e : decide (0 < (lost L).length) = decide (0 < (lost L').length) := by
    have := lostn_perm h
    rw [decide_eq_decide, Nat.pos_iff_ne_zero, Nat.pos_iff_ne_zero]
    exact not_congr (iff_of_eq this)
  have e1 : clashes L c = clashes L' c := by unfold clashes; rw [roots_perm h, e, all_perm h]
  have e2 : whole L s = whole L' s := by unfold whole; rw [roots_perm h, orphans_perm h, lacks_perm h]
  unfold said
  rw [e1, e2]

/-! A whole trace. -/
structure Is (L : List Sp) : Prop where
  root : (roots L).length = 1
  lost : ∀ s ∈ L, R L s
  orph : (orphans L).length = 0
  lack : lacks L = 0
  ok : ∀ i, i < L.length → okAt L i = true
theorem said_is {L : List Sp} {s c : Bool} (h : said L s c = 1) : Is L := by
  unfold said at h
  split at h
  · cases h
  · rename_i h1
    split at h
    · rename_i h2
      unfold clashes at h1
      unfold whole at h2
      simp only [Bool.or_eq_true, decide_eq_true_eq, not_or, Bool.not_eq_true', Bool.not_eq_false, Bool.not_eq_true] at h1
      simp only [Bool.and_eq_true, decide_eq_true_eq] at h2
      refine ⟨h2.1.1.2, lost_nil.1 (by omega), h2.1.2, h2.2, fun i hi => ?_⟩
      exact List.all_eq_true.1 h1.2 i (by simpa using hi)
    · cases h
theorem fits_lt {kd : Int} : ∀ {last : Int} {A : List Int}, fits kd last A = true → (∀ q ∈ A, last < q) ∧ A.Pairwise (· < ·)
  | _, [], _ => by simp
  | last, q :: t, h => by
    unfold fits at h
    split at h
    · cases h
    · obtain ⟨a, b⟩ := fits_lt h
      refine ⟨fun x hx => ?_, List.pairwise_cons.2 ⟨a, b⟩⟩
      rcases List.mem_cons.1 hx with rfl | hx
      · omega
      · have := a x hx; omega
theorem Is.strict {L : List Sp} (h : Is L) {i : Nat} (hi : i < L.length) : (kids L i).Pairwise fun x y => (sp L x).sq < (sp L y).sq := by
  have := h.ok i hi
  unfold okAt at this
  rw [Bool.and_eq_true] at this
  have := (fits_lt this.2).2
  unfold seqs at this
  rwa [List.pairwise_map] at this
theorem Is.top {L : List Sp} (h : Is L) : ∃ r, roots L = [r] ∧ r < L.length ∧ topS L = [r] := by
  obtain ⟨r, hr⟩ := List.length_eq_one_iff.1 h.root
  have ho := List.length_eq_zero_iff.1 h.orph
  refine ⟨r, hr, ?_, by unfold topS; rw [hr, ho]; rfl⟩
  have : r ∈ roots L := by rw [hr]; simp
  exact (places_mem.1 this).1
theorem Is.all {L : List Sp} (h : Is L) {r : Nat} (hr : roots L = [r]) : (walk L r).length = L.length := by
  obtain ⟨r', hr', hl, ht⟩ := h.top
  rw [hr] at hr'
  simp only [List.cons.injEq, and_true] at hr'
  subst hr'
  have ho : Out L.length (walk L r) := by
    unfold walk
    rw [if_pos hl, run_dfs (fit L) (L.length + 1) r 0 [] [] ⟨by simp, by simp⟩ (by simpa using hl) (by simp), run_nil]
    exact (dfs_out (fit L) _ r 0 [] ⟨by simp, by simp⟩ hl).1
  have hp : ((walk L r).map Prod.fst).Perm (List.range L.length) := by
    rw [List.perm_ext_iff_of_nodup ho.nd List.nodup_range]
    intro x
    constructor
    · intro hx; simpa using ho.lt x hx
    · intro hx
      have hx : x < L.length := by simpa using hx
      obtain ⟨t, ht', hw⟩ := R_walk (h.lost _ (sp_mem hx)) x hx rfl
      rw [ht] at ht'
      simp at ht'
      subst ht'
      exact hw
  simpa using hp.length_eq

/-! Without one of its spans. -/
theorem R.other {L : List Sp} {s : Sp} (h : R L s) : s.up ≠ 0 → lost_ L s = false → ∃ p ∈ L, p ≠ s ∧ p.id = s.up := by
  induction h with
  | top hm hu => intro h1 h2; rcases hu with hu | hu; exact absurd hu h1; rw [h2] at hu; cases hu
  | @kid p s hp hid hm hu ih =>
    intro h1 h2
    by_cases e : p = s
    · subst e; exact ih h1 h2
    · exact ⟨p, hp.mem, e, hu.symm⟩
theorem sum_pos {A : List Int} (h : ∀ x ∈ A, 0 ≤ x) : 0 ≤ A.sum ∧ ∀ x ∈ A, x ≤ A.sum := by
  induction A with
  | nil => simp
  | cons a A ih =>
    obtain ⟨h1, h2⟩ := ih fun x hx => h x (List.mem_cons_of_mem a hx)
    have h3 := h a (by simp)
    simp only [List.sum_cons]
    refine ⟨by omega, fun x hx => ?_⟩
    rcases List.mem_cons.1 hx with rfl | hx
    · omega
    · have := h2 x hx; omega
theorem not_whole_less {L : List Sp} (h : Is L) {k : Nat} (hk : k < L.length) : ¬ Is (L.take k ++ L.drop (k + 1)) := by
  intro h'
  obtain ⟨L', hL'⟩ : ∃ L', L.take k ++ L.drop (k + 1) = L' := ⟨_, rfl⟩
  rw [hL'] at h'
  have hp : L.Perm (sp L k :: L') := by
    rw [← hL']
    have : L = L.take k ++ sp L k :: L.drop (k + 1) := by
      rw [sp_in hk, List.getElem_cons_drop, List.take_append_drop]
    exact (List.Perm.of_eq this).trans List.perm_middle
  obtain ⟨s, hs⟩ : ∃ s, sp L k = s := ⟨_, rfl⟩
  rw [hs] at hp
  have hsL : s ∈ L := hs ▸ sp_mem hk
  have hup : s.up ≠ 0 := by
    intro h0
    have h1 := h.root
    have h2 := h'.root
    unfold roots at h1 h2
    rw [places_count, hp.countP_eq, List.countP_cons_of_pos (by simpa using h0), ← places_count, h2] at h1
    omega
  have hlo : lost_ L s = false := by
    rw [Bool.eq_false_iff]
    intro h0
    have h1 : k ∈ orphans L := places_mem.2 ⟨hk, by rw [hs]; exact h0⟩
    rw [List.length_eq_zero_iff.1 h.orph] at h1
    cases h1
  obtain ⟨p, hpL, hne, hid⟩ := (h.lost s hsL).other hup hlo
  have hp' : p ∈ L' := by
    have := hp.mem_iff.1 hpL
    rcases List.mem_cons.1 this with e | e
    · exact absurd e hne
    · exact e
  have hc : cnt L p = cnt L' p + 1 := by
    have hi0 : p.id ≠ 0 := by rw [hid]; exact hup
    unfold cnt
    rw [if_pos hi0, if_pos hi0, hp.countP_eq, List.countP_cons_of_pos (by simpa using hid.symm)]
  obtain ⟨i, hi, hei⟩ := sp_of_mem hpL
  have hok := h.ok i hi
  unfold okAt at hok
  rw [Bool.and_eq_true, kids_cnt hi, hei] at hok
  have hle : (cnt L p : Int) ≤ p.kd := by simpa using hok.1
  have hl := h'.lack
  rw [lacks_eq] at hl
  have := (sum_pos (A := L'.map (lackS L')) (by
    intro x hx
    obtain ⟨q, _, rfl⟩ := List.mem_map.1 hx
    unfold lackS; omega)).2 (lackS L' p) (List.mem_map.2 ⟨p, hp', rfl⟩)
  rw [hl] at this
  unfold lackS at this
  omega

/-! The same tree. -/
/-- L' is L in another order: place i of L' is place f i of L. -/
structure Re (L L' : List Sp) (f : Nat → Nat) : Prop where
  len : L'.length = L.length
  lt : ∀ i, i < L.length → f i < L.length
  inj : ∀ i j, i < L.length → j < L.length → f i = f j → i = j
  on : ∀ j, j < L.length → ∃ i, i < L.length ∧ f i = j
  at_ : ∀ i, i < L.length → sp L' i = sp L (f i)
theorem Re.refl (L : List Sp) : Re L L id := ⟨rfl, fun _ h => h, fun _ _ _ _ h => h, fun j h => ⟨j, h, rfl⟩, fun _ _ => rfl⟩
theorem Re.trans {L L' L'' : List Sp} {f g : Nat → Nat} (h : Re L L' f) (k : Re L' L'' g) : Re L L'' (f ∘ g) where
  len := k.len.trans h.len
  lt i hi := h.lt _ (by have := k.lt i (by rw [h.len]; exact hi); rwa [h.len] at this)
  inj i j hi hj e := by
    have a := k.lt i (by rw [h.len]; exact hi)
    have b := k.lt j (by rw [h.len]; exact hj)
    rw [h.len] at a b
    exact k.inj i j (by rw [h.len]; exact hi) (by rw [h.len]; exact hj) (h.inj _ _ a b e)
  on j hj := by
    obtain ⟨i, hi, e⟩ := h.on j hj
    obtain ⟨m, hm, e2⟩ := k.on i (by rw [h.len]; exact hi)
    exact ⟨m, by rw [h.len] at hm; exact hm, by simp [e2, e]⟩
  at_ i hi := by
    have a := k.lt i (by rw [h.len]; exact hi)
    rw [h.len] at a
    rw [k.at_ i (by rw [h.len]; exact hi), h.at_ _ a]
    rfl
theorem Re.perm {L L' : List Sp} {f : Nat → Nat} (h : Re L L' f) : L.Perm L' := by
  have hp : ((List.range L.length).map f).Perm (List.range L.length) := by
    rw [List.perm_ext_iff_of_nodup _ List.nodup_range]
    · intro x
      rw [List.mem_map]
      constructor
      · rintro ⟨i, hi, rfl⟩; simpa using h.lt i (by simpa using hi)
      · intro hx
        obtain ⟨i, hi, e⟩ := h.on x (by simpa using hx)
        exact ⟨i, by simpa using hi, e⟩
    · rw [List.Nodup, List.pairwise_map]
      refine List.Pairwise.imp_of_mem ?_ List.nodup_range
      intro a b ha hb hne e
      exact hne (h.inj a b (by simpa using ha) (by simpa using hb) e)
  have e1 : ((List.range L.length).map f).map (sp L) = L' := by
    rw [List.map_map, ← range_sp L', h.len]
    apply List.map_congr_left
    intro i hi
    exact (h.at_ i (by simpa using hi)).symm
  have := (hp.map (sp L)).symm
  rwa [e1, range_sp] at this
theorem Re.kids {L L' : List Sp} {f : Nat → Nat} (h : Re L L' f) (hs : ∀ i, i < L'.length → (Tr.kids L' i).Pairwise fun x y => (sp L' x).sq < (sp L' y).sq) {i : Nat} (hi : i < L.length) : Tr.kids L (f i) = (Tr.kids L' i).map f := by
  have hlt : ∀ k ∈ Tr.kids L' i, k < L.length := fun k hk => by have := (kids_mem.1 hk).2.2.1; rwa [h.len] at this
  have hnd' : ((Tr.kids L' i).map f).Nodup := by
    rw [List.Nodup, List.pairwise_map]
    refine List.Pairwise.imp_of_mem ?_ (hs i (by rw [h.len]; exact hi))
    intro a b ha hb hlt' e
    have := h.inj a b (hlt a ha) (hlt b hb) e
    subst this
    omega
  have hso : ∀ j, So.Sorted (Tr.lt L) (Tr.kids L j) ∧ (Tr.kids L j).Nodup := by
    intro j
    unfold Tr.kids
    split
    · have := sort_sorted (L := L) (raw_sorted L j)
      refine ⟨this.1, ?_⟩
      rw [this.2.nodup_iff]
      exact (raw_sorted L j).imp fun hlt e => by subst e; exact Nat.lt_irrefl _ hlt
    · exact ⟨List.Pairwise.nil, List.nodup_nil⟩
  refine So.perm_eq (ord L) (hso _).1 ?_ ?_
  · unfold So.Sorted
    rw [List.pairwise_map]
    refine List.Pairwise.imp_of_mem ?_ (hs i (by rw [h.len]; exact hi))
    intro a b ha hb hab
    rw [h.at_ a (hlt a ha), h.at_ b (hlt b hb)] at hab
    exact .inl hab
  · rw [List.perm_ext_iff_of_nodup (hso _).2 hnd']
    intro x
    rw [List.mem_map, kids_mem]
    constructor
    · rintro ⟨_, hid, hx, hu⟩
      obtain ⟨j, hj, rfl⟩ := h.on x hx
      refine ⟨j, kids_mem.2 ⟨by rw [h.len]; exact hi, ?_, by rw [h.len]; exact hj, ?_⟩, rfl⟩
      · rw [h.at_ i hi]; exact hid
      · rw [h.at_ i hi, h.at_ j hj]; exact hu
    · rintro ⟨j, hj, rfl⟩
      obtain ⟨a, b, c, d⟩ := kids_mem.1 hj
      rw [h.len] at c
      rw [h.at_ i hi] at b d
      rw [h.at_ j c] at d
      exact ⟨h.lt i hi, b, h.lt j c, d⟩
theorem dfs_re {K K' : Nat → List Nat} {f : Nat → Nat} {N : Nat} (hK' : ∀ x, x < N → ∀ k ∈ K' x, k < N) (hinj : ∀ i j, i < N → j < N → f i = f j → i = j) (hk : ∀ x, x < N → K (f x) = (K' x).map f) :
    ∀ m x d out, x < N → (∀ y ∈ out.map Prod.fst, y < N) → (∀ y ∈ (dfs K' m x d out).map Prod.fst, y < N) ∧ (dfs K' m x d out).map (fun p => (f p.1, p.2)) = dfs K m (f x) d (out.map fun p => (f p.1, p.2))
  | 0, x, d, out, hx, ho => ⟨by simpa [dfs] using ho, by simp [dfs]⟩
  | m + 1, x, d, out, hx, ho => by
    have hin : (f x ∈ (out.map fun p => (f p.1, p.2)).map Prod.fst) ↔ x ∈ out.map Prod.fst := by
      rw [List.map_map, List.mem_map, List.mem_map]
      constructor
      · rintro ⟨p, hp, e⟩
        exact ⟨p, hp, hinj _ _ (ho _ (List.mem_map.2 ⟨p, hp, rfl⟩)) hx e⟩
      · rintro ⟨p, hp, e⟩
        exact ⟨p, hp, by simp [e]⟩
    by_cases hm : x ∈ out.map Prod.fst
    · have e1 : dfs K' (m + 1) x d out = out := by unfold dfs; rw [if_pos hm]
      have e2 : dfs K (m + 1) (f x) d (out.map fun p => (f p.1, p.2)) = (out.map fun p => (f p.1, p.2)) := by unfold dfs; rw [if_pos (hin.2 hm)]
      rw [e1, e2]
      exact ⟨ho, rfl⟩
    · have e1 : dfs K' (m + 1) x d out = (K' x).foldl (fun s k => dfs K' m k (d + 1) s) (out ++ [(x, d)]) := by conv => lhs; unfold dfs; rw [if_neg hm]
      have e2 : dfs K (m + 1) (f x) d (out.map fun p => (f p.1, p.2)) = (K (f x)).foldl (fun s k => dfs K m k (d + 1) s) ((out.map fun p => (f p.1, p.2)) ++ [(f x, d)]) := by conv => lhs; unfold dfs; rw [if_neg (fun h => hm (hin.1 h))]
      rw [e1, e2, hk x hx]
      have key : ∀ (A : List Nat) (s : List (Nat × Nat)), (∀ k ∈ A, k < N) → (∀ y ∈ s.map Prod.fst, y < N) →
          (∀ y ∈ (A.foldl (fun s k => dfs K' m k (d + 1) s) s).map Prod.fst, y < N) ∧ (A.foldl (fun s k => dfs K' m k (d + 1) s) s).map (fun p => (f p.1, p.2)) = (A.map f).foldl (fun s k => dfs K m k (d + 1) s) (s.map fun p => (f p.1, p.2)) := by
        intro A
        induction A with
        | nil => intro s _ hs; exact ⟨hs, rfl⟩
        | cons k A ih =>
          intro s hA hs
          have h1 := dfs_re hK' hinj hk m k (d + 1) s (hA k (by simp)) hs
          have h2 := ih _ (fun k' hk' => hA k' (List.mem_cons_of_mem k hk')) h1.1
          refine ⟨h2.1, ?_⟩
          rw [List.foldl_cons, h2.2, h1.2]
          rfl
      have := key (K' x) (out ++ [(x, d)]) (hK' x hx) (by
        intro y hy
        rw [List.map_append, List.mem_append] at hy
        rcases hy with hy | hy
        · exact ho y hy
        · simp at hy; subst hy; exact hx)
      rw [List.map_append] at this
      exact this
theorem Re.walk {L L' : List Sp} {f : Nat → Nat} (h : Re L L' f) (hs : ∀ i, i < L'.length → (Tr.kids L' i).Pairwise fun x y => (sp L' x).sq < (sp L' y).sq) {r : Nat} (hr : r < L.length) : Tr.walk L (f r) = (Tr.walk L' r).map fun p => (f p.1, p.2) := by
  rw [walk_dfs (f := L.length + 1) (h.lt r hr) (by omega), walk_dfs (f := L.length + 1) (by rw [h.len]; exact hr) (by rw [h.len]; omega)]
  have := (dfs_re (K := Tr.kids L) (K' := Tr.kids L') (f := f) (N := L.length) (fun x hx k hk => by have := (kids_mem.1 hk).2.2.1; rwa [h.len] at this) h.inj (fun x hx => h.kids hs hx) (L.length + 1) r 0 [] hr (by simp)).2
  exact this.symm
/-- The roots of two such, where there is one. -/
theorem Re.root {L L' : List Sp} {f : Nat → Nat} (h : Re L L' f) {r r' : Nat} (hr : roots L = [r]) (hr' : roots L' = [r']) : r' < L.length ∧ r = f r' := by
  have h1 : r' ∈ roots L' := by rw [hr']; simp
  obtain ⟨a, b⟩ := places_mem.1 h1
  rw [h.len] at a
  rw [h.at_ r' a] at b
  have h2 : f r' ∈ roots L := places_mem.2 ⟨h.lt _ a, b⟩
  rw [hr] at h2
  simp at h2
  exact ⟨a, h2.symm⟩
/-- Two spans change their places. -/
theorem Re.swap {L : List Sp} {i j : Nat} (hi : i < L.length) (hj : j < L.length) : Re L ((L.set i (sp L j)).set j (sp L i)) (fun k => if k = j then i else if k = i then j else k) where
  len := by simp
  lt k hk := by (try dsimp only); split <;> (try split) <;> omega
  inj a b ha hb e := by
    try dsimp only at e
    split at e <;> split at e <;> (try split at e) <;> (try split at e) <;> omega
  on k hk := ⟨if k = j then i else if k = i then j else k, by split <;> (try split) <;> omega, by (try dsimp only); split <;> (try split) <;> (try split) <;> omega⟩
  at_ k hk := by
    rw [sp_in (by simpa using hk), List.getElem_set, List.getElem_set]
    try dsimp only
    by_cases h1 : k = j
    · subst h1; simp
    · by_cases h2 : k = i
      · subst h2; simp [h1, Ne.symm h1]
      · simp [h1, h2, Ne.symm h1, Ne.symm h2, sp_in hk]
end Tr
end Go.Proofs.YtfbhdkkmcfnghaaGreat
end
