/- What a collector holds is the same in whatever order its spans came, if nothing had to go. In plain Lean. No condition.; Batches as texts, fed to a collector, in plain Lean. No condition.; Walks of the reference's at, Get, Traces, with. Conditions: memory of traces; lists not longer than a thousand. -/
import Derived.Test.YtfbhdkkmcfnghaaGreatM38
import Derived.Test.YtfbhdkkmcfnghaaGreatM17
import Derived.BigQuiet

section
namespace Go.Proofs.YtfbhdkkmcfnghaaGreat
set_option linter.unusedVariables false

def Sp.tr (s : Sp) : Nat × Nat := (s.hi, s.lo)
namespace St
theorem perm_of_nodup {α : Type} : ∀ {A B : List α}, A.Nodup → B.Nodup → (∀ x, x ∈ A ↔ x ∈ B) → A.Perm B
  | [], B, _, _, h => by
    have : B = [] := by
      rcases B with _ | ⟨b, t⟩
      · rfl
      · have := (h b).2 (by simp)
        cases this
    rw [this]
  | a :: t, B, h1, h2, h => by
    have ha := (h a).1 (by simp)
    obtain ⟨B1, B2, rfl⟩ := List.append_of_mem ha
    have hp : (B1 ++ a :: B2).Perm (a :: (B1 ++ B2)) := List.perm_middle
    have h2' := hp.nodup h2
    have h1' := List.nodup_cons.1 h1
    have h2'' := List.nodup_cons.1 h2'
    refine (List.Perm.cons a (perm_of_nodup h1'.2 h2''.2 (fun x => ⟨fun hx => ?_, fun hx => ?_⟩))).trans hp.symm
    · have := (hp.mem_iff).1 ((h x).1 (List.mem_cons_of_mem _ hx))
      rcases List.mem_cons.1 this with rfl | this
      · exact absurd hx h1'.1
      · exact this
    · have := (h x).2 ((hp.mem_iff).2 (List.mem_cons_of_mem _ hx))
      rcases List.mem_cons.1 this with rfl | this
      · exact absurd hx h2''.1
      · exact this
/-- What a trace holds of the spans that came. -/
structure OneK (S : List Sp) (k : Kp) : Prop where
  x : k.x = false
  ids : (k.L.map Sp.id).Nodup
  sub : ∀ y ∈ k.L, y ∈ S ∧ y.tr = k.tr
  all : k.c = false → ∀ s ∈ S, s.tr = k.tr → s ∈ k.L
  con : k.c = true → ∃ s ∈ S, ∃ s' ∈ S, s.tr = k.tr ∧ s'.tr = k.tr ∧ s.id = s'.id ∧ s ≠ s'
  len : k.L.length ≤ S.length
structure InvK (S : List Sp) (K : List Kp) : Prop where
  un : (K.map Kp.tr).Nodup
  tr : ∀ p, p ∈ K.map Kp.tr ↔ ∃ s ∈ S, s.tr = p
  each : ∀ k ∈ K, OneK S k
theorem InvK.nil : InvK [] [] := ⟨by simp, by simp, by simp⟩
theorem OneK.other {S : List Sp} {k : Kp} {s : Sp} (h : OneK S k) (hs : s.tr ≠ k.tr) : OneK (S ++ [s]) k where
  x := h.x
  ids := h.ids
  sub y hy := ⟨List.mem_append_left _ (h.sub y hy).1, (h.sub y hy).2⟩
  all hc y hy ht := by
    rcases List.mem_append.1 hy with hy | hy
    · exact h.all hc y hy ht
    · obtain rfl := List.mem_singleton.1 hy
      exact absurd ht hs
  con hc := by
    obtain ⟨a, ha, b, hb, h1⟩ := h.con hc
    exact ⟨a, List.mem_append_left _ ha, b, List.mem_append_left _ hb, h1⟩
  len := by have := h.len; simp; omega
theorem OneK.put {S : List Sp} {k : Kp} {s : Sp} (h : OneK S k) (hs : s.tr = k.tr) (hl : S.length < 64) : OneK (S ++ [s]) (putK k s) := by
  cases hf : k.L.findIdx? (idIs s) with
  | some i =>
    obtain ⟨hi, hp⟩ := find_at hf
    have hid : k.L[i].id = s.id := by simpa [idIs] using hp
    have hm := List.getElem_mem hi
    rw [putK_some hf hi]
    refine ⟨h.x, h.ids, fun y hy => ⟨List.mem_append_left _ (h.sub y hy).1, (h.sub y hy).2⟩, fun hc y hy ht => ?_, fun hc => ?_, by have := h.len; simp; omega⟩
    · simp only [Bool.or_eq_false_iff, Bool.not_eq_false'] at hc
      rcases List.mem_append.1 hy with hy | hy
      · exact h.all hc.1 y hy ht
      · obtain rfl := List.mem_singleton.1 hy
        rw [← Sp.eq_iff.1 hc.2]
        exact hm
    · simp only [Bool.or_eq_true, Bool.not_eq_true'] at hc
      rcases hc with hc | hc
      · obtain ⟨a, ha, b, hb, h1⟩ := h.con hc
        exact ⟨a, List.mem_append_left _ ha, b, List.mem_append_left _ hb, h1⟩
      · exact ⟨k.L[i], List.mem_append_left _ (h.sub _ hm).1, s, List.mem_append_right _ (by simp), (h.sub _ hm).2, hs, hid, fun e => by
          rw [e, Sp.eq_iff.2 rfl] at hc
          cases hc⟩
  | none =>
    have hno : ∀ y ∈ k.L, y.id ≠ s.id := by
      rw [List.findIdx?_eq_none_iff] at hf
      intro y hy
      have := hf y hy
      simpa [idIs] using this
    rw [putK_new hf (by have := h.len; omega)]
    refine ⟨h.x, ?_, fun y hy => ?_, fun hc y hy ht => ?_, fun hc => ?_, by have := h.len; simp; omega⟩
    · simp only [List.map_append, List.map_cons, List.map_nil]
      rw [List.nodup_append]
      refine ⟨h.ids, by simp, fun a ha b hb e => ?_⟩
      obtain ⟨y, hy, rfl⟩ := List.mem_map.1 ha
      obtain rfl := List.mem_singleton.1 hb
      exact hno y hy e
    · rcases List.mem_append.1 hy with hy | hy
      · exact ⟨List.mem_append_left _ (h.sub y hy).1, (h.sub y hy).2⟩
      · obtain rfl := List.mem_singleton.1 hy
        exact ⟨List.mem_append_right _ (by simp), hs⟩
    · rcases List.mem_append.1 hy with hy | hy
      · exact List.mem_append_left _ (h.all hc y hy ht)
      · exact List.mem_append_right _ hy
    · obtain ⟨a, ha, b, hb, h1⟩ := h.con hc
      exact ⟨a, List.mem_append_left _ ha, b, List.mem_append_left _ hb, h1⟩
theorem OneK.first {S : List Sp} {s : Sp} (hn : ∀ y ∈ S, y.tr ≠ s.tr) : OneK (S ++ [s]) (one s) where
  x := rfl
  ids := by simp [one]
  sub y hy := by
    obtain rfl : y = s := by simpa [one] using hy
    exact ⟨List.mem_append_right _ (by simp), rfl⟩
  all _ y hy ht := by
    rcases List.mem_append.1 hy with hy | hy
    · exact absurd ht (hn y hy)
    · obtain rfl := List.mem_singleton.1 hy
      simp [one]
  con hc := by simp [one] at hc
  len := by simp [one]
theorem nodup_other {α β : Type} {f : α → β} {l : List α} (h : (l.map f).Nodup) {i : Nat} (hi : i < l.length) {k : α} (hk : k ∈ l.take i ∨ k ∈ l.drop (i + 1)) : f k ≠ f l[i] := by
  have e := congrArg (List.map f) (map_mid hi)
  rw [List.map_append, List.map_cons] at e
  rw [e, List.nodup_append] at h
  obtain ⟨h1, h2, h3⟩ := h
  rcases hk with hk | hk
  · exact h3 _ (List.mem_map_of_mem hk) _ (by simp)
  · have := (List.nodup_cons.1 h2).1
    intro e2
    exact this (e2 ▸ List.mem_map_of_mem hk)
theorem InvK.next {S : List Sp} {K : List Kp} {r : Int} {s : Sp} (h : InvK S K) (hl : S.length < 64) (h0 : (add K r s).2 = 0) : InvK (S ++ [s]) (add K r s).1 := by
  have hun := add_un h.un r s
  cases ho : at_ K s.hi s.lo with
  | some i =>
    obtain ⟨hi, e⟩ := add_some (r := r) ho
    obtain ⟨_, hp⟩ := find_at ho
    have hti : s.tr = K[i].tr := by
      simp only [is_, Bool.and_eq_true, beq_iff_eq] at hp
      unfold Sp.tr Kp.tr
      rw [hp.1, hp.2]
    rw [e] at hun ⊢
    simp only at hun ⊢
    refine ⟨hun, fun p => ?_, fun k hk => ?_⟩
    · rw [map_take_mid hi _ (putK_tr _ _), h.tr p]
      constructor
      · rintro ⟨y, hy, e⟩
        exact ⟨y, List.mem_append_left _ hy, e⟩
      · rintro ⟨y, hy, e3⟩
        rcases List.mem_append.1 hy with hy | hy
        · exact ⟨y, hy, e3⟩
        · obtain rfl := List.mem_singleton.1 hy
          rw [← h.tr p, ← e3, hti]
          exact List.mem_map_of_mem (List.getElem_mem hi)
    · simp only [List.append_assoc, List.cons_append, List.nil_append, List.mem_append, List.mem_cons] at hk
      rcases hk with hk | rfl | hk
      · exact (h.each k (List.mem_of_mem_take hk)).other (fun e => nodup_other h.un hi (.inl hk) (by rw [← e, hti]))
      · exact (h.each _ (List.getElem_mem hi)).put hti hl
      · exact (h.each k (List.mem_of_mem_drop hk)).other (fun e => nodup_other h.un hi (.inr hk) (by rw [← e, hti]))
  | none =>
    have hno := at_none_not ho
    rw [add_none ho] at hun h0 ⊢
    simp only at hun h0 ⊢
    rw [h0, List.drop_zero] at hun ⊢
    have hns : ∀ y ∈ S, y.tr ≠ s.tr := fun y hy e => hno ((h.tr (s.hi, s.lo)).2 ⟨y, hy, e⟩)
    refine ⟨hun, fun p => ?_, fun k hk => ?_⟩
    · rw [List.map_append, List.mem_append, h.tr p]
      constructor
      · rintro (⟨y, hy, e⟩ | hp)
        · exact ⟨y, List.mem_append_left _ hy, e⟩
        · exact ⟨s, List.mem_append_right _ (by simp), by simpa [one, Kp.tr, Sp.tr, eq_comm] using hp⟩
      · rintro ⟨y, hy, e⟩
        rcases List.mem_append.1 hy with hy | hy
        · exact .inl ⟨y, hy, e⟩
        · obtain rfl := List.mem_singleton.1 hy
          exact .inr (by rw [← e]; simp [one, Kp.tr, Sp.tr])
    · rcases List.mem_append.1 hk with hk | hk
      · exact (h.each k hk).other (fun e => hno (by rw [show (s.hi, s.lo) = k.tr from e]; exact List.mem_map_of_mem hk))
      · obtain rfl := List.mem_singleton.1 hk
        exact OneK.first hns
theorem invK_adds (r : Int) : ∀ S : List Sp, S.length ≤ 64 → (Co.adds r S [] 0).2 = 0 → InvK S (Co.adds r S [] 0).1 := fun S => by
  refine snoc_ind (P := fun S : List Sp => S.length ≤ 64 → (Co.adds r S [] 0).2 = 0 → InvK S (Co.adds r S [] 0).1) (fun _ _ => InvK.nil) (fun S s ih hl h0 => ?_) S
  rw [Co.adds_snoc] at h0 ⊢
  simp only [List.length_append, List.length_cons, List.length_nil] at hl
  simp only at h0 ⊢
  exact (ih (by omega) (by omega)).next (by omega) (by omega)
/-- The same trace of the same spans. -/
theorem OneK.same {S S' : List Sp} {k k' : Kp} (h : OneK S k) (h' : OneK S' k') (hS : ∀ s, s ∈ S ↔ s ∈ S') (ht : k.tr = k'.tr) : k.c = k'.c ∧ (k.c = false → k.L.Perm k'.L) := by
  have key : ∀ {S S' : List Sp} {k k' : Kp}, OneK S k → OneK S' k' → (∀ s, s ∈ S ↔ s ∈ S') → k.tr = k'.tr → k.c = true → k'.c = true := by
    intro S S' k k' h h' hS ht hc
    obtain ⟨a, ha, b, hb, h1, h2, h3, h4⟩ := h.con hc
    cases hc' : k'.c with
    | true => rfl
    | false =>
      exfalso
      have ka := h'.all hc' a ((hS a).1 ha) (by rw [h1, ht])
      have kb := h'.all hc' b ((hS b).1 hb) (by rw [h2, ht])
      have hpw := List.pairwise_iff_getElem.1 h'.ids
      obtain ⟨i, hi, ei⟩ := List.getElem_of_mem ka
      obtain ⟨j, hj, ej⟩ := List.getElem_of_mem kb
      rcases Nat.lt_trichotomy i j with hlt | rfl | hlt
      · exact hpw i j (by simpa using hi) (by simpa using hj) hlt (by simp [ei, ej, h3])
      · exact h4 (ei.symm.trans ej)
      · exact hpw j i (by simpa using hj) (by simpa using hi) hlt (by simp [ei, ej, h3])
  refine ⟨?_, fun hc => ?_⟩
  · cases hc : k.c with
    | true => exact (key h h' hS ht hc).symm
    | false =>
      cases hc' : k'.c with
      | false => rfl
      | true =>
        have := key h' h (fun s => (hS s).symm) ht.symm hc'
        rw [hc] at this
        cases this
  · have hc' : k'.c = false := by
      cases hc' : k'.c with
      | false => rfl
      | true =>
        have := key h' h (fun s => (hS s).symm) ht.symm hc'
        rw [hc] at this
        cases this
    have n1 : k.L.Nodup := by
      have := h.ids
      rw [List.Nodup, List.pairwise_map] at this
      exact this.imp (fun hne e => hne (by rw [e]))
    have n2 : k'.L.Nodup := by
      have := h'.ids
      rw [List.Nodup, List.pairwise_map] at this
      exact this.imp (fun hne e => hne (by rw [e]))
    refine perm_of_nodup n1 n2 (fun s => ⟨fun hs => ?_, fun hs => ?_⟩)
    · exact h'.all hc' s ((hS s).1 (h.sub s hs).1) (by rw [(h.sub s hs).2, ht])
    · exact h.all hc s ((hS s).2 (h'.sub s hs).1) (by rw [(h'.sub s hs).2, ht])
end St
namespace Co
/-- What is said is the same, and so are trees. -/
theorem order_same {r : Int} {S S' : List Sp} (hp : S.Perm S') (hl : S.length ≤ 64) (h0 : (adds r S [] 0).2 = 0) (h0' : (adds r S' [] 0).2 = 0) :
    (adds r S [] 0).1.length = (adds r S' [] 0).1.length ∧ ∀ k ∈ (adds r S [] 0).1, saidK (St.get (adds r S [] 0).1 k.hi k.lo) = saidK (St.get (adds r S' [] 0).1 k.hi k.lo) ∧ treeK (St.get (adds r S [] 0).1 k.hi k.lo) = treeK (St.get (adds r S' [] 0).1 k.hi k.lo) ∧ wholeK (St.get (adds r S [] 0).1 k.hi k.lo) = wholeK (St.get (adds r S' [] 0).1 k.hi k.lo) := by
  have h1 := St.invK_adds r S hl h0
  have h2 := St.invK_adds r S' (by rw [← hp.length_eq]; exact hl) h0'
  generalize (adds r S [] 0).1 = K at *
  generalize (adds r S' [] 0).1 = K' at *
  have hS : ∀ s, s ∈ S ↔ s ∈ S' := fun s => hp.mem_iff
  refine ⟨?_, fun k hk => ?_⟩
  · have := (St.perm_of_nodup h1.un h2.un (fun p => by
      rw [h1.tr p, h2.tr p]
      exact ⟨fun ⟨s, hs, e⟩ => ⟨s, (hS s).1 hs, e⟩, fun ⟨s, hs, e⟩ => ⟨s, (hS s).2 hs, e⟩⟩)).length_eq
    simpa using this
  · have hm : k.tr ∈ K'.map Kp.tr := by
      rw [h2.tr]
      obtain ⟨s, hs, e⟩ := (h1.tr k.tr).1 (List.mem_map_of_mem hk)
      exact ⟨s, (hS s).1 hs, e⟩
    obtain ⟨k', hk', e⟩ := List.mem_map.1 hm
    have e1 : k'.hi = k.hi := congrArg Prod.fst e
    have e2 : k'.lo = k.lo := congrArg Prod.snd e
    have g2 := St.get_self h2.un hk'
    rw [e1, e2] at g2
    rw [St.get_self h1.un hk, g2]
    have o1 := h1.each k hk
    have o2 := h2.each k' hk'
    obtain ⟨hc, hL⟩ := o1.same o2 hS e.symm
    unfold wholeK
    simp only [saidK, treeK, if_true]
    rw [o1.x, o2.x, ← hc]
    cases hcc : k.c with
    | true =>
      have s1 : ∀ L : List Sp, Tr.said L false true = 2 := fun L => by
        unfold Tr.said Tr.clashes
        simp
      rw [s1, s1, Tr.treeN_no (by rw [s1]; decide), Tr.treeN_no (by rw [s1]; decide)]
      exact ⟨rfl, rfl, rfl⟩
    | false =>
      obtain ⟨f, hf⟩ := Tr.Re.of_perm (hL hcc)
      obtain ⟨a1, _, a3⟩ := hf.same false false
      rw [a1, a3]
      exact ⟨rfl, rfl, rfl⟩
end Co
end Go.Proofs.YtfbhdkkmcfnghaaGreat
end

section
namespace Go.Proofs.YtfbhdkkmcfnghaaGreat
set_option linter.unusedVariables false

theorem body_len33 {x y : Int} {L : List Sp} (h : btCheck x y L = 0) : (seal_ (btBody x y L)).length ≤ 3000 := by
  obtain ⟨hp, h0, h16, hck⟩ := btCheck_good h
  have hsl := spans_len hck
  have p1 := (put_len x.toNat).2
  have p2 := (put_len y.toNat).2
  have p3 := (put_len L.length).2
  have hd := Oc.digs_len 256 4 (Crc.of (btBody x y L))
  have e : btBody x y L = [80, 66, 1] ++ (Vr.put x.toNat ++ (Vr.put y.toNat ++ (Vr.put L.length ++ L.flatMap spanBytes))) := by simp [btBody]
  have hbl : (btBody x y L).length = 3 + (Vr.put x.toNat).length + (Vr.put y.toNat).length + (Vr.put L.length).length + (L.flatMap spanBytes).length := by rw [e]; simp; omega
  unfold seal_
  rw [List.length_append, hd]
  omega
namespace Co
/-- What a batch's text is. -/
def txt (m : Bm) : List UInt8 := seal_ (btBody m.n m.q m.L)
def good (m : Bm) : Bool := btCheck m.n m.q m.L == 0
theorem good_iff {m : Bm} : good m = true ↔ btCheck m.n m.q m.L = 0 := by simp [good]
theorem txt_len {m : Bm} (h : good m = true) : (txt m).length ≤ 3000 := body_len33 (good_iff.1 h)
theorem write_good {m : Bm} (h : good m = true) : btWrite m.n m.q m.L = (txt m, 0) := by
  unfold btWrite
  rw [if_pos (good_iff.1 h)]
  rfl
theorem write_bad {m : Bm} (h : good m = false) : (btWrite m.n m.q m.L).2 ≠ 0 := by
  have h1 : btCheck m.n m.q m.L ≠ 0 := fun e => by rw [good_iff.2 e] at h; cases h
  unfold btWrite
  rw [if_neg h1]
  exact h1
theorem recv_txt (c : Co) {m : Bm} (h : good m = true) (hf : ∀ s ∈ m.L, s.fits) : (c.recv (txt m)).1 = c.add m.n m.q m.L := by
  have hb := read_back (good_iff.1 h) hf
  have hp := (btCheck_good (good_iff.1 h)).1
  simp only [placeB, Bool.and_eq_true, decide_eq_true_eq] at hp
  unfold recv txt
  rw [hb, if_neg (by simp)]
  simp only
  rw [Int.toNat_of_nonneg hp.1.1.1, Int.toNat_of_nonneg hp.1.2]
theorem good_bad {m : Bm} (h : good m = true) : Dd.bad m.n m.q = false := by
  have hp := (btCheck_good (good_iff.1 h)).1
  simp only [placeB, Bool.and_eq_true, decide_eq_true_eq] at hp
  simp only [Dd.bad, Bool.or_eq_false_iff, decide_eq_false_iff_not]
  omega
/-- What holds of the batches that were looked at. -/
structure Seen33 (l : List Bm) : Prop where
  un : (l.map fun m => (m.n, m.q)).Nodup
  low : ∀ m ∈ l, m.q ≤ 99 ∧ m.L.length ≤ 5
theorem Seen33.nil : Seen33 [] := ⟨by simp, by simp⟩
theorem Seen33.more {l : List Bm} {m : Bm} (h : Seen33 l) (h1 : m.q ≤ 99) (h2 : m.L.length ≤ 5) (h3 : ∀ x ∈ l, ¬ (x.n = m.n ∧ x.q = m.q)) : Seen33 (l ++ [m]) := by
  refine ⟨?_, fun x hx => ?_⟩
  · rw [List.map_append, List.nodup_append]
    refine ⟨h.un, by simp, fun a ha b hb e => ?_⟩
    obtain ⟨x, hx, rfl⟩ := List.mem_map.1 ha
    obtain rfl : b = (m.n, m.q) := by simpa using hb
    exact h3 x hx (Prod.mk.inj e)
  · rcases List.mem_append.1 hx with hx | hx
    · exact h.low x hx
    · obtain rfl := List.mem_singleton.1 hx
      exact ⟨h1, h2⟩
theorem Seen33.unl {l : List Bm} (h : Seen33 l) : Unl (l.filter good) :=
  ⟨List.Sublist.nodup (List.Sublist.map _ (List.filter_sublist)) h.un, fun m hm => ⟨good_bad (List.mem_filter.1 hm).2, (h.low m (List.mem_filter.1 hm).1).1⟩⟩
theorem Unl.rev {M : List Bm} (h : Unl M) : Unl M.reverse :=
  ⟨by rw [List.map_reverse]; exact (List.reverse_perm _).symm.nodup h.un, fun m hm => h.ok m (List.mem_reverse.1 hm)⟩
theorem spans_few : ∀ {l : List Bm}, (∀ m ∈ l, m.L.length ≤ 5) → (l.flatMap Bm.L).length ≤ 5 * l.length
  | [], _ => by simp
  | m :: t, h => by
    have h1 := h m (by simp)
    have h2 := spans_few (l := t) (fun x hx => h x (by simp [hx]))
    simp only [List.flatMap_cons, List.length_append, List.length_cons]
    omega
/-- What stands at the end, in the one order and in the other. -/
theorem feed_order {l : List Bm} (h : Seen33 l) (hl : l.length ≤ 12) (r : Int) (h0 : (feed ⟨r, [], [], 0, 0, 0, 0⟩ (l.filter good)).ev = 0) (h0' : (feed ⟨r, [], [], 0, 0, 0, 0⟩ (l.filter good).reverse).ev = 0) :
    (feed ⟨r, [], [], 0, 0, 0, 0⟩ (l.filter good)).tk = (l.filter good).length ∧
    (feed ⟨r, [], [], 0, 0, 0, 0⟩ (l.filter good)).trs.length = (feed ⟨r, [], [], 0, 0, 0, 0⟩ (l.filter good).reverse).trs.length ∧
    ∀ k ∈ (feed ⟨r, [], [], 0, 0, 0, 0⟩ (l.filter good)).K, saidK (St.get (feed ⟨r, [], [], 0, 0, 0, 0⟩ (l.filter good)).K k.hi k.lo) = saidK (St.get (feed ⟨r, [], [], 0, 0, 0, 0⟩ (l.filter good).reverse).K k.hi k.lo) ∧ treeK (St.get (feed ⟨r, [], [], 0, 0, 0, 0⟩ (l.filter good)).K k.hi k.lo) = treeK (St.get (feed ⟨r, [], [], 0, 0, 0, 0⟩ (l.filter good).reverse).K k.hi k.lo) ∧ wholeK (St.get (feed ⟨r, [], [], 0, 0, 0, 0⟩ (l.filter good)).K k.hi k.lo) = wholeK (St.get (feed ⟨r, [], [], 0, 0, 0, 0⟩ (l.filter good).reverse).K k.hi k.lo) := by
  have hu := h.unl
  have hfew := spans_few (l := l.filter good) (fun m hm => (h.low m (List.mem_filter.1 hm).1).2)
  have hfl := List.length_filter_le good l
  generalize l.filter good = M at *
  have f1 := (feed_is r M hu).2
  have f2 := (feed_is r M.reverse hu.rev).2
  have e1 : (feed ⟨r, [], [], 0, 0, 0, 0⟩ M).ev = (adds r (M.flatMap Bm.L) [] 0).2 := by rw [f1]
  have e2 : (feed ⟨r, [], [], 0, 0, 0, 0⟩ M.reverse).ev = (adds r (M.reverse.flatMap Bm.L) [] 0).2 := by rw [f2]
  have k1 : (feed ⟨r, [], [], 0, 0, 0, 0⟩ M).K = (adds r (M.flatMap Bm.L) [] 0).1 := by rw [f1]
  have k2 : (feed ⟨r, [], [], 0, 0, 0, 0⟩ M.reverse).K = (adds r (M.reverse.flatMap Bm.L) [] 0).1 := by rw [f2]
  have t1 : (feed ⟨r, [], [], 0, 0, 0, 0⟩ M).tk = M.length := by rw [f1]
  rw [e1] at h0
  rw [e2] at h0'
  have hp : (M.flatMap Bm.L).Perm (M.reverse.flatMap Bm.L) := List.Perm.flatMap_right _ (List.reverse_perm M).symm
  obtain ⟨o1, o2⟩ := order_same hp (by omega) h0 h0'
  unfold trs
  rw [k1, k2, t1]
  exact ⟨rfl, by simpa using o1, o2⟩
end Co
end Go.Proofs.YtfbhdkkmcfnghaaGreat
end

section
namespace Go.Proofs.YtfbhdkkmcfnghaaGreat
open Go.RowKit
set_option linter.unusedVariables false
set_option linter.unusedSimpArgs false

theorem km_first {b off i : Nat} {m : Km} {w : World} (h : w.rangeAt b (off + i * 5) m.cells) : w.cell? ⟨b, off + i * 5, none⟩ = some (.int .u64 (m.k.hi : Int)) ∧ w.cell? ⟨b, off + i * 5 + 1, none⟩ = some (.int .u64 (m.k.lo : Int)) := ⟨by have := h 0 _ rfl; simpa using this, h 1 _ rfl⟩
set_option maxHeartbeats 2000000 in
set_option maxRecDepth 100000 in
theorem rAt_any (hi lo : Nat) (A : Option Addr) (cap : Nat) (R : List Km) (w : World) (hS : SlR w 5 (.slice A R.length cap) (R.map Km.cells)) (hn : R.length ≤ 1000) :
    Calls Tryz.prog 35 #[.slice A R.length cap, .agg #[.int .u64 (hi : Int), .int .u64 (lo : Int)]] w fun e w' => e = .returned (.int .i64 (St.ixInt (St.at_ (R.map Km.k) hi lo))) ∧ Below w.heap.size w w' := by
  have ba := Below.alloc' (Below.self w) (.cells #[.int .u64 (hi : Int), .int .u64 (lo : Int)] 25)
  have hk := Held.made w [.int .u64 (hi : Int), .int .u64 (lo : Int)] 25
  have HS := Stow.mk (SlR.keep hS ba)
  obtain ⟨W, hW⟩ : ∃ W, w.alloc (.cells #[.int .u64 (hi : Int), .int .u64 (lo : Int)] 25) = W := ⟨_, rfl⟩
  rw [show w.alloc (.cells [.int .u64 (hi : Int), .int .u64 (lo : Int)].toArray 25) = W from hW] at hk
  rw [hW] at ba HS
  have HB := Stow.mk ba
  have HW := Stow.mk hW
  have HX := Stow.mk hk
  clear ba hk hW hS
  go_enter Tryz.func35, Tryz.ntmps35
  go_upto_region 1 with fail
  generalize hX : World.alloc w _ = X
  obtain rfl : W = X := HW.out.symm.trans hX
  clear hX HW
  go_wp2_with fail
  go_loopw [5] (fun u wr => ∃ i : Nat, u = .int .i64 (i : Int) ∧ i ≤ R.length ∧ Stow (∀ j (hj : j < R.length), j < i → St.is_ hi lo R[j].k = false) ∧ Stow (Below W.heap.size W wr)) (fun u _ => R.length - (intOf u).toNat)
  case atStart => exact ⟨0, rfl, by omega, ⟨fun j _ h => by omega⟩, ⟨Below.self _⟩⟩
  case round =>
    obtain ⟨i, rfl, hi', HN, HBR⟩ := hrel
    by_cases hlt : i < R.length
    · obtain ⟨b, off, rfl, hblt, _⟩ := HS.out.open (by simp; omega)
      have hra := (km_at (HS.out.keep HBR.out) hlt).2
      obtain ⟨m, hm⟩ : ∃ m, R[i] = m := ⟨_, rfl⟩
      rw [hm] at hra
      obtain ⟨q0, q1⟩ := km_first hra
      have hbx := HX.out.kept HBR.out
      have d0 := hbx.cell (i := 0) rfl
      have d1 := hbx.cell (i := 1) rfl
      have hii : (i : Int) < R.length := by omega
      have hi0 : (0 : Int) ≤ i := by omega
      have he := eql_tr m.k.hi m.k.lo hi lo
      obtain ⟨r, hr⟩ : ∃ r, (m.k.hi == hi && m.k.lo == lo) = r := ⟨_, rfl⟩
      rw [hr] at he
      have HPS : Stow (St.is_ hi lo (R[i]'hlt).k = r) := ⟨by rw [hm]; exact hr⟩
      clear hra hbx hr hm
      cases r
      · go_wp2_with fail
        go_quiet (fail)
        go_wp2_with fail
        exact ⟨⟨i + 1, rfl, by omega, ⟨fun j hj hji => by
          by_cases h : j < i
          · exact HN.out j hj h
          · obtain rfl : j = i := by omega
            exact HPS.out⟩, ⟨Below.drewN' HBR.out _⟩⟩, by simp [intOf]; omega⟩
      · go_wp2_with fail
        go_quiet (fail)
        go_wp2_with fail
        go_ret
        refine ⟨?_, Below.drewN' (HB.out.trans (HBR.out.mono HB.out.size)) _⟩
        rw [show St.at_ (R.map Km.k) hi lo = some i from St.find_some (by simpa using hlt) (by simpa using HPS.out) (fun j hj => by simpa using HN.out j (by omega) hj)]
        rfl
    · obtain rfl : i = R.length := by omega
      go_wp2_with fail
      go_ret
      refine ⟨?_, HB.out.trans (HBR.out.mono HB.out.size)⟩
      have hno : St.at_ (R.map Km.k) hi lo = none := by
        refine St.find_none (fun j hj => ?_)
        have hj' : j < R.length := by simpa using hj
        simpa using HN.out j hj' hj'
      rw [hno]
      rfl
theorem rGet_results (W : World) (g : Nat) (a b c d e f : Value) (tmps : Array Value) (hH : Held W g [a, b, c, d, e]) (h2 : tmps[4]?.getD undef = .pointer (some ⟨g, 0, none⟩)) (h3 : tmps[5]?.getD undef = f) :
    (results Tryz.f11 tmps).run Tryz.prog W = .ok (.tuple #[.agg #[a, b, c, d, e], f]) W := by
  have c0 := hH.cell (i := 0) rfl
  have c1 := hH.cell (i := 1) rfl
  have c2 := hH.cell (i := 2) rfl
  have c3 := hH.cell (i := 3) rfl
  have c4 := hH.cell (i := 4) rfl
  simp [results, Tryz.results11, go_sem, h2, h3, c0, c1, c2, c3, c4]
set_option maxHeartbeats 4000000 in
set_option maxRecDepth 100000 in
theorem rGet_any (A : Option Addr) (cap : Nat) (R : List Km) (hi lo : Nat) (w : World) (h : KsR w A cap R) (hn : R.length ≤ 1000) :
    Calls Tryz.prog 11 #[.slice A R.length cap, .agg #[.int .u64 (hi : Int), .int .u64 (lo : Int)]] w (KeptOut (St.get (R.map Km.k) hi lo) w) := by
  have ba := Below.alloc' (Below.self w) (.cells #[.int .u64 (hi : Int), .int .u64 (lo : Int)] 25)
  have bz := Below.alloc' (Below.self (w.alloc (.cells #[.int .u64 (hi : Int), .int .u64 (lo : Int)] 25))) (.cells #[.int .u64 0, .int .u64 0, .slice none 0 0, .bool false, .bool false] 40)
  have h1 := (Held.made w [.int .u64 (hi : Int), .int .u64 (lo : Int)] 25).kept bz
  have h2 := Held.made (w.alloc (.cells #[.int .u64 (hi : Int), .int .u64 (lo : Int)] 25)) [.int .u64 0, .int .u64 0, .slice none 0 0, .bool false, .bool false] 40
  have hb := Below.call ba bz
  obtain ⟨W, hW⟩ : ∃ W, (w.alloc (.cells #[.int .u64 (hi : Int), .int .u64 (lo : Int)] 25)).alloc (.cells #[.int .u64 0, .int .u64 0, .slice none 0 0, .bool false, .bool false] 40) = W := ⟨_, rfl⟩
  rw [show (w.alloc (.cells #[.int .u64 (hi : Int), .int .u64 (lo : Int)] 25)).alloc (.cells [.int .u64 0, .int .u64 0, .slice none 0 0, .bool false, .bool false].toArray 40) = W from hW] at h2
  rw [show (w.alloc (.cells [.int .u64 (hi : Int), .int .u64 (lo : Int)].toArray 25)).alloc (.cells #[.int .u64 0, .int .u64 0, .slice none 0 0, .bool false, .bool false] 40) = W from hW] at h1
  rw [hW] at hb
  simp only [World.size_alloc] at h2
  have H1 := Stow.mk h1
  have H2 := Stow.mk h2
  have HB := Stow.mk hb
  have HW := Stow.mk hW
  have HS := Stow.mk (h.keep hb)
  have c0 := H1.out.cell (i := 0) rfl
  have c1 := H1.out.cell (i := 1) rfl
  obtain ⟨o, ho⟩ : ∃ o, St.at_ (R.map Km.k) hi lo = o := ⟨_, rfl⟩
  have hfd := rAt_any hi lo A cap R W HS.out.row hn
  rw [ho] at hfd
  have HFD := Stow.mk hfd
  have HO := Stow.mk ho
  unfold St.get
  rw [ho]
  clear ba bz h1 h2 hb hW h hfd ho
  go_enter Tryz.func11, Tryz.ntmps11
  go_upto_region 1 with fail
  generalize hX : World.alloc (World.alloc w _) _ = X
  obtain rfl : W = X := HW.out.symm.trans hX
  clear hX HW
  go_wp2_with fail
  refine HFD.out.mono ?_
  rintro e w1 ⟨rfl, hb1⟩
  have HB := Stow.mk (HB.out.trans (hb1.mono HB.out.size))
  have HS := Stow.mk (HS.out.keep hb1)
  have H2 := Stow.mk (H2.out.kept hb1)
  have HL1 := Stow.mk H2.out.lt
  clear c0 c1 hb1
  have H2T := Stow.mk H2.out.there
  cases o with
  | none =>
    simp only [St.ixInt]
    have hneg : (-1 : Int) < 0 := by omega
    have H3 := Stow.mk (H2.out.over [.int .u64 0, .int .u64 0, .slice none 0 0, .bool false, .bool false] rfl)
    have hO : Only (w.heap.size + 1) w1 (w1.setCells (w.heap.size + 1) 0 [.int .u64 0, .int .u64 0, .slice none 0 0, .bool false, .bool false]) := only_all _ _ _
    have HB3 := Stow.mk (HB.out.trans (hO.below (Nat.le_succ _) HB.out.size))
    have f0 := H2.out.free 0
    have f1 := H2.out.free 1
    have f2 := H2.out.free 2
    have f3 := H2.out.free 3
    have f4 := H2.out.free 4
    have c0 := H2.out.cell (i := 0) rfl
    have c1 := H2.out.cell (i := 1) rfl
    have c2 := H2.out.cell (i := 2) rfl
    have c3 := H2.out.cell (i := 3) rfl
    have c4 := H2.out.cell (i := 4) rfl
    clear hO
    go_wp2_with fail
    refine bodyPost_ret (rGet_results _ (w.heap.size + 1) _ _ _ _ _ _ _ H3.out rfl rfl) rfl ?_
    exact ⟨⟨St.none_, none, 0⟩, rfl, rfl, SlR.nil _ _, HB3.out⟩
  | some i =>
    simp only [St.ixInt]
    obtain ⟨hi0, -⟩ := St.find_at HO.out
    rw [List.length_map] at hi0
    obtain ⟨b, off, rfl, hblt, _⟩ := HS.out.row.open (by simp; omega)
    have HRA := Stow.mk (km_at HS.out.row hi0).2
    have hmr := HS.out.each _ (List.getElem_mem hi0)
    have HGD : Stow ((R.map Km.k).getD i St.none_ = R[i].k) := ⟨by simp [hi0]⟩
    obtain ⟨m, hm⟩ : ∃ m, R[i] = m := ⟨_, rfl⟩
    rw [hm] at HRA HGD hmr
    have HMK : Stow (m.k = R[i].k) := ⟨by rw [hm]⟩
    have hneg : ¬ (i : Int) < 0 := by omega
    have hii : (0 : Int) ≤ i := by omega
    have hil : (i : Int) < R.length := by omega
    have H3 := Stow.mk (H2.out.over m.cells rfl)
    have hO : Only (w.heap.size + 1) w1 (w1.setCells (w.heap.size + 1) 0 m.cells) := only_all _ _ _
    have HB3 := Stow.mk (HB.out.trans (hO.below (Nat.le_succ _) HB.out.size))
    have HR := Stow.mk (show KmR _ m from slr_turnU2 H2.out (by intro k hk; simp at hk) hmr (Turn.of_grown hO (.inl rfl)))
    have H2T := Stow.mk (show w1.there (w.heap.size + 1) 0 m.cells.length from H2.out.there)
    clear hm hmr hO
    go_wp2_with (first
      | (refine wpList_load_mid rfl 40 (.tmp 15) rfl b (off + i * 5) rfl m.cells _ HRA.out Tryz.underlying40 rfl (by rw [Km.cells_len]; kernel_rfl) ?_)
      | (refine wpList_store_hx rfl 40 (.tmp 4) (.tmp 16) rfl rfl (w.heap.size + 1) 0 m.cells rfl rfl H2T.out (by rw [Km.cells_len]; kernel_rfl) (Km.one m) ?_))
    obtain ⟨⟨mh, ml, mL, mx, mc⟩, mA, mcap⟩ := m
    have H4 := Stow.mk (show Held _ (w.heap.size + 1) [.int .u64 (mh : Int), .int .u64 (ml : Int), .slice mA mL.length mcap, .bool mx, .bool mc] from H3.out)
    refine bodyPost_ret (rGet_results _ (w.heap.size + 1) _ _ _ _ _ _ _ H4.out rfl rfl) rfl ?_
    exact ⟨⟨⟨mh, ml, mL, mx, mc⟩, mA, mcap⟩, rfl, by first | exact HMK.out | exact HGD.out.symm, HR.out, HB3.out⟩
set_option maxHeartbeats 4000000 in
set_option maxRecDepth 100000 in
theorem rTraces_any (A : Option Addr) (cap : Nat) (R : List Km) (w : World) (h : KsR w A cap R) (hn : R.length ≤ 1000) :
    Calls Tryz.prog 36 #[.slice A R.length cap] w fun e w' => ∃ A' cap', e = .returned (.slice A' R.length cap') ∧ TrR w' A' cap' R ∧ Below w.heap.size w w' := by
  have HS := Stow.mk h
  clear h
  have HX1 : Stow (∀ m : Km, ∀ u ∈ m.tr, u.oneCell' = true) := ⟨by intro m u hu; simp [Km.tr] at hu; rcases hu with rfl | rfl <;> rfl⟩
  go_enter Tryz.func36, Tryz.ntmps36
  go_wp2_with fail
  go_loopw [3, 4] (fun o u wr => ∃ i : Nat, u = .int .i64 (i : Int) ∧ i ≤ R.length ∧ Stow (wr.ownsRow w.heap.size 25 2 o i ((R.take i).flatMap Km.tr)) ∧ Stow (Below w.heap.size w wr)) (fun _ u _ => R.length - (intOf u).toNat)
  case atStart => exact ⟨0, rfl, by omega, ⟨World.ownsRow_nil _ _ _ _⟩, ⟨Below.self _⟩⟩
  case round =>
    obtain ⟨i, rfl, hi, HO, HB⟩ := hrel
    obtain ⟨Ao, co, rfl⟩ := own_form HO.out
    by_cases hlt : i < R.length
    · obtain ⟨b, off, rfl, hblt, _⟩ := HS.out.row.open (by simp; omega)
      have hra := (km_at (SlR.keep HS.out.row HB.out) hlt).2
      obtain ⟨y, hy⟩ : ∃ y, R[i] = y := ⟨_, rfl⟩
      have HNX : Stow ((R.take (i + 1)).flatMap Km.tr = (R.take i).flatMap Km.tr ++ y.tr) := ⟨by rw [List.take_succ_eq_append_getElem hlt, hy]; simp⟩
      rw [hy] at hra
      obtain ⟨q0, q1⟩ := km_first hra
      have hii : (i : Int) < R.length := by omega
      have hi0 : (0 : Int) ≤ i := by omega
      have K8 : Stow ((i + 1) * 16 ≤ 140737488355328 ∧ i + 1 ≤ maxLen) := ⟨by omega, by unfold maxLen; omega⟩
      have HXY := Stow.mk (HX1.out y)
      unfold Km.tr at HXY HNX
      clear hy hra
      go_wp2_with (at_builtin; refine wpList_append_elem_form wr [.int .u64 (y.k.hi : Int), .int .u64 (y.k.lo : Int)] _ rfl (.tmp 11) (.tmp 17) 49 rfl w.heap.size 25 _ 2 16 Tryz.underlying49 info_trace _ _ _ HO.out rfl _ rfl rfl rfl (by decide) rfl HXY.out K8.out.1 K8.out.2 HB.out.size ?_; intro A4 c4 w4 h4 hg4 hb4 hs4; have H4 := Stow.mk h4; have HB4 := Stow.mk (HB.out.trans hb4); clear h4 hg4 hb4 hs4)
      exact ⟨⟨i + 1, rfl, by omega, ⟨by unfold Km.tr; rw [HNX.out]; exact H4.out⟩, HB4⟩, by simp [intOf]; omega⟩
    · obtain rfl : i = R.length := by omega
      have hni : ¬ ((R.length : Int) < R.length) := by omega
      have hO := HO.out
      rw [List.take_length] at hO
      have HT := Stow.mk (show TrR wr Ao co R from own_of_cells (enc := Km.tr) (fun _ => rfl) hO rfl)
      clear hO
      go_wp2_with fail
      go_ret
      exact ⟨Ao, co, rfl, HT.out, HB.out⟩
end Go.Proofs.YtfbhdkkmcfnghaaGreat
end
