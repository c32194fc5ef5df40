/- A collector, in plain Lean. No condition.; A number that came is not fresh again, in plain Lean. No condition.; A collector that is told the same thing again, in plain Lean. No condition.; A collector in memory; walks of atomic.Int64's Add and Load at any number, and of collect.New, Taken, Twice, Bad, Evicted. Conditions: the collector's memory.; Walks of collect.New, Taken, Twice, Bad, Evicted, Traces, Kept. Conditions: the collector's memory. -/
import Derived.Test.YtfbhdkkmcfnghaaGreatM22
import Derived.Test.YtfbhdkkmcfnghaaGreatM23
import Derived.Test.YtfbhdkkmcfnghaaGreatM32
import Derived.Test.YtfbhdkkmcfnghaaGreatM36
import Derived.Laws.LoneSync
import Derived.Laws.Pointers
import Derived.BigRegion
import Derived.Deep.RegionHeld

section
namespace Go.Proofs.YtfbhdkkmcfnghaaGreat
open Go.RowKit
set_option linter.unusedVariables false

/-- What a collector holds. -/
structure Co where
  room : Int
  D : List Wi
  K : List Kp
  (tk tw bd ev : Nat)
namespace Co
def adds (r : Int) : List Sp → List Kp → Nat → List Kp × Nat
  | [], K, n => (K, n)
  | s :: t, K, n => adds r t (St.add K r s).1 (n + (St.add K r s).2)
def add (c : Co) (x y : Int) (L : List Sp) : Co :=
  if (Dd.fresh c.D x y).2 = true then { c with D := (Dd.fresh c.D x y).1, tk := c.tk + 1, K := (adds c.room L c.K c.ev).1, ev := (adds c.room L c.K c.ev).2 } else { c with tw := c.tw + 1 }
def recv (c : Co) (l : List UInt8) : Co × List UInt8 × Nat :=
  if (btRead l).2.2.2 ≠ 0 then ({ c with bd := c.bd + 1 }, [], (btRead l).2.2.2) else (c.add (btRead l).1 (btRead l).2.1 (btRead l).2.2.1, (btAck (btRead l).1 (btRead l).2.1).1, 0)
def said (c : Co) (hi lo : Nat) : Nat := if (St.get c.K hi lo).2 = true then Tr.said (St.get c.K hi lo).1.L (St.get c.K hi lo).1.x (St.get c.K hi lo).1.c else 0
def tree (c : Co) (hi lo : Nat) : List Nv := if (St.get c.K hi lo).2 = true then Tr.treeN (St.get c.K hi lo).1.L (St.get c.K hi lo).1.x (St.get c.K hi lo).1.c else []
/-- What holds after m messages. -/
structure Ok (c : Co) (m : Nat) : Prop where
  dd : Dd.Ok c.D
  fine : St.Fine c.K
  kd : ∀ k ∈ c.K, KdOk k.L
  room : -9223372036854775808 ≤ c.room ∧ c.room ≤ 9223372036854775807
  sum : c.tk + c.tw + c.bd = m
  ev : c.ev ≤ 512 * m

theorem gone_le {l : List Kp} (h : St.Fine l) (r : Int) (s : Sp) : (St.add l r s).2 ≤ 32 := by
  have hr := St.room_pos r
  have hl := h.len
  cases ho : St.at_ l s.hi s.lo with
  | some i =>
    obtain ⟨hi, e⟩ := St.add_some (r := r) ho
    rw [e]
    simp
  | none =>
    rw [St.add_none ho]
    simp only
    omega
theorem putK_kd {k : Kp} {s : Sp} (h : KdOk k.L) (hs : -1099511627776 ≤ s.kd ∧ s.kd ≤ 1099511627776) : KdOk (St.putK k s).L := by
  unfold St.putK
  split
  · exact h
  · split
    · exact h
    · intro y hy
      rcases List.mem_append.1 hy with hy | hy
      · exact h y hy
      · obtain rfl : y = s := by simpa using hy
        exact hs
theorem add_kd {l : List Kp} (h : ∀ k ∈ l, KdOk k.L) (r : Int) {s : Sp} (hs : -1099511627776 ≤ s.kd ∧ s.kd ≤ 1099511627776) : ∀ k ∈ (St.add l r s).1, KdOk k.L := by
  cases ho : St.at_ l s.hi s.lo with
  | some i =>
    obtain ⟨hi, e⟩ := St.add_some (r := r) ho
    rw [e]
    intro k hk
    simp only [List.append_assoc, List.cons_append, List.nil_append, List.mem_append, List.mem_cons] at hk
    rcases hk with hk | rfl | hk
    · exact h k (List.mem_of_mem_take hk)
    · exact putK_kd (h _ (List.getElem_mem hi)) hs
    · exact h k (List.mem_of_mem_drop hk)
  | none =>
    rw [St.add_none ho]
    intro k hk
    rcases List.mem_append.1 (List.mem_of_mem_drop hk) with hk | hk
    · exact h k hk
    · obtain rfl : k = St.one s := by simpa using hk
      intro y hy
      obtain rfl : y = s := by simpa [St.one] using hy
      exact hs
theorem adds_ok (r : Int) : ∀ (L : List Sp) (K : List Kp) (n : Nat), St.Fine K → (∀ k ∈ K, KdOk k.L) → KdOk L → St.Fine (adds r L K n).1 ∧ (∀ k ∈ (adds r L K n).1, KdOk k.L) ∧ (adds r L K n).2 ≤ n + 32 * L.length
  | [], K, n, hf, hk, _ => ⟨hf, hk, by simp [adds]⟩
  | s :: t, K, n, hf, hk, hd => by
    obtain ⟨h1, h2, h3⟩ := adds_ok r t (St.add K r s).1 (n + (St.add K r s).2) (hf.add r s) (add_kd hk r (hd s (List.mem_cons_self ..))) (fun y hy => hd y (List.mem_cons_of_mem _ hy))
    have := gone_le hf r s
    refine ⟨h1, h2, Nat.le_trans h3 ?_⟩
    rw [List.length_cons]
    omega
theorem adds_snoc (r : Int) (s : Sp) : ∀ (L : List Sp) (K : List Kp) (n : Nat), adds r (L ++ [s]) K n = ((St.add (adds r L K n).1 r s).1, (adds r L K n).2 + (St.add (adds r L K n).1 r s).2)
  | [], K, n => rfl
  | y :: t, K, n => adds_snoc r s t _ _
theorem adds_take (r : Int) {L : List Sp} {i : Nat} (h : i < L.length) (K : List Kp) (n : Nat) : adds r (L.take (i + 1)) K n = ((St.add (adds r (L.take i) K n).1 r L[i]).1, (adds r (L.take i) K n).2 + (St.add (adds r (L.take i) K n).1 r L[i]).2) := by
  rw [List.take_succ_eq_append_getElem h]
  exact adds_snoc r L[i] _ K n
theorem check_kd {s : Sp} (h : check s = 0) : -1099511627776 ≤ s.kd ∧ s.kd ≤ 1099511627776 := by
  unfold check at h
  have : wi s.kd 0 64 = true := by
    cases hw : wi s.kd 0 64 with
    | true => rfl
    | false =>
      rw [hw] at h
      simp only [ite_true] at h
      exfalso
      repeat' split at h
      all_goals omega
  simp only [wi, Bool.and_eq_true, decide_eq_true_eq] at this
  omega
/-- What is known of bytes that are a batch. -/
theorem read_good {l : List UInt8} (hl : l.length ≤ 9223372036854775807) (h : (btRead l).2.2.2 = 0) :
    (btRead l).2.2.1.length ≤ 16 ∧ 0 < (btRead l).2.2.1.length ∧ KdOk (btRead l).2.2.1 ∧ (∀ s ∈ (btRead l).2.2.1, check s = 0 ∧ s.fits) ∧ placeB (btRead l).1 (btRead l).2.1 = true ∧ (btAck (btRead l).1 (btRead l).2.1).2 = 0 := by
  rcases hb : btRead l with ⟨n1, n2, L, b⟩
  rw [hb] at h
  obtain rfl : b = 0 := h
  obtain ⟨hw, hf, _⟩ := write_fwd hl hb
  have hc : btCheck n1 n2 L = 0 := by
    by_cases hc : btCheck n1 n2 L = 0
    · exact hc
    · unfold btWrite at hw
      rw [if_neg hc] at hw
      exact (Prod.mk.inj hw).2
  unfold btCheck at hc
  split at hc
  · cases hc
  · rename_i hp
    split at hc
    · cases hc
    · split at hc
      · cases hc
      · have hk := firstBad_zero.1 hc
        have hp' : placeB n1 n2 = true := by simpa using hp
        refine ⟨by simp only; omega, by simp only; omega, fun s hs => check_kd (hk s hs), fun s hs => ⟨hk s hs, hf s hs⟩, hp', ?_⟩
        simp [btAck, hp']
theorem add_ok {c : Co} {m : Nat} (h : c.Ok m) (x y : Int) {L : List Sp} (hL : L.length ≤ 16) (hk : KdOk L) : (c.add x y L).Ok (m + 1) := by
  have hs := h.sum
  have he := h.ev
  unfold add
  split
  · obtain ⟨h1, h2, h3⟩ := adds_ok c.room L c.K c.ev h.fine h.kd hk
    exact ⟨h.dd.fresh, h1, h2, h.room, by simp only; omega, by simp only; omega⟩
  · exact ⟨h.dd, h.fine, h.kd, h.room, by simp only; omega, by simp only; omega⟩
theorem recv_ok {c : Co} {m : Nat} (h : c.Ok m) {l : List UInt8} (hl : l.length ≤ 9223372036854775807) : (c.recv l).1.Ok (m + 1) := by
  have hs := h.sum
  have he := h.ev
  unfold recv
  split
  · exact ⟨h.dd, h.fine, h.kd, h.room, by simp only; omega, by simp only; omega⟩
  · rename_i hb
    obtain ⟨h1, _, h2, _⟩ := read_good hl (by simpa using hb)
    exact add_ok h _ _ h1 h2
theorem new_ok {r : Int} (h : -9223372036854775808 ≤ r ∧ r ≤ 9223372036854775807) : (Co.mk r [] [] 0 0 0 0).Ok 0 := ⟨Dd.Ok.nil, ⟨by simp, by simp⟩, by simp, h, rfl, by simp⟩
end Co
end Go.Proofs.YtfbhdkkmcfnghaaGreat
end

section
namespace Go.Proofs.YtfbhdkkmcfnghaaGreat
set_option linter.unusedVariables false

namespace Dd
/-- A number that its window has had. -/
def Cov (L : List Wi) (c : Int × Int) : Prop := ∃ w ∈ L, w.n = c.1 ∧ c.2 ≤ w.h ∧ (128 ≤ w.h - c.2 ∨ c.2 ∈ w.s)
theorem cov_step {w w' : Wi} {x y : Int} (hs : step w x = some w') (hy : y ≤ w.h ∧ (128 ≤ w.h - y ∨ y ∈ w.s)) : y ≤ w'.h ∧ (128 ≤ w'.h - y ∨ y ∈ w'.s) := by
  unfold step at hs
  split at hs
  · rename_i h1
    simp at hs; subst hs
    refine ⟨by simp [high]; omega, ?_⟩
    by_cases h2 : x - 128 < y
    · right
      rcases hy.2 with h3 | h3
      · omega
      · simp only [high, List.mem_append, List.mem_filter, decide_eq_true_eq]
        exact .inl ⟨h3, h2⟩
    · left; simp [high]; omega
  · split at hs
    · simp at hs
    · simp at hs; subst hs
      refine ⟨hy.1, ?_⟩
      rcases hy.2 with h3 | h3
      · exact .inl h3
      · right
        show y ∈ ins x w.s
        rw [mem_ins]
        by_cases e : y = x
        · exact .inl e
        · exact .inr ⟨h3, e⟩
theorem step_self {w w' : Wi} {x : Int} (hs : step w x = some w') : x ≤ w'.h ∧ (128 ≤ w'.h - x ∨ x ∈ w'.s) := by
  unfold step at hs
  split at hs
  · simp at hs; subst hs
    exact ⟨by simp [high], .inr (by simp [high])⟩
  · split at hs
    · simp at hs
    · rename_i h1 h2
      simp at hs; subst hs
      exact ⟨by simp [low]; omega, .inr (mem_ins.2 (.inl rfl))⟩
theorem step_cov {w : Wi} {x : Int} (h : x ≤ w.h ∧ (128 ≤ w.h - x ∨ x ∈ w.s)) : step w x = none := by
  unfold step
  rw [if_neg (by omega), if_pos h.2]
theorem fresh_cases (L : List Wi) (node x : Int) : (fresh L node x = (L, false)) ∨ (bad node x = false ∧ pl L node = none ∧ fresh L node x = (L ++ [⟨node, x, [x]⟩], true)) ∨
    ∃ i, ∃ hi : i < L.length, ∃ w', bad node x = false ∧ pl L node = some i ∧ L[i].n = node ∧ step L[i] x = some w' ∧ fresh L node x = (L.set i w', true) := by
  cases hb : bad node x
  · cases hp : pl L node with
    | none => exact .inr (.inl ⟨rfl, rfl, by unfold fresh; rw [hb, hp]; rfl⟩)
    | some i =>
      obtain ⟨hi, hn, _⟩ := pl_some hp
      cases hs : step L[i] x with
      | none => exact .inl (by unfold fresh; rw [hb, hp]; simp only [Bool.false_eq_true, if_false]; rw [List.getElem?_eq_getElem hi]; simp only; rw [hs])
      | some w' => exact .inr (.inr ⟨i, hi, w', rfl, rfl, hn, hs, by unfold fresh; rw [hb, hp]; simp only [Bool.false_eq_true, if_false]; rw [List.getElem?_eq_getElem hi]; simp only; rw [hs]⟩)
  · exact .inl (by unfold fresh; rw [hb]; rfl)
theorem fresh_no {L L' : List Wi} {node x : Int} (h : fresh L node x = (L', false)) : L' = L := by
  rcases fresh_cases L node x with h1 | ⟨_, _, h1⟩ | ⟨i, hi, w', _, _, _, _, h1⟩ <;> rw [h] at h1 <;> simp at h1
  exact h1
theorem cov_keep {L : List Wi} {node x : Int} {c : Int × Int} (h : Cov L c) : Cov (fresh L node x).1 c := by
  obtain ⟨w, hw, hn, hc⟩ := h
  rcases fresh_cases L node x with h1 | ⟨_, _, h1⟩ | ⟨i, hi, w', _, _, hn', hs, h1⟩ <;> rw [h1]
  · exact ⟨w, hw, hn, hc⟩
  · exact ⟨w, by simp [hw], hn, hc⟩
  · obtain ⟨k, hk, rfl⟩ := List.getElem_of_mem hw
    by_cases e : k = i
    · subst e
      refine ⟨w', List.mem_iff_getElem.2 ⟨k, by simpa using hk, by simp⟩, ?_, cov_step hs hc⟩
      have : w'.n = L[k].n := by
        unfold step at hs
        split at hs
        · simp at hs; subst hs; rfl
        · split at hs
          · simp at hs
          · simp at hs; subst hs; rfl
      rw [this, hn]
    · exact ⟨L[k], List.mem_iff_getElem.2 ⟨k, by simpa using hk, by rw [List.getElem_set]; rw [if_neg (by omega)]⟩, hn, hc⟩
theorem cov_new {L : List Wi} {node x : Int} (h : (fresh L node x).2 = true) : Cov (fresh L node x).1 (node, x) := by
  rcases fresh_cases L node x with h1 | ⟨_, _, h1⟩ | ⟨i, hi, w', _, _, hn', hs, h1⟩ <;> rw [h1] at h ⊢
  · simp at h
  · exact ⟨⟨node, x, [x]⟩, by simp, rfl, by simp, .inr (by simp)⟩
  · refine ⟨w', List.mem_iff_getElem.2 ⟨i, by simpa using hi, by simp⟩, ?_, step_self hs⟩
    have : w'.n = L[i].n := by
      unfold step at hs
      split at hs
      · simp at hs; subst hs; rfl
      · split at hs
        · simp at hs
        · simp at hs; subst hs; rfl
    rw [this, hn']
theorem cov_no {L : List Wi} {c : Int × Int} (hok : Ok L) (h : Cov L c) : (fresh L c.1 c.2).2 = false := by
  obtain ⟨w, hw, hn, hc⟩ := h
  rcases fresh_cases L c.1 c.2 with h1 | ⟨_, hp, h1⟩ | ⟨i, hi, w', _, hp, hn', hs, h1⟩ <;> rw [h1]
  · exact absurd hn (pl_none hp w hw)
  · obtain ⟨k, hk, rfl⟩ := List.getElem_of_mem hw
    have hki : k = i := by
      rcases Nat.lt_trichotomy k i with h | h | h
      · exact absurd (hn.trans hn'.symm) (List.pairwise_iff_getElem.1 hok.apart k i hk hi h)
      · exact h
      · exact absurd (hn'.trans hn.symm) (List.pairwise_iff_getElem.1 hok.apart i k hi hk h)
    subst hki
    rw [step_cov hc] at hs
    cases hs
end Dd
end Go.Proofs.YtfbhdkkmcfnghaaGreat
end

section
namespace Go.Proofs.YtfbhdkkmcfnghaaGreat
set_option linter.unusedVariables false

namespace Dd
def Seen (L : List Wi) (node x : Int) : Prop := bad node x = true ∨ Cov L (node, x)
theorem cov_old {L : List Wi} {node x : Int} (h : (fresh L node x).2 = false) (hb : bad node x = false) : Cov L (node, x) := by
  unfold fresh at h
  rw [hb] at h
  cases hp : pl L node with
  | none => rw [hp] at h; simp at h
  | some i =>
    obtain ⟨hi, hn, _⟩ := pl_some hp
    rw [hp] at h
    simp only [List.getElem?_eq_getElem hi] at h
    cases hs : step L[i] x with
    | some w => rw [hs] at h; simp at h
    | none =>
      unfold step at hs
      split at hs
      · cases hs
      · rename_i h1
        split at hs
        · rename_i h2
          exact ⟨L[i], List.getElem_mem hi, hn, by simp only; omega, h2⟩
        · cases hs
theorem seen_after (L : List Wi) (node x : Int) : Seen (fresh L node x).1 node x := by
  cases hb : bad node x with
  | true => exact .inl hb
  | false =>
    refine .inr ?_
    cases hf : (fresh L node x).2 with
    | true => exact cov_new hf
    | false => exact cov_keep (cov_old hf hb)
theorem seen_keep {L : List Wi} {node x n y : Int} (h : Seen L node x) : Seen (fresh L n y).1 node x := h.imp id cov_keep
theorem seen_no {L : List Wi} {node x : Int} (hok : Ok L) (h : Seen L node x) : (fresh L node x).2 = false := by
  rcases h with h | h
  · unfold fresh
    rw [h]
    rfl
  · exact cov_no hok h
end Dd
namespace Co
theorem add_D (c : Co) (x y : Int) (L : List Sp) (hok : Dd.Ok c.D) : (c.add x y L).D = (Dd.fresh c.D x y).1 := by
  unfold add
  split
  · rfl
  · rename_i h
    have : (Dd.fresh c.D x y).2 = false := by simpa using h
    exact (Dd.fresh_no (L' := (Dd.fresh c.D x y).1) (by rw [← this])).symm
/-- What bytes are answered. -/
def ans (l : List UInt8) : List UInt8 × Nat := if (btRead l).2.2.2 ≠ 0 then ([], (btRead l).2.2.2) else ((btAck (btRead l).1 (btRead l).2.1).1, 0)
theorem recv_ans (c : Co) (l : List UInt8) : (c.recv l).2 = ans l := by
  unfold recv ans
  split <;> rfl
def SeenM (c : Co) (l : List UInt8) : Prop := (btRead l).2.2.2 = 0 → Dd.Seen c.D (btRead l).1 (btRead l).2.1
theorem seen_recv {c : Co} {m : Nat} (h : c.Ok m) (l : List UInt8) : SeenM (c.recv l).1 l := by
  intro hb
  unfold recv
  rw [if_neg (by simpa using hb)]
  simp only
  rw [add_D _ _ _ _ h.dd]
  exact Dd.seen_after _ _ _
theorem seen_on {c : Co} {m : Nat} (h : c.Ok m) {l : List UInt8} (hs : SeenM c l) (u : List UInt8) : SeenM (c.recv u).1 l := by
  intro hb
  unfold recv
  split
  · exact hs hb
  · simp only
    rw [add_D _ _ _ _ h.dd]
    exact Dd.seen_keep (hs hb)
theorem again {c : Co} {m : Nat} (h : c.Ok m) {l : List UInt8} (hs : SeenM c l) : (c.recv l).1.K = c.K ∧ (c.recv l).1.tk = c.tk := by
  unfold recv
  split
  · exact ⟨rfl, rfl⟩
  · rename_i hb
    have := Dd.seen_no h.dd (hs (by simpa using hb))
    unfold add
    rw [this]
    exact ⟨rfl, rfl⟩
theorem add_few {l : List Kp} {r : Int} {s : Sp} (h : l.length ≤ St.room r) : (St.add l r s).1.length ≤ St.room r := by
  cases ho : St.at_ l s.hi s.lo with
  | some i =>
    obtain ⟨hi, e⟩ := St.add_some (r := r) ho
    rw [e]
    simp
    omega
  | none =>
    rw [St.add_none ho]
    simp
    omega
theorem adds_few (r : Int) : ∀ (L : List Sp) (K : List Kp) (n : Nat), K.length ≤ St.room r → (adds r L K n).1.length ≤ St.room r
  | [], K, n, h => h
  | s :: t, K, n, h => adds_few r t _ _ (add_few h)
theorem recv_few {c : Co} (h : c.K.length ≤ St.room c.room) (l : List UInt8) : (c.recv l).1.K.length ≤ St.room (c.recv l).1.room := by
  unfold recv
  split
  · exact h
  · simp only
    unfold add
    split
    · exact adds_few _ _ _ _ h
    · exact h
theorem recv_room (c : Co) (l : List UInt8) : (c.recv l).1.room = c.room := by
  unfold recv
  split
  · rfl
  · simp only
    unfold add
    split <;> rfl
theorem get_mem {K : List Kp} {k : Kp} (h : k ∈ K) : (St.get K k.hi k.lo).2 = true := by
  unfold St.get
  cases ho : St.at_ K k.hi k.lo with
  | some i => rfl
  | none =>
    unfold St.at_ at ho
    rw [List.findIdx?_eq_none_iff] at ho
    have := ho k h
    simp [St.is_] at this
/-- What holds of a collector that took these messages. -/
structure RunOk (r : Int) (c : Co) (M : List (List UInt8)) : Prop where
  ok : c.Ok M.length
  few : c.K.length ≤ St.room c.room
  room : c.room = r
  seen : ∀ t ∈ M, SeenM c t
theorem RunOk.start {r : Int} (h : -9223372036854775808 ≤ r ∧ r ≤ 9223372036854775807) : RunOk r ⟨r, [], [], 0, 0, 0, 0⟩ [] := ⟨new_ok h, Nat.zero_le _, rfl, by simp⟩
theorem RunOk.more {r : Int} {c : Co} {M : List (List UInt8)} (h : RunOk r c M) (t : List UInt8) (ht : t.length ≤ 9223372036854775807) : RunOk r (c.recv t).1 (M ++ [t]) := by
  refine ⟨by rw [List.length_append]; exact recv_ok h.ok ht, recv_few h.few t, (recv_room c t).trans h.room, fun u hu => ?_⟩
  rcases List.mem_append.1 hu with hu | hu
  · exact seen_on h.ok (h.seen u hu) t
  · obtain rfl : u = t := by simpa using hu
    exact seen_recv h.ok u
end Co
end Go.Proofs.YtfbhdkkmcfnghaaGreat
end

section
namespace Go.Proofs.YtfbhdkkmcfnghaaGreat
open Go.RowKit
set_option linter.unusedVariables false

/-- Cells without an unsigned number. -/
def NoU (cs : List Value) : Prop := ∀ k : Int, Value.int .u64 k ∉ cs
/-- A row of structs whose first cell is unsigned lies in another block. -/
theorem slr_apart {w : World} {g c n cap : Nat} {cs : List Value} {A : Option Addr} {L : List (List Value)} (hH : Held w g cs) (hn : NoU cs) (h : SlR w c (.slice A n cap) L) (hx : ∀ x ∈ L, ∃ k : Int, x[0]? = some (.int .u64 k)) (hL : L ≠ []) : ∀ ad, A = some ad → ad.block ≠ g := by
  intro ad had heq
  obtain ⟨A', cap', hv, _, _, h3⟩ := h
  simp only [Value.slice.injEq] at hv
  obtain ⟨rfl, rfl, rfl⟩ := hv
  obtain ⟨b, off, hA, hlt, hc⟩ := h3 hL
  rw [had] at hA
  obtain rfl := Option.some.inj hA
  simp only at heq
  subst heq
  obtain ⟨x, t, rfl⟩ := List.exists_cons_of_ne_nil hL
  obtain ⟨k, hk⟩ := hx x (List.mem_cons_self ..)
  have h1 := hc 0 x rfl 0 _ hk
  obtain ⟨t', hg⟩ := hH
  rw [cell_of_row w b _ _ t' (0, 0) hg] at h1
  have h2 : cs[off + 0 * c + 0]? = some (.int .u64 k) := by simpa using h1
  exact hn k (List.mem_of_getElem? h2)
theorem slr_turnU {w w' : World} {g c n cap : Nat} {cs : List Value} {A : Option Addr} {L : List (List Value)} (hH : Held w g cs) (hn : NoU cs) (h : SlR w c (.slice A n cap) L) (hx : ∀ x ∈ L, ∃ k : Int, x[0]? = some (.int .u64 k)) (ht : Turn (· = g) w w') : SlR w' c (.slice A n cap) L := by
  by_cases hL : L = []
  · obtain ⟨A', cap', hv, h1, h2, h3⟩ := h
    exact ⟨A', cap', hv, h1, h2, fun hne => absurd hL hne⟩
  · have := slr_apart hH hn h hx hL
    exact slrTurn h ht this
theorem sp_u {L : List Sp} : ∀ x ∈ L.map Sp.cells, ∃ k : Int, x[0]? = some (.int .u64 k) := by
  intro x hx
  obtain ⟨s, _, rfl⟩ := List.mem_map.1 hx
  exact ⟨_, rfl⟩
theorem km_u {R : List Km} : ∀ x ∈ R.map Km.cells, ∃ k : Int, x[0]? = some (.int .u64 k) := by
  intro x hx
  obtain ⟨s, _, rfl⟩ := List.mem_map.1 hx
  exact ⟨_, rfl⟩
theorem KsR.turnU {w w' : World} {g cap : Nat} {cs : List Value} {A : Option Addr} {R : List Km} (hH : Held w g cs) (hn : NoU cs) (h : KsR w A cap R) (ht : Turn (· = g) w w') : KsR w' A cap R :=
  ⟨slr_turnU hH hn h.row km_u ht, fun m hm => slr_turnU hH hn (h.each m hm) sp_u ht⟩
theorem slr_turnN {w w' : World} {c B : Nat} {v : Value} {L : List (List Value)} {F : Nat → Prop} (h : SlR w c v L) (hn : ∀ a n k, v = .slice (some a) n k → B ≤ a.block) (ht : Turn F w w') (hF : ∀ i, F i → i < B) : SlR w' c v L := by
  obtain ⟨A, cap, rfl, _⟩ := h.form
  refine slrTurn h ht (fun ad had hf => ?_)
  subst had
  have := hn ad _ _ rfl
  have := hF _ hf
  omega
theorem WinR.turnN {w w' : World} {B : Nat} {v : Value} {R : List Wm} {F : Nat → Prop} (h : WinR w v R) (hn : NewW B v R) (ht : Turn F w w') (hF : ∀ i, F i → i < B) : WinR w' v R :=
  ⟨slr_turnN h.row hn.1 ht hF, fun p hp => slr_turnN (h.ints p hp) (fun a n k e => hn.2 p hp a (by unfold Wm.v at e; simp only [Value.slice.injEq] at e; exact e.1)) ht hF, h.nil⟩
theorem NewW.mono {B B' : Nat} {v : Value} {R : List Wm} (h : NewW B v R) (hb : B' ≤ B) : NewW B' v R := ⟨fun a n c e => Nat.le_trans hb (h.1 a n c e), fun p hp a e => Nat.le_trans hb (h.2 p hp a e)⟩
theorem turn_set (w : World) (g i : Nat) (v : Value) : Turn (· = g) w (w.setCell ⟨g, i, none⟩ v) := Turn.of_grown (Only.set g w i v) (.inl rfl)

def Co.cells (c : Co) (v : Value) (A : Option Addr) (n cap : Nat) : List Value := [.int .i64 c.room, v, .slice A n cap, .int .i64 (c.tk : Nat), .int .i64 (c.tw : Nat), .int .i64 (c.bd : Nat), .int .i64 (c.ev : Nat)]
def InK (P : Nat → Prop) (A : Option Addr) (R : List Km) : Prop := (R ≠ [] → ∀ a, A = some a → P a.block) ∧ ∀ m ∈ R, ∀ a, m.A = some a → P a.block
theorem InW.turn {w w' : World} {P F : Nat → Prop} {v : Value} {R : List Wm} (h : WinR w v R) (hn : InW P v R) (ht : Turn F w w') (hF : ∀ i, F i → ¬ P i) : WinR w' v R := by
  obtain ⟨A, cap, e, _⟩ := h.row.form
  have e' : v = .slice A R.length cap := by simpa using e
  subst e'
  refine ⟨slrTurn h.row ht (fun ad had hf => ?_), fun p hp => slrTurn (h.ints p hp) ht (fun ad had hf => ?_), h.nil⟩
  · subst had
    exact hF _ hf (hn.1 ad _ _ rfl)
  · exact hF _ hf (hn.2 p hp ad had)
theorem InK.turn {w w' : World} {P F : Nat → Prop} {A : Option Addr} {cap : Nat} {R : List Km} (h : KsR w A cap R) (hn : InK P A R) (ht : Turn F w w') (hF : ∀ i, F i → ¬ P i) : KsR w' A cap R :=
  ⟨by
    by_cases hR : R = []
    · subst hR
      obtain ⟨A', cap', hv, h1, h2, h3⟩ := h.row
      exact ⟨A', cap', hv, h1, h2, fun hne => absurd rfl hne⟩
    · exact slrTurn h.row ht (fun ad had hf => hF _ hf (hn.1 hR ad had)), fun m hm => slrTurn (h.each m hm) ht (fun ad had hf => hF _ hf (hn.2 m hm ad had))⟩
/-- Lists of a collector that can be read, and where they lie. -/
structure CoR (w : World) (P : Nat → Prop) (c : Co) (v : Value) (W : List Wm) (A : Option Addr) (cap : Nat) (R : List Km) : Prop where
  win : WinR w v W
  wis : wis W = c.D
  inw : InW P v W
  ink : InK P A R
  ks : KsR w A cap R
  kk : R.map Km.k = c.K
/-- A collector in block g. -/
structure CoAt (w : World) (P : Nat → Prop) (g : Nat) (c : Co) (v : Value) (W : List Wm) (A : Option Addr) (cap : Nat) (R : List Km) : Prop where
  head : Held w g (c.cells v A R.length cap)
  gP : ¬ P g
  row : CoR w P c v W A cap R
def CoM (w : World) (P : Nat → Prop) (g : Nat) (c : Co) : Prop := ∃ v W A cap R, CoAt w P g c v W A cap R
theorem WinR.form {w : World} {v : Value} {R : List Wm} (h : WinR w v R) : ∃ A cap, v = .slice A R.length cap := by
  obtain ⟨A, cap, e, _⟩ := h.row.form
  exact ⟨A, cap, by simpa using e⟩
theorem Co.noU {w : World} {P : Nat → Prop} {c : Co} {v : Value} {W : List Wm} {A : Option Addr} {cap : Nat} {R : List Km} (h : CoR w P c v W A cap R) : NoU (c.cells v A R.length cap) := by
  obtain ⟨A', cap', rfl⟩ := h.win.form
  intro k hk
  simp [Co.cells] at hk
theorem CoR.keep {w w' : World} {P : Nat → Prop} {c : Co} {v : Value} {W : List Wm} {A : Option Addr} {cap : Nat} {R : List Km} (h : CoR w P c v W A cap R) (hb : Below w.heap.size w w') : CoR w' P c v W A cap R := ⟨h.win.keep hb, h.wis, h.inw, h.ink, h.ks.keep hb, h.kk⟩
theorem CoAt.keep {w w' : World} {P : Nat → Prop} {g : Nat} {c : Co} {v : Value} {W : List Wm} {A : Option Addr} {cap : Nat} {R : List Km} (h : CoAt w P g c v W A cap R) (hb : Below w.heap.size w w') : CoAt w' P g c v W A cap R := ⟨h.head.kept hb, h.gP, h.row.keep hb⟩
theorem CoM.keep {w w' : World} {P : Nat → Prop} {g : Nat} {c : Co} (h : CoM w P g c) (hb : Below w.heap.size w w') : CoM w' P g c := by
  obtain ⟨v, W, A, cap, R, h⟩ := h
  exact ⟨v, W, A, cap, R, h.keep hb⟩
theorem CoR.turn {w w' : World} {P F : Nat → Prop} {c : Co} {v : Value} {W : List Wm} {A : Option Addr} {cap : Nat} {R : List Km} (h : CoR w P c v W A cap R) (ht : Turn F w w') (hF : ∀ i, F i → ¬ P i) : CoR w' P c v W A cap R :=
  ⟨InW.turn h.win h.inw ht hF, h.wis, h.inw, h.ink, InK.turn h.ks h.ink ht hF, h.kk⟩
theorem CoAt.g1 {w : World} {P : Nat → Prop} {g : Nat} {c : Co} {v : Value} {W : List Wm} {A : Option Addr} {cap : Nat} {R : List Km} (h : CoAt w P g c v W A cap R) : ∀ i, i = g → ¬ P i := fun i hi => hi ▸ h.gP
/-- Something else turned. -/
theorem CoM.other {w w' : World} {P F : Nat → Prop} {g : Nat} {c : Co} (h : CoM w P g c) (ht : Turn F w w') (hF : ∀ i, F i → ¬ P i) (hg : ¬ F g) : CoM w' P g c := by
  obtain ⟨v, W, A, cap, R, h⟩ := h
  exact ⟨v, W, A, cap, R, h.head.turn ht hg, h.gP, h.row.turn ht hF⟩
/-- Where the lists lie may be said otherwise. -/
theorem CoM.said {w : World} {P Q : Nat → Prop} {g : Nat} {c : Co} (h : CoM w P g c) (hPQ : ∀ k, P k → Q k) (hg : ¬ Q g) : CoM w Q g c := by
  obtain ⟨v, W, A, cap, R, h⟩ := h
  exact ⟨v, W, A, cap, R, h.head, hg, h.row.win, h.row.wis, ⟨fun a n c e => hPQ _ (h.row.inw.1 a n c e), fun p hp a e => hPQ _ (h.row.inw.2 p hp a e)⟩, ⟨fun hne a e => hPQ _ (h.row.ink.1 hne a e), fun p hp a e => hPQ _ (h.row.ink.2 p hp a e)⟩, h.row.ks, h.row.kk⟩

theorem i64_load (a : Addr) (d : Int) (w : World) (hc : w.cell? a = some (.int .i64 d)) :
    Calls Tryz.prog 42 #[.pointer (some a)] w fun e w' => e = .returned (.int .i64 d) ∧ w' = w := by
  have hl := run_call_load (P := Tryz.prog) Tryz.func73 (by kernel_rfl) (by kernel_rfl) (by kernel_rfl) .i64 (by kernel_rfl) hc
  go_enter Tryz.func42, Tryz.ntmps42
  go_wp2
  go_ret
  exact ⟨rfl, rfl⟩
theorem i64_plus (a : Addr) (d e : Nat) (w : World) (hc : w.cell? a = some (.int .i64 (d : Nat))) (hz : w.frozen? a = false) (hs : d + e ≤ 9223372036854775807) :
    Calls Tryz.prog 28 #[.pointer (some a), .int .i64 (e : Nat)] w fun x w' => x = .returned (.int .i64 ((d + e : Nat) : Int)) ∧ w' = w.setCell a (.int .i64 ((d + e : Nat) : Int)) := by
  have hadd := run_call_add (P := Tryz.prog) Tryz.func51 (by kernel_rfl) (by kernel_rfl) (by kernel_rfl) .i64 (by kernel_rfl) (y := (e : Int)) (s := ((d + e : Nat) : Int)) hc hz (by simp [go_sem]; rw [IntKind.wrap_i64]; omega)
  go_enter Tryz.func28, Tryz.ntmps28
  go_wp2
  go_ret
  exact ⟨rfl, rfl⟩
end Go.Proofs.YtfbhdkkmcfnghaaGreat
end

section
namespace Go.Proofs.YtfbhdkkmcfnghaaGreat
open Go.RowKit
set_option linter.unusedVariables false

set_option maxHeartbeats 1000000 in
set_option maxRecDepth 100000 in
theorem coTaken_any {w : World} {P : Nat → Prop} {g : Nat} {c : Co} (h : CoM w P g c) : Calls Tryz.prog 17 #[.pointer (some ⟨g, 0, none⟩)] w fun e w' => e = .returned (.int .i64 (c.tk : Nat)) ∧ w' = w := by
  obtain ⟨v, W, A, cap, R, h⟩ := h
  have hk := i64_load ⟨g, 3, none⟩ _ w (h.head.cell (i := 3) rfl)
  have HK := Stow.mk hk
  obtain ⟨k, hk2⟩ : ∃ k, c.tk = k := ⟨_, rfl⟩
  rw [hk2] at HK ⊢
  clear hk hk2 h
  go_enter Tryz.func17, Tryz.ntmps17
  go_wp2_with (go_at_call 42; refine HK.out.mono ?_; rintro e w' ⟨rfl, rfl⟩)
  go_ret
  exact ⟨rfl, rfl⟩
set_option maxHeartbeats 1000000 in
set_option maxRecDepth 100000 in
theorem coTaken_nil (w : World) : Calls Tryz.prog 17 #[.pointer none] w fun e w' => e = .returned (.int .i64 0) ∧ w' = w := by
  go_enter Tryz.func17, Tryz.ntmps17
  go_wp2_with fail
  go_ret
  exact ⟨rfl, rfl⟩
set_option maxHeartbeats 1000000 in
set_option maxRecDepth 100000 in
theorem coTwice_any {w : World} {P : Nat → Prop} {g : Nat} {c : Co} (h : CoM w P g c) : Calls Tryz.prog 19 #[.pointer (some ⟨g, 0, none⟩)] w fun e w' => e = .returned (.int .i64 (c.tw : Nat)) ∧ w' = w := by
  obtain ⟨v, W, A, cap, R, h⟩ := h
  have hk := i64_load ⟨g, 4, none⟩ _ w (h.head.cell (i := 4) rfl)
  have HK := Stow.mk hk
  obtain ⟨k, hk2⟩ : ∃ k, c.tw = k := ⟨_, rfl⟩
  rw [hk2] at HK ⊢
  clear hk hk2 h
  go_enter Tryz.func19, Tryz.ntmps19
  go_wp2_with (go_at_call 42; refine HK.out.mono ?_; rintro e w' ⟨rfl, rfl⟩)
  go_ret
  exact ⟨rfl, rfl⟩
set_option maxHeartbeats 1000000 in
set_option maxRecDepth 100000 in
theorem coTwice_nil (w : World) : Calls Tryz.prog 19 #[.pointer none] w fun e w' => e = .returned (.int .i64 0) ∧ w' = w := by
  go_enter Tryz.func19, Tryz.ntmps19
  go_wp2_with fail
  go_ret
  exact ⟨rfl, rfl⟩
set_option maxHeartbeats 1000000 in
set_option maxRecDepth 100000 in
theorem coBad_any {w : World} {P : Nat → Prop} {g : Nat} {c : Co} (h : CoM w P g c) : Calls Tryz.prog 20 #[.pointer (some ⟨g, 0, none⟩)] w fun e w' => e = .returned (.int .i64 (c.bd : Nat)) ∧ w' = w := by
  obtain ⟨v, W, A, cap, R, h⟩ := h
  have hk := i64_load ⟨g, 5, none⟩ _ w (h.head.cell (i := 5) rfl)
  have HK := Stow.mk hk
  obtain ⟨k, hk2⟩ : ∃ k, c.bd = k := ⟨_, rfl⟩
  rw [hk2] at HK ⊢
  clear hk hk2 h
  go_enter Tryz.func20, Tryz.ntmps20
  go_wp2_with (go_at_call 42; refine HK.out.mono ?_; rintro e w' ⟨rfl, rfl⟩)
  go_ret
  exact ⟨rfl, rfl⟩
set_option maxHeartbeats 1000000 in
set_option maxRecDepth 100000 in
theorem coBad_nil (w : World) : Calls Tryz.prog 20 #[.pointer none] w fun e w' => e = .returned (.int .i64 0) ∧ w' = w := by
  go_enter Tryz.func20, Tryz.ntmps20
  go_wp2_with fail
  go_ret
  exact ⟨rfl, rfl⟩
set_option maxHeartbeats 1000000 in
set_option maxRecDepth 100000 in
theorem coEvicted_any {w : World} {P : Nat → Prop} {g : Nat} {c : Co} (h : CoM w P g c) : Calls Tryz.prog 22 #[.pointer (some ⟨g, 0, none⟩)] w fun e w' => e = .returned (.int .i64 (c.ev : Nat)) ∧ w' = w := by
  obtain ⟨v, W, A, cap, R, h⟩ := h
  have hk := i64_load ⟨g, 6, none⟩ _ w (h.head.cell (i := 6) rfl)
  have HK := Stow.mk hk
  obtain ⟨k, hk2⟩ : ∃ k, c.ev = k := ⟨_, rfl⟩
  rw [hk2] at HK ⊢
  clear hk hk2 h
  go_enter Tryz.func22, Tryz.ntmps22
  go_wp2_with (go_at_call 42; refine HK.out.mono ?_; rintro e w' ⟨rfl, rfl⟩)
  go_ret
  exact ⟨rfl, rfl⟩
set_option maxHeartbeats 1000000 in
set_option maxRecDepth 100000 in
theorem coEvicted_nil (w : World) : Calls Tryz.prog 22 #[.pointer none] w fun e w' => e = .returned (.int .i64 0) ∧ w' = w := by
  go_enter Tryz.func22, Tryz.ntmps22
  go_wp2_with fail
  go_ret
  exact ⟨rfl, rfl⟩

set_option maxHeartbeats 1000000 in
set_option maxRecDepth 100000 in
theorem coNew_any (r : Int) (w : World) : Calls Tryz.prog 7 #[.int .i64 r] w fun e w' => ∃ g, e = .returned (.pointer (some ⟨g, 0, none⟩)) ∧ w.heap.size ≤ g ∧ g < w'.heap.size ∧ (∀ P : Nat → Prop, ¬ P g → CoM w' P g (Co.mk r [] [] 0 0 0 0)) ∧ Below w.heap.size w w' := by
  have hb := Below.alloc' (Below.self w) (.cells #[.int .i64 r, .slice none 0 0, .slice none 0 0, .int .i64 0, .int .i64 0, .int .i64 0, .int .i64 0] 74)
  have hh := Held.made w [.int .i64 r, .slice none 0 0, .slice none 0 0, .int .i64 0, .int .i64 0, .int .i64 0, .int .i64 0] 74
  have HE : Stow (∀ W', W' = w.alloc (.cells #[.int .i64 r, .slice none 0 0, .slice none 0 0, .int .i64 0, .int .i64 0, .int .i64 0, .int .i64 0] 74) → w.heap.size < W'.heap.size ∧ (∀ P : Nat → Prop, ¬ P w.heap.size → CoM W' P w.heap.size (Co.mk r [] [] 0 0 0 0)) ∧ Below w.heap.size w W') := ⟨by
    rintro W' rfl
    refine ⟨hh.lt, fun P hP => ⟨.slice none 0 0, [], none, 0, [], hh, hP, WinR.none _, rfl, ⟨fun a n c e => by simp at e, by simp⟩, ⟨fun hne => absurd rfl hne, by simp⟩, ⟨SlR.nil _ _, by simp⟩, rfl⟩, hb⟩⟩
  clear hb hh
  go_enter Tryz.func7, Tryz.ntmps7
  go_wp2_with fail
  go_ret
  exact ⟨w.heap.size, rfl, Nat.le_refl _, HE.out _ rfl⟩

/-- A list of traces' numbers. -/
def TrL (w : World) (A : Option Addr) (cap : Nat) (T : List (Nat × Nat)) : Prop := SlR w 2 (.slice A T.length cap) (T.map fun p => [.int .u64 (p.1 : Int), .int .u64 (p.2 : Int)])
def Kp.tr (k : Kp) : Nat × Nat := (k.hi, k.lo)
def Co.trs (c : Co) : List (Nat × Nat) := c.K.map Kp.tr
theorem TrR.list {w : World} {A : Option Addr} {cap : Nat} {R : List Km} {K : List Kp} (h : TrR w A cap R) (hk : R.map Km.k = K) : TrL w A cap (K.map Kp.tr) := by
  subst hk
  unfold TrR at h
  unfold TrL
  rw [List.length_map, List.length_map, List.map_map, List.map_map]
  exact h
theorem TrL.keep {w w' : World} {A : Option Addr} {cap : Nat} {T : List (Nat × Nat)} (h : TrL w A cap T) (hb : Below w.heap.size w w') : TrL w' A cap T := SlR.keep h hb
theorem CoR.few {w : World} {P : Nat → Prop} {c : Co} {m : Nat} {v : Value} {W : List Wm} {A : Option Addr} {cap : Nat} {R : List Km} (h : CoR w P c v W A cap R) (hc : c.Ok m) : R.length ≤ 32 ∧ ∀ m ∈ R, m.k.L.length ≤ 64 ∧ KdOk m.k.L := by
  refine ⟨?_, fun m hm => ?_⟩
  · have := hc.fine.len
    rw [← h.kk] at this
    simpa using this
  · have : m.k ∈ c.K := by rw [← h.kk]; exact List.mem_map_of_mem hm
    exact ⟨(hc.fine.each _ this).2, hc.kd _ this⟩
set_option maxHeartbeats 1000000 in
set_option maxRecDepth 100000 in
theorem coTraces_any {w : World} {P : Nat → Prop} {g m : Nat} {c : Co} (h : CoM w P g c) (hc : c.Ok m) : Calls Tryz.prog 16 #[.pointer (some ⟨g, 0, none⟩)] w fun e w' => ∃ A cap, e = .returned (.slice A c.trs.length cap) ∧ TrL w' A cap c.trs ∧ Below w.heap.size w w' := by
  obtain ⟨v, W, A, cap, R, h⟩ := h
  have HK := Stow.mk (stTraces_any A cap R w h.row.ks (by have := (h.row.few hc).1; omega))
  have HKK := Stow.mk h.row.kk
  have c2 := h.head.cell (i := 2) rfl
  clear h
  go_enter Tryz.func16, Tryz.ntmps16
  go_wp2_with fail
  refine HK.out.mono ?_
  rintro e w1 ⟨A1, c1, rfl, ht, hb⟩
  have HT := Stow.mk (ht.list HKK.out)
  have HB := Stow.mk hb
  have HL : Stow (R.length = c.trs.length) := ⟨by unfold Co.trs; rw [← HKK.out]; simp⟩
  clear ht hb
  go_wp2_with fail
  go_ret
  rw [HL.out]
  exact ⟨A1, c1, rfl, HT.out, HB.out⟩
set_option maxHeartbeats 1000000 in
set_option maxRecDepth 100000 in
theorem coTraces_nil (w : World) : Calls Tryz.prog 16 #[.pointer none] w fun e w' => e = .returned (.slice none 0 0) ∧ w' = w := by
  go_enter Tryz.func16, Tryz.ntmps16
  go_wp2_with fail
  go_ret
  exact ⟨rfl, rfl⟩
end Go.Proofs.YtfbhdkkmcfnghaaGreat
end
