/- Tables and a control plane in plain Lean: what may be, the order of rules, what is published. No condition.; Laws of a control plane in plain Lean. No condition.; Walks of slices.Index, Contains at texts, slices.IndexFunc, ContainsFunc at ints, rule.within, parts, sized, and the reference's in, part. Conditions: slices' own.; Tables and a control plane in memory. No condition. -/
import Derived.Test.YtfbhdkkmcfnghaaGreatDoorCfRdSpec
import Derived.Test.YtfbhdkkmcfnghaaGreatDoorCfMem
import Derived.Test.YtfbhdkkmcfnghaaGreatDoorCfRdMem

section
namespace Go.Proofs.YtfbhdkkmcfnghaaGreatDoor
set_option linter.unusedVariables false
namespace Ct
def inR (n lo hi : Int) : Bool := decide (lo ≤ n) && decide (n ≤ hi)
def sized (n lo hi pct : Int) : Bool := inR n lo hi || (n == 0 && pct == 0)
/-- Why a rule may not be, these names known. -/
def rcheck (N : List (List UInt8)) (r : Ru) : Nat :=
  if inR r.rank 0 99 = false then 12 else
  if 4 < r.ps.length then 8 else
  if Cf.firstErr Pd.err r.ps ≠ 0 then Cf.firstErr Pd.err r.ps else
  if r.tg ∉ N ∨ (r.mi ≠ [] ∧ r.mi ∉ N) then 7 else
  if ([r.ap, r.dp, r.mp, r.sm].all fun n => inR n 0 100) = false then 12 else
  if sized r.st 400 599 r.ap = false ∨ sized r.dt 1 50 r.dp = false then 12 else
  if 0 < r.mp ∧ r.mi = [] then 9 else 0
def check (N : List (List UInt8)) (c : Cf) : Nat := if Cf.fmtOk c.f = false then 15 else if 16 < c.rs.length then 8 else Cf.firstErr (rcheck N) c.rs
/-- A rule is put behind all of its rank and of higher ones. -/
def ins (r : Ru) : List Ru → List Ru
  | [] => [r]
  | x :: t => if x.rank < r.rank then r :: x :: t else x :: ins r t
def order (l : List Ru) : List Ru := l.foldl (fun acc r => ins r acc) []
def Falls (l : List Ru) : Prop := l.Pairwise fun a b => b.rank ≤ a.rank
theorem ins_mem {r x : Ru} : ∀ {l : List Ru}, x ∈ ins r l ↔ x = r ∨ x ∈ l
  | [] => by simp [ins]
  | y :: t => by
    unfold ins
    split
    · simp
    · simp only [List.mem_cons, ins_mem (l := t)]
      constructor
      · rintro (h | h | h)
        · exact .inr (.inl h)
        · exact .inl h
        · exact .inr (.inr h)
      · rintro (h | h | h)
        · exact .inr (.inl h)
        · exact .inl h
        · exact .inr (.inr h)
theorem ins_len (r : Ru) : ∀ l : List Ru, (ins r l).length = l.length + 1
  | [] => rfl
  | y :: t => by
    unfold ins
    split
    · simp
    · simp [ins_len r t]
theorem ins_falls {r : Ru} : ∀ {l : List Ru}, Falls l → Falls (ins r l)
  | [], _ => by simp [ins, Falls]
  | y :: t, h => by
    have h' := List.pairwise_cons.1 h
    unfold ins
    split
    · rename_i hlt
      refine List.pairwise_cons.2 ⟨fun x hx => ?_, h⟩
      rcases List.mem_cons.1 hx with rfl | hx
      · omega
      · have := h'.1 x hx; omega
    · rename_i hlt
      refine List.pairwise_cons.2 ⟨fun x hx => ?_, ins_falls h'.2⟩
      rcases ins_mem.1 hx with rfl | hx
      · omega
      · exact h'.1 x hx
/-- Where it goes in a row that falls. -/
theorem ins_at {r : Ru} : ∀ {P Q : List Ru}, (∀ x ∈ P, r.rank ≤ x.rank) → (∀ x ∈ Q, x.rank < r.rank) → ins r (P ++ Q) = P ++ r :: Q
  | [], [], _, _ => rfl
  | [], y :: t, _, h => by
    have := h y (by simp)
    simp only [List.nil_append]
    unfold ins
    rw [if_pos this]
  | x :: P, Q, h, h2 => by
    have := h x (by simp)
    simp only [List.cons_append]
    unfold ins
    rw [if_neg (by omega), ins_at (P := P) (fun y hy => h y (by simp [hy])) h2]
theorem ins_last {r : Ru} {l : List Ru} (h : ∀ x ∈ l, r.rank ≤ x.rank) : ins r l = l ++ [r] := by
  have := ins_at (r := r) (P := l) (Q := []) h (by simp)
  simpa using this
theorem order_snoc (l : List Ru) (r : Ru) : order (l ++ [r]) = ins r (order l) := by simp [order, List.foldl_append]
theorem order_take {l : List Ru} {i : Nat} (h : i < l.length) : order (l.take (i + 1)) = ins l[i] (order (l.take i)) := by
  rw [List.take_succ_eq_append_getElem h, order_snoc]
theorem foldl_facts : ∀ (l acc : List Ru), Falls acc → Falls (l.foldl (fun acc r => ins r acc) acc) ∧ (∀ x, x ∈ l.foldl (fun acc r => ins r acc) acc ↔ x ∈ l ∨ x ∈ acc) ∧ (l.foldl (fun acc r => ins r acc) acc).length = l.length + acc.length
  | [], acc, h => ⟨h, by simp, by simp⟩
  | r :: t, acc, h => by
    obtain ⟨h1, h2, h3⟩ := foldl_facts t (ins r acc) (ins_falls h)
    refine ⟨h1, fun x => ?_, ?_⟩
    · rw [List.foldl_cons, h2, ins_mem]
      simp only [List.mem_cons]
      constructor
      · rintro (h | h | h)
        · exact .inl (.inr h)
        · exact .inl (.inl h)
        · exact .inr h
      · rintro ((h | h) | h)
        · exact .inr (.inl h)
        · exact .inl h
        · exact .inr (.inr h)
    · rw [List.foldl_cons, h3, ins_len]; simp; omega
theorem order_falls (l : List Ru) : Falls (order l) := (foldl_facts l [] List.Pairwise.nil).1
theorem order_mem (l : List Ru) (x : Ru) : x ∈ order l ↔ x ∈ l := by unfold order; have := (foldl_facts l [] List.Pairwise.nil).2.1 x; simpa using this
theorem order_len (l : List Ru) : (order l).length = l.length := by unfold order; have := (foldl_facts l [] List.Pairwise.nil).2.2; simpa using this
/-- A row that falls is in order. -/
theorem order_same {l : List Ru} (h : Falls l) : order l = l := by
  have key : ∀ (t acc : List Ru), Falls (acc ++ t) → t.foldl (fun acc r => ins r acc) acc = acc ++ t := by
    intro t
    induction t with
    | nil => intro acc _; simp
    | cons r t ih =>
      intro acc h
      have e : ins r acc = acc ++ [r] := ins_last fun x hx => (List.pairwise_append.1 h).2.2 x hx r (by simp)
      rw [List.foldl_cons, e, ih (acc ++ [r]) (by simpa using h)]
      simp
  have := key l [] (by simpa using h)
  simpa [order] using this
theorem check_order {N : List (List UInt8)} {c : Cf} (h : check N c = 0) : check N ⟨order c.rs, c.f⟩ = 0 := by
  unfold check at h ⊢
  split at h
  · cases h
  rename_i h1
  split at h
  · cases h
  rename_i h2
  rw [if_neg h1, if_neg (by simp only; rw [order_len]; exact h2)]
  refine Cf.firstErr_none fun j hj => ?_
  exact Cf.firstErr_zero h _ ((order_mem _ _).1 (List.getElem_mem hj))
/-- A plane: the names it knows, its tables, how many texts were refused. -/
structure Pl where
  N : List (List UInt8)
  T : List Cf
  bad : Nat
/-- Why a text is not published. -/
def why (p : Pl) (t : List UInt8) : Nat :=
  if (Cf.read t).2.2 ≠ 0 then (Cf.read t).2.2 else if check p.N (Cf.read t).1 ≠ 0 then check p.N (Cf.read t).1 else if 16 ≤ p.T.length then 8 else 0
def publish (p : Pl) (t : List UInt8) : Pl :=
  if why p t = 0 then { p with T := p.T ++ [⟨order (Cf.read t).1.rs, (Cf.read t).1.f⟩] } else { p with bad := p.bad + 1 }
end Ct
end Go.Proofs.YtfbhdkkmcfnghaaGreatDoor
end

section
namespace Go.Proofs.YtfbhdkkmcfnghaaGreatDoor
set_option linter.unusedVariables false
namespace Ct
/-- Few versions, each whole. -/
structure Pl.Ok (p : Pl) : Prop where
  few : p.T.length ≤ 16
  good : ∀ t ∈ p.T, check p.N t = 0 ∧ Falls t.rs
theorem Pl.Ok.start (N : List (List UInt8)) : Pl.Ok ⟨N, [], 0⟩ := ⟨by simp, by simp⟩
theorem publish_N (p : Pl) (t : List UInt8) : (publish p t).N = p.N := by unfold publish; split <;> rfl
theorem why_check {p : Pl} {t : List UInt8} (h : why p t = 0) : (Cf.read t).2.2 = 0 ∧ check p.N (Cf.read t).1 = 0 ∧ p.T.length < 16 := by
  unfold why at h
  split at h
  · rename_i h1; exact absurd h h1
  · rename_i h1
    split at h
    · rename_i h2; exact absurd h h2
    · rename_i h2
      split at h
      · cases h
      · rename_i h3
        exact ⟨by simpa using h1, by simpa using h2, by omega⟩
theorem Pl.Ok.publish {p : Pl} (h : p.Ok) (t : List UInt8) : (Ct.publish p t).Ok := by
  unfold Ct.publish
  by_cases hw : why p t = 0
  · rw [if_pos hw]
    obtain ⟨_, h2, h3⟩ := why_check hw
    refine ⟨by simp only [List.length_append, List.length_cons, List.length_nil]; omega, fun x hx => ?_⟩
    rcases List.mem_append.1 hx with hx | hx
    · exact h.good x hx
    · simp only [List.mem_singleton] at hx
      subst hx
      exact ⟨check_order h2, order_falls _⟩
  · rw [if_neg hw]
    exact ⟨h.few, h.good⟩
theorem publish_sum (p : Pl) (t : List UInt8) : (publish p t).T.length + (publish p t).bad = p.T.length + p.bad + 1 := by
  unfold publish
  split
  · simp only [List.length_append, List.length_cons, List.length_nil]; omega
  · simp only; omega
theorem publish_yes {p : Pl} {t : List UInt8} (h : why p t = 0) : publish p t = { p with T := p.T ++ [⟨order (Cf.read t).1.rs, (Cf.read t).1.f⟩] } := by unfold publish; rw [if_pos h]
theorem publish_no {p : Pl} {t : List UInt8} (h : why p t ≠ 0) : publish p t = { p with bad := p.bad + 1 } := by unfold publish; rw [if_neg h]
theorem why_same {p x : Pl} (hN : x.N = p.N) (hT : x.T = p.T) (t : List UInt8) : why x t = why p t := by unfold why; rw [hN, hT]
end Ct
end Go.Proofs.YtfbhdkkmcfnghaaGreatDoor
end

section
namespace Go.Proofs.YtfbhdkkmcfnghaaGreatDoor
open Go.RowKit
set_option linter.unusedVariables false
set_option linter.unusedSimpArgs false

theorem str_at {w : World} {b off n cap k : Nat} {L : List (List UInt8)} (h : SlR w 1 (.slice (some ⟨b, off, none⟩) n cap) (L.map fun l => [Value.string (bs l)])) (hk : k < L.length) : w.cell? ⟨b, off + k, none⟩ = some (.string (bs L[k])) := by
  obtain ⟨_, hc⟩ := h.cells (i := k) (x := [Value.string (bs L[k])]) (by rw [List.getElem?_map, List.getElem?_eq_getElem hk]; rfl)
  have := hc 0 _ rfl
  simpa using this
theorem not_in_of {L : List (List UInt8)} {x : List UInt8} (h : ∀ j (hj : j < L.length), L[j] ≠ x) : x ∉ L := fun hx => by
  obtain ⟨j, hj, rfl⟩ := List.getElem_of_mem hx
  exact h j hj rfl
set_option maxHeartbeats 1000000 in
set_option maxRecDepth 100000 in
theorem strIndex_any (L : List (List UInt8)) (x : List UInt8) (A : Option Addr) (cap : Nat) (w : World) (hS : SlR w 1 (.slice A L.length cap) (L.map fun l => [Value.string (bs l)])) :
    Calls Tryz.prog 139 #[.slice A L.length cap, .string (bs x)] w fun e w' => ∃ i : Int, e = .returned (.int .i64 i) ∧ (decide (0 ≤ i) = decide (x ∈ L)) ∧ w' = w := by
  have HS := Stow.mk hS
  have hlen := hS.len
  simp only [List.length_map] at hlen
  obtain ⟨n, hn⟩ : ∃ n, L.length = n := ⟨_, rfl⟩
  have HNL := Stow.mk hn
  rw [hn] at hlen ⊢
  clear hS hn
  go_enter Tryz.func139, Tryz.ntmps139
  go_wp2_with fail
  go_loop [8] (fun u => ∃ j : Nat, u = .int .i64 (j : Int) ∧ j ≤ n ∧ Stow (∀ k (hk : k < L.length), k < j → L[k] ≠ x)) (fun u => n - (intOf u).toNat)
  case atStart => exact ⟨0, rfl, by omega, ⟨fun k hk h => by omega⟩⟩
  case round =>
    obtain ⟨j, rfl, hj, HJ⟩ := hrel
    by_cases hlt : j < n
    · have hl1 : j < L.length := by rw [HNL.out]; exact hlt
      obtain ⟨b, off, rfl, hblt, _⟩ := HS.out.open (by simp; omega)
      have q0 := str_at HS.out hl1
      obtain ⟨s, hs⟩ : ∃ s, L[j] = s := ⟨_, rfl⟩
      have HSJ := Stow.mk hs
      rw [hs] at q0
      clear hs
      have hji : (j : Int) < n := by omega
      have hj0 : (0 : Int) ≤ j := by omega
      by_cases he : s = x
      · subst he
        have HIN : Stow (s ∈ L) := ⟨by rw [← HSJ.out]; exact List.getElem_mem hl1⟩
        go_wp2_with fail
        go_ret
        exact ⟨(j : Int), rfl, by have h := HIN.out; simp [h], rfl⟩
      · have e1 : (x == s) = false := by rw [beq_eq_false_iff_ne]; exact fun e => he e.symm
        have e2 : (s == x) = false := by rw [beq_eq_false_iff_ne]; exact he
        have HN2 : Stow (∀ k (hk : k < L.length), k < j + 1 → L[k] ≠ x) := ⟨fun k hk h => by
          by_cases e : k = j
          · subst e; rw [HSJ.out]; exact he
          · exact HJ.out k hk (by omega)⟩
        clear he
        go_wp2_with fail
        exact ⟨⟨j + 1, by simp, by omega, HN2⟩, by simp [intOf]; omega⟩
    · obtain rfl : j = n := by omega
      have HNO : Stow (x ∉ L) := ⟨not_in_of fun k hk => HJ.out k hk (by rw [← HNL.out]; exact hk)⟩
      go_wp2_with fail
      go_ret
      exact ⟨-1, rfl, by have h := HNO.out; simp [h], rfl⟩
set_option maxHeartbeats 1000000 in
set_option maxRecDepth 100000 in
theorem refIn12_any (L : List (List UInt8)) (x : List UInt8) (A : Option Addr) (cap : Nat) (w : World) (hS : SlR w 1 (.slice A L.length cap) (L.map fun l => [Value.string (bs l)])) :
    Calls Tryz.prog 181 #[.slice A L.length cap, .string (bs x)] w fun e w' => e = .returned (.bool (decide (x ∈ L))) ∧ w' = w := by
  obtain ⟨r, hr⟩ : ∃ b, decide (x ∈ L) = b := ⟨_, rfl⟩
  have HR := Stow.mk hr
  rw [hr]
  clear hr
  have HS := Stow.mk hS
  have hlen := hS.len
  simp only [List.length_map] at hlen
  obtain ⟨n, hn⟩ : ∃ n, L.length = n := ⟨_, rfl⟩
  have HNL := Stow.mk hn
  rw [hn] at hlen ⊢
  clear hS hn
  go_enter Tryz.func181, Tryz.ntmps181
  go_wp2_with fail
  go_loop [5] (fun u => ∃ j : Nat, u = .int .i64 (j : Int) ∧ j ≤ n ∧ Stow (∀ k (hk : k < L.length), k < j → L[k] ≠ x)) (fun u => n - (intOf u).toNat)
  case atStart => exact ⟨0, rfl, by omega, ⟨fun k hk h => by omega⟩⟩
  case round =>
    obtain ⟨j, rfl, hj, HJ⟩ := hrel
    by_cases hlt : j < n
    · have hl1 : j < L.length := by rw [HNL.out]; exact hlt
      obtain ⟨b, off, rfl, hblt, _⟩ := HS.out.open (by simp; omega)
      have q0 := str_at HS.out hl1
      obtain ⟨s, hs⟩ : ∃ s, L[j] = s := ⟨_, rfl⟩
      have HSJ := Stow.mk hs
      rw [hs] at q0
      clear hs
      have hji : (j : Int) < n := by omega
      have hj0 : (0 : Int) ≤ j := by omega
      by_cases he : s = x
      · subst he
        have HIN : Stow (s ∈ L) := ⟨by rw [← HSJ.out]; exact List.getElem_mem hl1⟩
        go_wp2_with fail
        go_ret
        exact ⟨by rw [← HR.out, decide_eq_true HIN.out]; rfl, rfl⟩
      · have e1 : (x == s) = false := by rw [beq_eq_false_iff_ne]; exact fun e => he e.symm
        have e2 : (s == x) = false := by rw [beq_eq_false_iff_ne]; exact he
        have HN2 : Stow (∀ k (hk : k < L.length), k < j + 1 → L[k] ≠ x) := ⟨fun k hk h => by
          by_cases e : k = j
          · subst e; rw [HSJ.out]; exact he
          · exact HJ.out k hk (by omega)⟩
        clear he
        go_wp2_with fail
        exact ⟨⟨j + 1, by simp, by omega, HN2⟩, by simp [intOf]; omega⟩
    · obtain rfl : j = n := by omega
      have HNO : Stow (x ∉ L) := ⟨not_in_of fun k hk => HJ.out k hk (by rw [← HNL.out]; exact hk)⟩
      go_wp2_with fail
      go_ret
      exact ⟨by rw [← HR.out, decide_eq_false HNO.out]; rfl, rfl⟩
set_option maxHeartbeats 1000000 in
set_option maxRecDepth 100000 in
theorem strContains_any (L : List (List UInt8)) (x : List UInt8) (A : Option Addr) (cap : Nat) (w : World) (hS : SlR w 1 (.slice A L.length cap) (L.map fun l => [Value.string (bs l)])) :
    Calls Tryz.prog 100 #[.slice A L.length cap, .string (bs x)] w fun e w' => e = .returned (.bool (decide (x ∈ L))) ∧ w' = w := by
  have HC := Stow.mk (strIndex_any L x A cap w hS)
  obtain ⟨b, hb⟩ : ∃ b, decide (x ∈ L) = b := ⟨_, rfl⟩
  rw [hb] at HC ⊢
  clear hS hb
  go_enter Tryz.func100, Tryz.ntmps100
  go_wp2_with fail
  refine HC.out.mono ?_
  rintro e w1 ⟨i, rfl, hi, rfl⟩
  cases b with
  | true =>
    have hi2 : (0 : Int) ≤ i := by simpa using hi
    clear hi
    go_wp2_with fail
    go_ret
    exact ⟨by simp [hi2], rfl⟩
  | false =>
    have hi2 : ¬ (0 : Int) ≤ i := by simpa using hi
    clear hi
    go_wp2_with fail
    go_ret
    exact ⟨by simp [hi2], rfl⟩
set_option maxHeartbeats 1000000 in
set_option maxRecDepth 100000 in
theorem within_any (n lo hi : Int) (w : World) : Calls Tryz.prog 176 #[.int .i64 n, .int .i64 lo, .int .i64 hi] w fun e w' => e = .returned (.bool (Ct.inR n lo hi)) ∧ w' = w := by
  unfold Ct.inR
  by_cases h1 : lo ≤ n
  · have h1d : decide (lo ≤ n) = true := by simpa using h1
    by_cases h2 : n ≤ hi
    · have h2d : decide (n ≤ hi) = true := by simpa using h2
      rw [h1d, h2d]
      go_enter Tryz.func176, Tryz.ntmps176
      go_wp2_with fail
      go_ret
      exact ⟨rfl, rfl⟩
    · have h2d : decide (n ≤ hi) = false := by simpa using h2
      rw [h1d, h2d]
      go_enter Tryz.func176, Tryz.ntmps176
      go_wp2_with fail
      go_ret
      exact ⟨rfl, rfl⟩
  · have h1d : decide (lo ≤ n) = false := by simpa using h1
    rw [h1d]
    go_enter Tryz.func176, Tryz.ntmps176
    go_wp2_with fail
    go_ret
    exact ⟨rfl, rfl⟩
set_option maxHeartbeats 1000000 in
set_option maxRecDepth 100000 in
theorem refPart_any (n : Int) (w : World) : Calls Tryz.prog 182 #[.int .i64 n] w fun e w' => e = .returned (.bool (Ct.inR n 0 100)) ∧ w' = w := by
  unfold Ct.inR
  by_cases h1 : 0 ≤ n
  · have h1d : decide (0 ≤ n) = true := by simpa using h1
    by_cases h2 : n ≤ 100
    · have h2d : decide (n ≤ 100) = true := by simpa using h2
      rw [h1d, h2d]
      go_enter Tryz.func182, Tryz.ntmps182
      go_wp2_with fail
      go_ret
      exact ⟨rfl, rfl⟩
    · have h2d : decide (n ≤ 100) = false := by simpa using h2
      rw [h1d, h2d]
      go_enter Tryz.func182, Tryz.ntmps182
      go_wp2_with fail
      go_ret
      exact ⟨rfl, rfl⟩
  · have h1d : decide (0 ≤ n) = false := by simpa using h1
    rw [h1d]
    go_enter Tryz.func182, Tryz.ntmps182
    go_wp2_with fail
    go_ret
    exact ⟨rfl, rfl⟩
set_option maxHeartbeats 1000000 in
set_option maxRecDepth 100000 in
theorem sized_any (n lo hi pct : Int) (w : World) : Calls Tryz.prog 179 #[.int .i64 n, .int .i64 lo, .int .i64 hi, .int .i64 pct] w fun e w' => e = .returned (.bool (Ct.sized n lo hi pct)) ∧ w' = w := by
  unfold Ct.sized
  have HW := Stow.mk (within_any n lo hi w)
  obtain ⟨b, hb⟩ : ∃ b, Ct.inR n lo hi = b := ⟨_, rfl⟩
  rw [hb] at HW ⊢
  clear hb
  cases b with
  | true =>
    go_enter Tryz.func179, Tryz.ntmps179
    go_wp2_with fail
    refine HW.out.mono ?_
    rintro e w1 ⟨rfl, rfl⟩
    go_wp2_with fail
    go_ret
    exact ⟨rfl, rfl⟩
  | false =>
    by_cases h1 : n = 0
    · subst h1
      obtain ⟨c, hc⟩ : ∃ c, (pct == 0) = c := ⟨_, rfl⟩
      rw [hc]
      cases c with
      | true =>
        obtain rfl : pct = 0 := by simpa using hc
        go_enter Tryz.func179, Tryz.ntmps179
        go_wp2_with fail
        refine HW.out.mono ?_
        rintro e w1 ⟨rfl, rfl⟩
        go_wp2_with fail
        go_ret
        exact ⟨rfl, rfl⟩
      | false =>
        go_enter Tryz.func179, Tryz.ntmps179
        go_wp2_with fail
        refine HW.out.mono ?_
        rintro e w1 ⟨rfl, rfl⟩
        go_wp2_with fail
        go_ret
        exact ⟨rfl, rfl⟩
    · have h1d : (n == 0) = false := by simpa using h1
      rw [h1d]
      go_enter Tryz.func179, Tryz.ntmps179
      go_wp2_with fail
      refine HW.out.mono ?_
      rintro e w1 ⟨rfl, rfl⟩
      go_wp2_with fail
      go_ret
      exact ⟨rfl, rfl⟩
end Go.Proofs.YtfbhdkkmcfnghaaGreatDoor
end

section
namespace Go.Proofs.YtfbhdkkmcfnghaaGreatDoor
open Go.RowKit
set_option linter.unusedVariables false

theorem Turn.mono {F F' : Nat → Prop} {w w' : World} (h : Turn F w w') (hF : ∀ k, F k → F' k) : Turn F' w w' := ⟨h.os, h.tape, h.output, h.size, fun k hk hn => h.block k hk (fun e => hn (hF k e))⟩
/-- A table, and where its rules lie. -/
structure Tm where
  n : Nat
  A : Option Addr
  cap : Nat
  R : List Rm
  f : List UInt8
def Tm.cells (t : Tm) : List Value := [.int .i64 (t.n : Int), .slice t.A t.R.length t.cap, .string (bs t.f)]
def Tm.c (t : Tm) : Cf := ⟨t.R.map Rm.r, t.f⟩
theorem Tm.one (t : Tm) : ∀ u ∈ t.cells, u.oneCell' = true := by
  intro u hu
  simp [Tm.cells] at hu
  rcases hu with rfl | rfl | rfl <;> rfl
/-- Where rules lie. -/
def InR (P : Nat → Prop) (A : Option Addr) (R : List Rm) : Prop := (∀ a, A = some a → P a.block) ∧ ∀ m ∈ R, ∀ a, m.A = some a → P a.block
theorem InR.mono {P Q : Nat → Prop} {A : Option Addr} {R : List Rm} (h : InR P A R) (hPQ : ∀ k, P k → Q k) : InR Q A R := ⟨fun a e => hPQ _ (h.1 a e), fun m hm a e => hPQ _ (h.2 m hm a e)⟩
theorem RsR.turn {w w' : World} {P F : Nat → Prop} {A : Option Addr} {cap : Nat} {R : List Rm} (h : RsR w A cap R) (hn : InR P A R) (ht : Turn F w w') (hF : ∀ k, P k → ¬ F k) : RsR w' A cap R :=
  ⟨slrTurn h.row ht (fun a e => hF _ (hn.1 a e)), fun m hm => (h.each m hm).turn ht (fun a e => hF _ (hn.2 m hm a e))⟩
/-- A table that can be read, in blocks of P. -/
structure TbR (w : World) (P : Nat → Prop) (t : Tm) : Prop where
  rs : RsR w t.A t.cap t.R
  at_ : InR P t.A t.R
  f : t.f.length ≤ 4096
theorem TbR.turn {w w' : World} {P F : Nat → Prop} {t : Tm} (h : TbR w P t) (ht : Turn F w w') (hF : ∀ k, P k → ¬ F k) : TbR w' P t := ⟨h.rs.turn h.at_ ht hF, h.at_, h.f⟩
theorem TbR.keep {w w' : World} {P : Nat → Prop} {t : Tm} (h : TbR w P t) (hb : Below w.heap.size w w') : TbR w' P t := ⟨h.rs.keep hb, h.at_, h.f⟩
theorem TbR.mono {w : World} {P Q : Nat → Prop} {t : Tm} (h : TbR w P t) (hPQ : ∀ k, P k → Q k) : TbR w Q t := ⟨h.rs, h.at_.mono hPQ, h.f⟩

/-- The cells of a control plane. -/
def Ct.cells (p : Ct.Pl) (NA : Option Addr) (nc : Nat) (tv : Value) : List Value := [.slice NA p.N.length nc, tv, .int .i64 (p.T.length : Nat), .int .i64 (p.bad : Nat)]
def strs (N : List (List UInt8)) : List (List Value) := N.map fun l => [Value.string (bs l)]
/-- A control plane in block g, its lists in blocks of P, all below the heap's size. -/
structure PlAt (w : World) (P : Nat → Prop) (g : Nat) (p : Ct.Pl) (NA : Option Addr) (nc : Nat) (tv : Value) (L : List Tm) : Prop where
  hd : Held w g (Ct.cells p NA nc tv)
  gP : ¬ P g
  low : ∀ k, P k → k < w.heap.size
  ns : SlR w 1 (.slice NA p.N.length nc) (strs p.N)
  nsP : ∀ a, NA = some a → P a.block
  nsO : ∀ a, NA = some a → tv.ownBlock ≠ some a.block
  row : w.ownsRow 0 46 3 tv L.length (L.flatMap Tm.cells)
  rowP : ∀ i, tv.ownBlock = some i → P i
  each : ∀ t ∈ L, TbR w P t
  off : ∀ t ∈ L, InR (fun k => tv.ownBlock ≠ some k) t.A t.R
  eq : L.map Tm.c = p.T
  no : ∀ i (h : i < L.length), L[i].n = i + 1
def PlM (w : World) (P : Nat → Prop) (g : Nat) (p : Ct.Pl) : Prop := ∃ NA nc tv L, PlAt w P g p NA nc tv L
section
variable {w w' : World} {P F : Nat → Prop} {g nc : Nat} {p : Ct.Pl} {NA : Option Addr} {tv : Value} {L : List Tm}
theorem PlAt.turn (h : PlAt w P g p NA nc tv L) (ht : Turn F w w') (hF : ∀ k, P k → ¬ F k) (hg : ¬ F g) : PlAt w' P g p NA nc tv L :=
  ⟨h.hd.turn ht hg, h.gP, fun k hk => Nat.lt_of_lt_of_le (h.low k hk) ht.size, slrTurn h.ns ht (fun a e => hF _ (h.nsP a e)), h.nsP, h.nsO, own_turn h.row ht (fun i e => hF _ (h.rowP i e)), h.rowP, fun t ht' => (h.each t ht').turn ht hF, h.off, h.eq, h.no⟩
theorem PlAt.keep (h : PlAt w P g p NA nc tv L) (hb : Below w.heap.size w w') : PlAt w' P g p NA nc tv L := h.turn (F := fun _ => False) (Turn.of_below hb) (fun _ _ hf => hf) (fun hf => hf)
theorem PlM.turn (h : PlM w P g p) (ht : Turn F w w') (hF : ∀ k, P k → ¬ F k) (hg : ¬ F g) : PlM w' P g p := let ⟨a, b, c, d, h⟩ := h; ⟨a, b, c, d, h.turn ht hF hg⟩
theorem PlM.keep (h : PlM w P g p) (hb : Below w.heap.size w w') : PlM w' P g p := let ⟨a, b, c, d, h⟩ := h; ⟨a, b, c, d, h.keep hb⟩
theorem PlM.lt (h : PlM w P g p) : g < w.heap.size := let ⟨_, _, _, _, h⟩ := h; h.hd.lt
theorem PlM.low (h : PlM w P g p) : ∀ k, P k → k < w.heap.size := let ⟨_, _, _, _, h⟩ := h; h.low
theorem PlM.gP (h : PlM w P g p) : ¬ P g := let ⟨_, _, _, _, h⟩ := h; h.gP
theorem PlAt.len (h : PlAt w P g p NA nc tv L) : p.T.length = L.length := by rw [← h.eq, List.length_map]
/-- A count is set. -/
theorem PlAt.bad (h : PlAt w P g p NA nc tv L) (k : Nat) : PlAt (w.setCell ⟨g, 3, none⟩ (.int .i64 (k : Nat))) P g { p with bad := k } NA nc tv L := by
  have ht := Turn.setC w g 3 (.int .i64 (k : Nat))
  have hF : ∀ i, P i → ¬ i = g := fun i hi e => h.gP (e ▸ hi)
  exact ⟨h.hd.set 3 _, h.gP, fun i hi => Nat.lt_of_lt_of_le (h.low i hi) ht.size, slrTurn h.ns ht (fun a e => hF _ (h.nsP a e)), h.nsP, h.nsO, own_turn h.row ht (fun i e => hF _ (h.rowP i e)), h.rowP, fun t ht' => (h.each t ht').turn ht hF, h.off, h.eq, h.no⟩
end
theorem tm_at {w : World} {b off n cap k : Nat} {L : List Tm} (h : SlR w 3 (.slice (some ⟨b, off, none⟩) n cap) (L.map Tm.cells)) (hk : k < L.length) : w.cell? ⟨b, off + k * 3, none⟩ = some (.int .i64 (L[k].n : Int)) ∧ w.cell? ⟨b, off + k * 3 + 1, none⟩ = some (.slice L[k].A L[k].R.length L[k].cap) ∧ w.cell? ⟨b, off + k * 3 + 2, none⟩ = some (.string (bs L[k].f)) := by
  obtain ⟨hb, hc⟩ := h.cells (i := k) (x := L[k].cells) (by rw [List.getElem?_map, List.getElem?_eq_getElem hk]; rfl)
  exact ⟨hc 0 _ rfl, hc 1 _ rfl, hc 2 _ rfl⟩
end Go.Proofs.YtfbhdkkmcfnghaaGreatDoor
end
