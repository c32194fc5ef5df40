/- Batches come back, and a byte that is another one is told, in plain Lean. No condition.; More on walks of trees in plain Lean. No condition.; What a walk of a tree has, in plain Lean: all children, and depths that rise by one at most. No condition. -/
import Derived.Test.YtfbhdkkmcfnghaaGreatM17
import Derived.Test.YtfbhdkkmcfnghaaGreatM18
import Derived.Test.YtfbhdkkmcfnghaaGreatM04

section
namespace Go.Proofs.YtfbhdkkmcfnghaaGreat

theorem unsl_sealed (p : List UInt8) : unsl (seal_ p) = (p, 0) := by
  have hl := Oc.digs_len 256 4 (Crc.of p)
  have hlen : (seal_ p).length = p.length + 4 := by simp [seal_, hl]
  have e1 : (seal_ p).take p.length = p := by simp [seal_]
  have e2 : (seal_ p).drop p.length = Oc.digs 256 4 (Crc.of p) := by simp [seal_]
  unfold unsl
  rw [if_neg (by omega), hlen, Nat.add_sub_cancel, e1, e2, if_neg (by simp)]
theorem unsl_fwd {l p : List UInt8} (h : unsl l = (p, 0)) : l = seal_ p := by
  unfold unsl at h
  split at h
  · simp at h
  · rename_i h4
    split at h
    · simp at h
    · rename_i hd
      simp only [Prod.mk.injEq] at h
      have hk : l.length = (l.length - 4) + 4 := by omega
      have := (unsl_seal hk).2 (by simpa using hd)
      rw [← h.1, this]
theorem kind_one {t : List UInt8} : kindOf t = 1 ↔ t.take 3 = [80, 66, 1] := by
  unfold kindOf
  split
  · simp_all
  · split <;> simp_all
theorem kind_two {t : List UInt8} : kindOf t = 2 ↔ t.take 3 = [80, 65, 1] := by
  unfold kindOf
  split
  · simp_all
  · split <;> simp_all

theorem numM_back (A B : List UInt8) (n most : Nat) (hn : n ≤ most) (hm : most ≤ 1099511627776) {l : List UInt8} (e : l = A ++ (Vr.put n ++ B)) : numM l (A.length : Nat) most = (n, ((A.length + (Vr.put n).length : Nat) : Int), 0) := by
  subst e
  have := Vr.get_back A B n (by omega)
  unfold numM
  rw [this]
  simp only [ne_eq, not_true_eq_false, if_false]
  rw [if_neg (by omega)]
theorem numM_fwd {l : List UInt8} {k most n : Nat} {y : Int} (h : numM l (k : Nat) most = (n, y, 0)) : ∃ m : Nat, y = ((k + m : Nat) : Int) ∧ k + m ≤ l.length ∧ Vr.put n = (l.drop k).take m ∧ n ≤ most := by
  obtain ⟨hg, hm⟩ := numM_ok h
  obtain ⟨m, h1, h2, h3, _⟩ := fwd_get hg
  exact ⟨m, h1, h2, h3, hm⟩

theorem spansR_back (L : List Sp) : ∀ (A B : List UInt8) (acc : List Sp) {l : List UInt8}, (∀ s ∈ L, check s = 0 ∧ s.fits) → l = A ++ (L.flatMap spanBytes ++ B) → l.length ≤ 9223372036854775807 →
    spansR l L.length acc (A.length : Nat) = (acc ++ L, ((A.length + (L.flatMap spanBytes).length : Nat) : Int), 0) := by
  induction L with
  | nil => intro A B acc l _ _ _; simp [spansR]
  | cons s t ih =>
    intro A B acc l h e hl
    have h0 := h s (by simp)
    have e1 : l = A ++ (spanBytes s ++ (t.flatMap spanBytes ++ B)) := by rw [e]; simp
    have hb := span_back A (t.flatMap spanBytes ++ B) s h0.2 h0.1 e1 hl
    have e2 : l = (A ++ spanBytes s) ++ (t.flatMap spanBytes ++ B) := by rw [e1]; simp
    have := ih (A ++ spanBytes s) B (acc ++ [s]) (fun x hx => h x (by simp [hx])) e2 hl
    rw [List.length_cons, spansR_snoc hb]
    rw [List.length_append] at this
    rw [this]
    simp only [List.append_assoc, List.cons_append, List.nil_append, List.flatMap_cons, List.length_append, Nat.add_assoc]

theorem spansR_fwd {t : List UInt8} (hl : t.length ≤ 9223372036854775807) (m : Nat) : ∀ (acc : List Sp) (k : Nat) {L : List Sp} {z : Int}, k ≤ t.length → spansR t m acc (k : Nat) = (L, z, 0) →
    ∃ (M : List Sp) (j : Nat), L = acc ++ M ∧ M.length = m ∧ z = ((k + j : Nat) : Int) ∧ k + j ≤ t.length ∧ M.flatMap spanBytes = (t.drop k).take j ∧ ∀ s ∈ M, check s = 0 ∧ s.fits := by
  induction m with
  | zero =>
    intro acc k L z hk h
    simp only [spansR, Prod.mk.injEq] at h
    exact ⟨[], 0, by rw [h.1]; simp, rfl, h.2.1.symm, by omega, by simp, by simp⟩
  | succ m ih =>
    intro acc k L z hk h
    rcases hs : readSpan t (k : Nat) with ⟨s, y, e⟩
    by_cases he : e = 0
    · subst he
      rw [spansR_snoc hs] at h
      obtain ⟨j, rfl, hj, hc, hsb, hf⟩ := span_fwdk hl hs
      obtain ⟨M, i, h1, h2, h3, h4, h5, h6⟩ := ih (acc ++ [s]) (k + j) hj h
      refine ⟨s :: M, j + i, by rw [h1]; simp, by simp [h2], by rw [h3]; simp only [Nat.add_assoc], by omega, ?_, ?_⟩
      · rw [List.flatMap_cons, hsb, h5, List.take_add, List.drop_drop]
      · intro x hx
        rcases List.mem_cons.1 hx with rfl | hx
        · exact ⟨hc, hf⟩
        · exact h6 x hx
    · rw [spansR_bad hs he] at h
      simp only [Prod.mk.injEq] at h
      omega

theorem body_kind (x y : Int) (L : List Sp) : kindOf (btBody x y L) = 1 := kind_one.2 (by simp [btBody])

theorem front_back {x y : Int} (h : placeB x y = true) (k : Nat) (h3 : List UInt8) (hh : h3.length = 3) (hk : ∀ r, kindOf (h3 ++ r) = k) (r : List UInt8) :
    front (seal_ (h3 ++ (Vr.put x.toNat ++ (Vr.put y.toNat ++ r)))) k = (h3 ++ (Vr.put x.toNat ++ (Vr.put y.toNat ++ r)), x.toNat, y.toNat, ((3 + (Vr.put x.toNat).length + (Vr.put y.toNat).length : Nat) : Int), 0) := by
  obtain ⟨h1, h2, h4, h5⟩ := placeB_true h
  have ho : openK (seal_ (h3 ++ (Vr.put x.toNat ++ (Vr.put y.toNat ++ r)))) k = (h3 ++ (Vr.put x.toNat ++ (Vr.put y.toNat ++ r)), 0) := by
    unfold openK
    rw [unsl_sealed]
    simp [hk]
  have n1 := numM_back h3 (Vr.put y.toNat ++ r) x.toNat 7 (by omega) (by omega) rfl
  rw [hh] at n1
  have n2 := numM_back (h3 ++ Vr.put x.toNat) r y.toNat 1099511627776 (by omega) (by omega) (l := h3 ++ (Vr.put x.toNat ++ (Vr.put y.toNat ++ r))) (by simp)
  rw [List.length_append, hh] at n2
  exact front_4 ho n1 n2

theorem read_back {x y : Int} {L : List Sp} (h : btCheck x y L = 0) (hf : ∀ s ∈ L, s.fits) : btRead (seal_ (btBody x y L)) = (x.toNat, y.toNat, L, 0) := by
  obtain ⟨hp, h0, h16, hck⟩ := btCheck_good h
  have e : btBody x y L = [80, 66, 1] ++ (Vr.put x.toNat ++ (Vr.put y.toNat ++ (Vr.put L.length ++ L.flatMap spanBytes))) := by simp [btBody]
  have hfr := front_back hp 1 [80, 66, 1] rfl (fun r => kind_one.2 (by simp)) (Vr.put L.length ++ L.flatMap spanBytes)
  rw [← e] at hfr
  have n3 := numM_back ([80, 66, 1] ++ (Vr.put x.toNat ++ Vr.put y.toNat)) (L.flatMap spanBytes) L.length 16 (by omega) (by omega) (l := btBody x y L) (by rw [e]; simp)
  have hlen : ([80, 66, 1] ++ (Vr.put x.toNat ++ Vr.put y.toNat)).length = 3 + (Vr.put x.toNat).length + (Vr.put y.toNat).length := by simp; omega
  rw [hlen] at n3
  have hsl := spans_len hck
  have p1 := (put_len x.toNat).2
  have p2 := (put_len y.toNat).2
  have p3 := (put_len L.length).2
  have hbl : (btBody x y L).length = 3 + (Vr.put x.toNat).length + (Vr.put y.toNat).length + (Vr.put L.length).length + (L.flatMap spanBytes).length := by rw [e]; simp; omega
  have sp := spansR_back L ([80, 66, 1] ++ (Vr.put x.toNat ++ (Vr.put y.toNat ++ Vr.put L.length))) [] [] (l := btBody x y L) (fun s hs => ⟨hck s hs, hf s hs⟩) (by rw [e]; simp) (by omega)
  have hlen2 : ([80, 66, 1] ++ (Vr.put x.toNat ++ (Vr.put y.toNat ++ Vr.put L.length))).length = 3 + (Vr.put x.toNat).length + (Vr.put y.toNat).length + (Vr.put L.length).length := by simp; omega
  rw [hlen2, List.nil_append] at sp
  refine rd_good hfr n3 ?_
  unfold spansAll
  rw [sp]
  simp only [ne_eq, not_true_eq_false, if_false]
  rw [if_neg (by rw [hbl]; simp), if_neg (by omega)]

theorem ack_none {l t : List UInt8} (h : unsl l = (t, 0)) (hk : kindOf t = 1) : btReadAck l = (0, 0, 3) := by
  have ho : openK l 2 = ([], 3) := by unfold openK; rw [h]; simp [hk]
  exact ack_bad (front_1 ho (by omega)) (by omega)
theorem ack_back {x y : Int} (h : placeB x y = true) : btReadAck (btAck x y).1 = (x.toNat, y.toNat, 0) ∧ kindOf (btAck x y).1 = 2 := by
  have e : [80, 65, 1] ++ [x.toNat, y.toNat].flatMap Vr.put = [80, 65, 1] ++ (Vr.put x.toNat ++ (Vr.put y.toNat ++ [])) := by simp
  have hfr := front_back h 2 [80, 65, 1] rfl (fun r => kind_two.2 (by simp)) []
  unfold btAck
  rw [if_pos h]
  simp only
  rw [e]
  refine ⟨ack_good hfr (by simp; omega), kind_two.2 ?_⟩
  simp [seal_]

/-- What was read is written as it was. -/
theorem write_fwd {l : List UInt8} {n1 n2 : Nat} {L : List Sp} (hl : l.length ≤ 9223372036854775807) (h : btRead l = (n1, n2, L, 0)) :
    btWrite n1 n2 L = (l, 0) ∧ (∀ s ∈ L, s.fits) ∧ btReadAck l = (0, 0, 3) := by
  rcases ho : openK l 1 with ⟨t, b⟩
  obtain rfl : b = 0 := by
    by_cases hb : b = 0
    · exact hb
    · rw [rd_bad (front_1 ho hb) hb] at h; simp only [Prod.mk.injEq] at h; omega
  have htl := openK_len ho
  have hu : unsl l = (t, 0) ∧ kindOf t = 1 := by
    rcases hu : unsl l with ⟨u, c⟩
    unfold openK at ho
    rw [hu] at ho
    split at ho <;> simp only [Prod.mk.injEq] at ho
    · rename_i hc; exact absurd ho.2 hc
    · rename_i hc
      split at ho <;> simp only [Prod.mk.injEq] at ho
      · omega
      · rename_i hk
        have hc0 : c = 0 := by simpa using hc
        rw [hc0, ← ho.1]
        exact ⟨rfl, by simpa using hk⟩
  obtain ⟨hu, hk⟩ := hu
  rcases h1 : numM t 3 7 with ⟨m1, y1, b1⟩
  obtain rfl : b1 = 0 := by
    by_cases hb : b1 = 0
    · exact hb
    · rw [rd_bad (front_2 ho h1 hb) hb] at h; simp only [Prod.mk.injEq] at h; omega
  rcases h2 : numM t y1 1099511627776 with ⟨m2, y2, b2⟩
  obtain rfl : b2 = 0 := by
    by_cases hb : b2 = 0
    · exact hb
    · rw [rd_bad (front_3 ho h1 h2 hb) hb] at h; simp only [Prod.mk.injEq] at h; omega
  have hfr := front_4 ho h1 h2
  rcases h3 : numM t y2 16 with ⟨m3, y3, b3⟩
  obtain rfl : b3 = 0 := by
    by_cases hb : b3 = 0
    · exact hb
    · rw [rd_many hfr h3 hb] at h; simp only [Prod.mk.injEq] at h; omega
  rcases h4 : spansAll t y3 m3 with ⟨M, b4⟩
  obtain rfl : b4 = 0 := by
    by_cases hb : b4 = 0
    · exact hb
    · rw [rd_spans hfr h3 h4 hb] at h; simp only [Prod.mk.injEq] at h; omega
  rw [rd_good hfr h3 h4] at h
  simp only [Prod.mk.injEq] at h
  obtain ⟨rfl, rfl, rfl, _⟩ := h
  obtain ⟨j1, rfl, g1, e1, q1⟩ := numM_fwd (k := 3) h1
  obtain ⟨j2, rfl, g2, e2, q2⟩ := numM_fwd h2
  obtain ⟨j3, rfl, g3, e3, q3⟩ := numM_fwd h3
  rcases hs : spansR t m3 [] ((3 + j1 + j2 + j3 : Nat) : Int) with ⟨M', z, b5⟩
  unfold spansAll at h4
  rw [hs] at h4
  have hb50 : b5 = 0 := by
    by_cases hb : b5 = 0
    · exact hb
    · rw [if_pos hb] at h4; simp only [Prod.mk.injEq] at h4; exact absurd h4.2 hb
  subst hb50
  rw [if_neg (by simp)] at h4
  have hzt : z = t.length := by
    by_cases hz : z = t.length
    · exact hz
    · rw [if_pos hz] at h4; simp only [Prod.mk.injEq] at h4; omega
  rw [if_neg (by simpa using hzt)] at h4
  have hm0 : m3 ≠ 0 := by
    intro hm0
    rw [if_pos hm0] at h4; simp only [Prod.mk.injEq] at h4; omega
  rw [if_neg hm0] at h4
  simp only [Prod.mk.injEq] at h4
  obtain ⟨rfl, _⟩ := h4
  obtain ⟨M2, j4, e0, hM, hz2, g4, e4, hall⟩ := spansR_fwd (by omega) m3 [] _ (by omega) hs
  rw [List.nil_append] at e0
  subst e0
  have hj : t.length = 3 + j1 + j2 + j3 + j4 := by omega
  have hbody : btBody (m1 : Int) (m2 : Int) M' = t := by
    have T : ∀ x m, t.take (x + m) = t.take x ++ (t.drop x).take m := fun x m => List.take_add
    have : t = t.take (3 + j1 + j2 + j3 + j4) := by rw [← hj, List.take_length]
    rw [this, T, T, T, T, kind_one.1 hk, ← e1, ← e2, ← e3, ← e4, ← hM]
    simp [btBody]
  have hck : btCheck (m1 : Int) (m2 : Int) M' = 0 := by
    unfold btCheck
    have hp : placeB (m1 : Int) (m2 : Int) = true := by simp [placeB]; omega
    rw [if_neg (by simp [hp]), if_neg (by omega), if_neg (by omega)]
    exact firstBad_zero.2 fun s hs => (hall s hs).1
  refine ⟨?_, fun s hs => (hall s hs).2, ack_none hu hk⟩
  unfold btWrite
  rw [if_pos hck, hbody, ← unsl_fwd hu]

theorem ack_fwd {l : List UInt8} {n1 n2 : Nat} (h : btReadAck l = (n1, n2, 0)) : btAck n1 n2 = (l, 0) := by
  rcases ho : openK l 2 with ⟨t, b⟩
  obtain rfl : b = 0 := by
    by_cases hb : b = 0
    · exact hb
    · rw [ack_bad (front_1 ho hb) hb] at h; simp only [Prod.mk.injEq] at h; omega
  have hu : unsl l = (t, 0) ∧ kindOf t = 2 := by
    rcases hu : unsl l with ⟨u, c⟩
    unfold openK at ho
    rw [hu] at ho
    split at ho <;> simp only [Prod.mk.injEq] at ho
    · rename_i hc; exact absurd ho.2 hc
    · rename_i hc
      split at ho <;> simp only [Prod.mk.injEq] at ho
      · omega
      · rename_i hk
        have hc0 : c = 0 := by simpa using hc
        rw [hc0, ← ho.1]
        exact ⟨rfl, by simpa using hk⟩
  obtain ⟨hu, hk⟩ := hu
  rcases h1 : numM t 3 7 with ⟨m1, y1, b1⟩
  obtain rfl : b1 = 0 := by
    by_cases hb : b1 = 0
    · exact hb
    · rw [ack_bad (front_2 ho h1 hb) hb] at h; simp only [Prod.mk.injEq] at h; omega
  rcases h2 : numM t y1 1099511627776 with ⟨m2, y2, b2⟩
  obtain rfl : b2 = 0 := by
    by_cases hb : b2 = 0
    · exact hb
    · rw [ack_bad (front_3 ho h1 h2 hb) hb] at h; simp only [Prod.mk.injEq] at h; omega
  have hfr := front_4 ho h1 h2
  by_cases hy : y2 = t.length
  rotate_left
  · rw [ack_long hfr hy] at h; simp only [Prod.mk.injEq] at h; omega
  rw [ack_good hfr hy] at h
  simp only [Prod.mk.injEq] at h
  obtain ⟨rfl, rfl, _⟩ := h
  obtain ⟨j1, rfl, g1, e1, q1⟩ := numM_fwd (k := 3) h1
  obtain ⟨j2, rfl, g2, e2, q2⟩ := numM_fwd h2
  have hj : t.length = 3 + j1 + j2 := by omega
  have hbody : [80, 65, 1] ++ [m1, m2].flatMap Vr.put = t := by
    have T : ∀ x m, t.take (x + m) = t.take x ++ (t.drop x).take m := fun x m => List.take_add
    have : t = t.take (3 + j1 + j2) := by rw [← hj, List.take_length]
    rw [this, T, T, kind_two.1 hk, ← e1, ← e2]
    simp
  have hp : placeB (m1 : Int) (m2 : Int) = true := by simp [placeB]; omega
  unfold btAck
  rw [if_pos hp]
  simp only [Int.toNat_natCast]
  rw [hbody, ← unsl_fwd hu]

/-- A byte that is another one is told. -/
theorem told {p : List UInt8} {i : Nat} {c : UInt8} (hi : i < (seal_ p).length) (hc : (seal_ p)[i] ≠ c) : btRead ((seal_ p).set i c) = (0, 0, [], 4) := by
  have hl := Oc.digs_len 256 4 (Crc.of p)
  have hlen : (seal_ p).length = p.length + 4 := by simp [seal_, hl]
  have hu : unsl ((seal_ p).set i c) = ([], 4) := by
    unfold unsl
    rw [List.length_set, if_neg (by omega), hlen, Nat.add_sub_cancel]
    by_cases hip : i < p.length
    · have e1 : ((seal_ p).set i c).take p.length = p.set i c := by
        unfold seal_
        rw [List.set_append_left _ _ hip, List.take_left' (by simp)]
      have e2 : ((seal_ p).set i c).drop p.length = Oc.digs 256 4 (Crc.of p) := by
        unfold seal_
        rw [List.set_append_left _ _ hip, List.drop_left' (by simp)]
      rw [e1, e2, if_pos]
      intro e
      have hpi : (seal_ p)[i] = p[i] := by simp [seal_, hip]
      have e3 := congrArg Oc.num e
      rw [Oc.num_digs 4 _ (by have := Crc.of_lt (p.set i c); omega), Oc.num_digs 4 _ (by have := Crc.of_lt p; omega)] at e3
      have hp : p = p.take i ++ p[i] :: p.drop (i + 1) := by rw [← List.drop_eq_getElem_cons hip, List.take_append_drop]
      have hps : p.set i c = p.take i ++ c :: p.drop (i + 1) := by rw [List.set_eq_take_append_cons_drop, if_pos hip]
      rw [hps] at e3
      have e4 : Crc.of p = Crc.of (p.take i ++ p[i] :: p.drop (i + 1)) := congrArg Crc.of hp
      rw [e4] at e3
      exact Crc.of_apart _ _ _ _ (fun e => hc (by rw [hpi, e])) e3
    · have e1 : ((seal_ p).set i c).take p.length = p := by
        unfold seal_
        rw [List.set_append_right _ _ (by omega), List.take_left' rfl]
      have e2 : ((seal_ p).set i c).drop p.length = (Oc.digs 256 4 (Crc.of p)).set (i - p.length) c := by
        unfold seal_
        rw [List.set_append_right _ _ (by omega), List.drop_left' rfl]
      rw [e1, e2, if_pos]
      intro e
      have h1 : (seal_ p)[i] = (Oc.digs 256 4 (Crc.of p))[i - p.length]'(by omega) := by
        simp only [seal_]
        rw [List.getElem_append_right (by omega)]
      have h2 : (Oc.digs 256 4 (Crc.of p))[i - p.length]'(by omega) = c := by
        have : ((Oc.digs 256 4 (Crc.of p)).set (i - p.length) c)[i - p.length]'(by simp; omega) = c := by simp
        simpa only [← e] using this
      exact hc (by rw [h1, h2])
  have ho : openK ((seal_ p).set i c) 1 = ([], 4) := by unfold openK; rw [hu]; simp
  exact rd_bad (front_1 ho (by omega)) (by omega)

end Go.Proofs.YtfbhdkkmcfnghaaGreat
end

section
namespace Go.Proofs.YtfbhdkkmcfnghaaGreat
set_option linter.unusedVariables false
namespace Tr
theorem run_out {K : Nat → List Nat} {N : Nat} (hK : Fit K N) : ∀ todo out, Out N out → (∀ y ∈ todo.map Prod.fst, y < N) → Out N (run K N todo out) := by
  intro todo out ho ht
  unfold run
  generalize mea N todo out + 1 = f
  induction f generalizing todo out with
  | zero => exact ho
  | succ f ih =>
    match todo, ht with
    | [], _ => exact ho
    | (x, d) :: t, ht =>
      unfold stk
      split
      · exact ih t out ho fun y hy => ht y (by simp at hy ⊢; exact .inr hy)
      · rename_i hn
        refine ih _ _ (ho.push (ht x (by simp)) hn) fun y hy => ?_
        rw [List.map_append, List.mem_append] at hy
        rcases hy with hy | hy
        · obtain ⟨p, hp, rfl⟩ := List.mem_map.1 hy
          obtain ⟨k, hk, rfl⟩ := List.mem_map.1 hp
          exact hK.lt x k hk
        · exact ht y (by simp at hy ⊢; exact .inr hy)
theorem walk_out (L : List Sp) (at_ : Nat) : Out L.length (walk L at_) := by
  unfold walk
  split
  · rename_i h
    exact run_out (fit L) _ _ ⟨by simp, by simp⟩ (by simpa using h)
  · exact ⟨by simp, by simp⟩
theorem walk_len (L : List Sp) (at_ : Nat) : (walk L at_).length ≤ L.length := (walk_out L at_).len
end Tr
end Go.Proofs.YtfbhdkkmcfnghaaGreat
end

section
namespace Go.Proofs.YtfbhdkkmcfnghaaGreat
set_option linter.unusedVariables false
namespace Tr
theorem run_ind {K : Nat → List Nat} {N : Nat} (hK : Fit K N) (I : List (Nat × Nat) → List (Nat × Nat) → Prop)
    (hskip : ∀ x d t out, I ((x, d) :: t) out → x ∈ out.map Prod.fst → I t out)
    (hpush : ∀ x d t out, I ((x, d) :: t) out → x ∉ out.map Prod.fst → I ((K x).map (fun k => (k, d + 1)) ++ t) (out ++ [(x, d)])) :
    ∀ f todo out, Out N out → (∀ y ∈ todo.map Prod.fst, y < N) → mea N todo out < f → I todo out → I [] (run K N todo out)
  | 0, _, _, _, _, h, _ => absurd h (by omega)
  | f + 1, [], out, ho, ht, hf, hI => by rw [run_nil]; exact hI
  | f + 1, (x, d) :: t, out, ho, ht, hf, hI => by
    have hx : x < N := ht x (by simp)
    have htt : ∀ y ∈ t.map Prod.fst, y < N := fun y hy => ht y (by simp at hy ⊢; exact .inr hy)
    by_cases h : x ∈ out.map Prod.fst
    · rw [run_skip hK ho ht h]
      exact run_ind hK I hskip hpush f t out ho htt (by rw [mea_skip] at hf; omega) (hskip x d t out hI h)
    · rw [run_push hK ho ht h]
      have hm := mea_push hK (x := x) (d := d) (t := t) (ho.more hx h)
      refine run_ind hK I hskip hpush f _ _ (ho.push hx h) (fun y hy => ?_) (by omega) (hpush x d t out hI h)
      rw [List.map_append, List.mem_append] at hy
      rcases hy with hy | hy
      · obtain ⟨p, hp, rfl⟩ := List.mem_map.1 hy
        obtain ⟨k, hk, rfl⟩ := List.mem_map.1 hp
        exact hK.lt x k hk
      · exact htt y hy
/-- A walk has all children of what it has. -/
theorem walk_kids (L : List Sp) (at_ : Nat) : ∀ x ∈ (walk L at_).map Prod.fst, ∀ k ∈ kids L x, k ∈ (walk L at_).map Prod.fst := by
  unfold walk
  split
  · rename_i h
    have := run_ind (fit L) (fun todo out => ∀ x ∈ out.map Prod.fst, ∀ k ∈ kids L x, k ∈ out.map Prod.fst ∨ k ∈ todo.map Prod.fst)
      (fun x d t out hI hx y hy k hk => by
        rcases hI y hy k hk with h | h
        · exact .inl h
        · simp only [List.map_cons, List.mem_cons] at h
          rcases h with rfl | h
          · exact .inl hx
          · exact .inr h)
      (fun x d t out hI hx y hy k hk => by
        rw [List.map_append, List.mem_append] at hy
        rw [List.map_append, List.mem_append, List.map_append, List.mem_append]
        rcases hy with hy | hy
        · rcases hI y hy k hk with h | h
          · exact .inl (.inl h)
          · simp only [List.map_cons, List.mem_cons] at h
            rcases h with rfl | h
            · exact .inl (.inr (by simp))
            · exact .inr (.inr h)
        · simp only [List.map_cons, List.map_nil, List.mem_singleton] at hy
          subst hy
          exact .inr (.inl (by simpa using hk)))
      _ [(at_, 0)] [] ⟨by simp, by simp⟩ (by simpa using h) (Nat.lt_succ_self _) (by simp)
    intro x hx k hk
    rcases this x hx k hk with h | h
    · exact h
    · simp at h
  · simp
/-- Depths: the first is 0, no other; each rises by one at most. -/
def Dep (out : List (Nat × Nat)) : Prop := ∀ i (h : i < out.length), (out[i].2 = 0 ↔ i = 0) ∧ ∀ (h0 : 0 < i), out[i].2 ≤ (out[i - 1]'(by omega)).2 + 1
def lastD (out : List (Nat × Nat)) : Nat := (out.getLast?.map Prod.snd).getD 0
theorem Dep.push {out : List (Nat × Nat)} {x d : Nat} (h : Dep out) (hne : out ≠ []) (h0 : 0 < d) (hd : d ≤ lastD out + 1) : Dep (out ++ [(x, d)]) := by
  intro i hi
  have hpos : 0 < out.length := List.length_pos_iff.2 hne
  simp only [List.length_append, List.length_cons, List.length_nil] at hi
  by_cases hlt : i < out.length
  · have hk := h i hlt
    refine ⟨by rw [List.getElem_append_left hlt]; exact hk.1, fun hi0 => ?_⟩
    rw [List.getElem_append_left hlt, List.getElem_append_left (show i - 1 < out.length by omega)]
    exact hk.2 hi0
  · obtain rfl : i = out.length := by omega
    refine ⟨?_, fun hi0 => ?_⟩
    · simp only [List.getElem_append_right (Nat.le_refl _), Nat.sub_self, List.getElem_cons_zero]; omega
    · rw [List.getElem_append_left (show out.length - 1 < out.length by omega)]
      simp only [List.getElem_append_right (Nat.le_refl _), Nat.sub_self, List.getElem_cons_zero]
      have e : lastD out = (out[out.length - 1]'(by omega)).2 := by
        unfold lastD
        rw [List.getLast?_eq_getElem?, List.getElem?_eq_getElem (by omega)]
        rfl
      rw [← e]
      exact hd
theorem lastD_push (out : List (Nat × Nat)) (x d : Nat) : lastD (out ++ [(x, d)]) = d := by unfold lastD; simp
theorem walk_dep (L : List Sp) (at_ : Nat) : Dep (walk L at_) := by
  unfold walk
  split
  · rename_i h
    have := run_ind (fit L) (fun todo out => (out = [] ∧ todo = [(at_, 0)]) ∨ (out ≠ [] ∧ Dep out ∧ todo.Pairwise (fun p q => q.2 ≤ p.2) ∧ (∀ p ∈ todo, 0 < p.2) ∧ ∀ p ∈ todo, p.2 ≤ lastD out + 1))
      (fun x d t out hI hx => by
        rcases hI with ⟨rfl, _⟩ | ⟨h1, h2, h3, h4, h5⟩
        · simp at hx
        · exact .inr ⟨h1, h2, (List.pairwise_cons.1 h3).2, fun p hp => h4 p (List.mem_cons_of_mem _ hp), fun p hp => h5 p (List.mem_cons_of_mem _ hp)⟩)
      (fun x d t out hI hx => by
        refine .inr ⟨by simp, ?_⟩
        rcases hI with ⟨rfl, ht⟩ | ⟨h1, h2, h3, h4, h5⟩
        · simp only [List.cons.injEq, Prod.mk.injEq] at ht
          obtain ⟨⟨rfl, rfl⟩, rfl⟩ := ht
          refine ⟨?_, ?_, ?_, ?_⟩
          · intro i hi
            simp at hi
            subst hi
            simp
          · rw [List.append_nil, List.pairwise_map]
            exact List.pairwise_of_forall fun _ _ => Nat.le_refl _
          · intro p hp
            simp at hp
            obtain ⟨k, _, rfl⟩ := hp
            simp
          · intro p hp
            rw [lastD_push]
            simp at hp
            obtain ⟨k, _, rfl⟩ := hp
            simp
        · have hd0 := h4 (x, d) (by simp)
          have hd5 := h5 (x, d) (by simp)
          have ht := (List.pairwise_cons.1 h3).1
          refine ⟨h2.push h1 hd0 hd5, ?_, ?_, ?_⟩
          · rw [List.pairwise_append]
            refine ⟨by rw [List.pairwise_map]; exact List.pairwise_of_forall fun _ _ => Nat.le_refl _, (List.pairwise_cons.1 h3).2, fun p hp q hq => ?_⟩
            obtain ⟨k, _, rfl⟩ := List.mem_map.1 hp
            have := ht q hq
            simp only at this ⊢
            omega
          · intro p hp
            rcases List.mem_append.1 hp with hp | hp
            · obtain ⟨k, _, rfl⟩ := List.mem_map.1 hp
              simp
            · exact h4 p (List.mem_cons_of_mem _ hp)
          · intro p hp
            rw [lastD_push]
            rcases List.mem_append.1 hp with hp | hp
            · obtain ⟨k, _, rfl⟩ := List.mem_map.1 hp
              simp
            · have := ht p hp
              simp only at this
              omega)
      _ [(at_, 0)] [] ⟨by simp, by simp⟩ (by simpa using h) (Nat.lt_succ_self _) (.inl ⟨rfl, rfl⟩)
    rcases this with ⟨_, h⟩ | ⟨_, h, _⟩
    · simp at h
    · exact h
  · intro i hi
    simp at hi
end Tr
end Go.Proofs.YtfbhdkkmcfnghaaGreat
end
