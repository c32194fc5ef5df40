/- The reference's reading is the code's, and texts come back, in plain Lean. No condition. -/
import Derived.Test.YtfbhdkkmcfnghaaGreatDoorMgSpec
namespace Go.Proofs.YtfbhdkkmcfnghaaGreatDoor
set_option linter.unusedVariables false
namespace Ms
theorem pieces_cut {c : UInt8} : ∀ l : List UInt8, Ts.pieces c l = match cutAt c l with | none => [l] | some (a, r) => a :: Ts.pieces c r
  | [] => rfl
  | x :: t => by
    have ih := pieces_cut (c := c) t
    conv => lhs; unfold Ts.pieces
    unfold cutAt
    by_cases hx : x = c
    · simp [hx]
    · simp only [hx, if_false]
      cases hc : cutAt c t with
      | none => rw [hc] at ih; simp only at ih; rw [ih]; rfl
      | some p =>
        obtain ⟨a, r⟩ := p
        rw [hc] at ih
        simp only at ih
        rw [ih]
        rfl
theorem pieces_three {f m h p : List UInt8} (hf : Ts.pieces 32 f = [m, h, p]) : f = m ++ 32 :: (h ++ 32 :: p) ∧ (32 : UInt8) ∉ m ∧ (32 : UInt8) ∉ h := by
  rw [pieces_cut] at hf
  cases hc : cutAt 32 f with
  | none => rw [hc] at hf; simp at hf
  | some q =>
    obtain ⟨a, r⟩ := q
    rw [hc] at hf
    simp only [List.cons.injEq] at hf
    obtain ⟨rfl, hf⟩ := hf
    obtain ⟨h1, h2⟩ := cutAt_back hc
    rw [pieces_cut] at hf
    cases hc2 : cutAt 32 r with
    | none => rw [hc2] at hf; simp at hf
    | some q2 =>
      obtain ⟨a2, r2⟩ := q2
      rw [hc2] at hf
      simp only [List.cons.injEq] at hf
      obtain ⟨rfl, hf⟩ := hf
      obtain ⟨h3, h4⟩ := cutAt_back hc2
      rw [pieces_cut] at hf
      cases hc3 : cutAt 32 r2 with
      | none =>
        rw [hc3] at hf
        simp at hf
        subst hf
        exact ⟨by rw [h1, h3], h2, h4⟩
      | some q3 =>
        obtain ⟨a3, r3⟩ := q3
        rw [hc3] at hf
        simp only [List.cons.injEq] at hf
        rw [pieces_cut] at hf
        have := hf.2
        split at this <;> cases this
theorem each_free {lo hi : Nat} {l : List UInt8} (h : eachB lo hi l = true) (c : UInt8) (hc : c.toNat < lo ∨ hi < c.toNat) : c ∉ l := by
  intro hm
  unfold eachB at h
  have := List.all_eq_true.1 h c hm
  simp at this
  omega
theorem name_out {l : List UInt8} (h : nameOk l = true) (c : UInt8) (hc : nameByte c = false) : c ∉ l := by
  intro hm
  unfold nameOk at h
  simp only [Bool.and_eq_true, List.all_eq_true] at h
  rw [h.2 c hm] at hc
  cases hc
theorem check_parts {q : Rq} (h : check q = 0) : methodOk q.m = true ∧ nameOk q.h = true ∧ pathOk q.p = true ∧ headsErr q.hs = 0 ∧ q.b.length ≤ 200 := by
  unfold check tailErr at h
  cases h1 : methodOk q.m
  · simp [h1] at h
  cases h2 : nameOk q.h
  · simp [h1, h2] at h
  cases h3 : pathOk q.p
  · simp [h1, h2, h3] at h
  simp only [h1, h2, h3, Bool.not_true, Bool.false_eq_true, if_false] at h
  split at h
  · rename_i h4; exact absurd h h4
  · split at h
    · cases h
    · exact ⟨rfl, rfl, rfl, by omega, by omega⟩
theorem first_free {q : Rq} (h : check q = 0) (c : UInt8) (hc : c.toNat = 32 ∨ c.toNat = 10) : c ∉ q.m ∧ c ∉ q.h ∧ c ∉ q.p := by
  obtain ⟨h1, h2, h3, _⟩ := check_parts h
  unfold methodOk at h1
  unfold pathOk at h3
  simp only [Bool.and_eq_true] at h1 h3
  refine ⟨each_free h1.2 c (by omega), name_out h2 c ?_, each_free h3.2 c (by omega)⟩
  unfold nameByte
  rcases hc with e | e <;> rw [e] <;> rfl
theorem pieces_first {q : Rq} (h : check q = 0) : Ts.pieces 32 (first q) = [q.m, q.h, q.p] := by
  obtain ⟨f1, f2, f3⟩ := first_free h 32 (.inl rfl)
  unfold first
  rw [Ts.pieces_app f1, Ts.pieces_app f2, Ts.pieces_no f3]
theorem heads_free : ∀ {L : List Hd}, hdErr L = 0 → ∀ h ∈ L, (58 : UInt8) ∉ h.1 ∧ (10 : UInt8) ∉ h.1 ∧ (10 : UInt8) ∉ h.2
  | [], _, h, hm => by simp at hm
  | x :: t, he, h, hm => by
    unfold hdErr at he
    split at he
    · cases he
    · split at he
      · cases he
      · rename_i h1 h2
        rcases List.mem_cons.1 hm with rfl | hm
        · have a : nameOk h.1 = true := by simpa using h1
          have b : valueOk h.2 = true := by simpa using h2
          unfold valueOk at b
          simp only [Bool.and_eq_true] at b
          exact ⟨name_out a 58 rfl, name_out a 10 rfl, each_free b.1.2 10 (by simp)⟩
        · exact heads_free he h hm
theorem headsErr_zero {L : List Hd} (h : headsErr L = 0) : L.length < 17 ∧ hdErr L = 0 := by
  unfold headsErr at h
  split at h
  · cases h
  · exact ⟨by omega, h⟩

/-- What the reference reads. -/
def refRead (s : List UInt8) : Option Rq :=
  match heads 17 ((cutAt 10 s).getD ([], [])).2 [] with
  | none => none
  | some (L, b) =>
    if check ⟨((cutAt 32 ((cutAt 10 s).getD ([], [])).1).getD ([], [])).1, ((cutAt 32 ((cutAt 32 ((cutAt 10 s).getD ([], [])).1).getD ([], [])).2).getD ([], [])).1, ((cutAt 32 ((cutAt 32 ((cutAt 10 s).getD ([], [])).1).getD ([], [])).2).getD ([], [])).2, L, b⟩ = 0
      ∧ text ⟨((cutAt 32 ((cutAt 10 s).getD ([], [])).1).getD ([], [])).1, ((cutAt 32 ((cutAt 32 ((cutAt 10 s).getD ([], [])).1).getD ([], [])).2).getD ([], [])).1, ((cutAt 32 ((cutAt 32 ((cutAt 10 s).getD ([], [])).1).getD ([], [])).2).getD ([], [])).2, L, b⟩ = s
    then some ⟨((cutAt 32 ((cutAt 10 s).getD ([], [])).1).getD ([], [])).1, ((cutAt 32 ((cutAt 32 ((cutAt 10 s).getD ([], [])).1).getD ([], [])).2).getD ([], [])).1, ((cutAt 32 ((cutAt 32 ((cutAt 10 s).getD ([], [])).1).getD ([], [])).2).getD ([], [])).2, L, b⟩ else none
theorem refRead_eq (s : List UInt8) : refRead s = read s := by
  unfold refRead read
  cases hc : cutAt 10 s with
  | none => rfl
  | some fr =>
    obtain ⟨f, r⟩ := fr
    simp only [Option.getD_some]
    cases hh : heads 17 r [] with
    | none => rfl
    | some Lb =>
      obtain ⟨L, b⟩ := Lb
      simp only
      have hs := (cutAt_back hc).1
      obtain ⟨M, hM, hr, _⟩ := heads_back hh
      simp only [List.nil_append] at hM
      subst hM
      have cancel : ∀ q : Rq, q.hs = L → q.b = b → text q = s → first q = f := by
        intro q h1 h2 h3
        unfold text whole at h3
        rw [h1, h2, hs, hr] at h3
        exact List.append_cancel_right h3
      have same : ∀ q : Rq, q.hs = L → q.b = b → first q = f → text q = s := by
        intro q h1 h2 h3
        unfold text whole
        rw [h1, h2, h3, hs, hr]
      by_cases hp : ∃ m h p, Ts.pieces 32 f = [m, h, p]
      · obtain ⟨m, h, p, hp⟩ := hp
        obtain ⟨hf, f1, f2⟩ := pieces_three hp
        rw [hp]
        have e1 : cutAt 32 f = some (m, h ++ 32 :: p) := by rw [hf]; exact cutAt_app f1
        have e2 : cutAt 32 (h ++ 32 :: p) = some (h, p) := cutAt_app f2
        simp only [e1, Option.getD_some, e2]
        by_cases hk : check ⟨m, h, p, L, b⟩ = 0
        · rw [if_pos hk, if_pos ⟨hk, same _ rfl rfl hf.symm⟩]
        · rw [if_neg hk, if_neg (fun h => hk h.1)]
      · rw [if_neg]
        · split
          · rename_i m h p hq
            exact absurd ⟨m, h, p, hq⟩ hp
          · rfl
        · rintro ⟨hk, ht⟩
          have := cancel _ rfl rfl ht
          have h3 := pieces_first hk
          rw [this] at h3
          exact hp ⟨_, _, _, h3⟩
theorem read_some {s : List UInt8} {q : Rq} (h : read s = some q) : check q = 0 ∧ text q = s := by
  rw [← refRead_eq] at h
  unfold refRead at h
  split at h
  · cases h
  · split at h
    · rename_i h1
      cases h
      exact h1
    · cases h
theorem read_text {q : Rq} (h : check q = 0) : read (text q) = some q := by
  obtain ⟨_, _, _, hh, _⟩ := check_parts h
  obtain ⟨hl, he⟩ := headsErr_zero hh
  obtain ⟨f1, f2, f3⟩ := first_free h 10 (.inr rfl)
  have hf : (10 : UInt8) ∉ first q := by simp [first, f1, f2, f3]
  unfold read text whole
  rw [cutAt_app hf]
  simp only
  rw [heads_rest hl (heads_free he)]
  simp only [List.nil_append]
  rw [pieces_first h]
  simp only
  rw [if_pos h]

theorem itoa_num {f : List UInt8} (hl : f.length = 3) (he : eachB 48 57 f = true) (h0 : 100 ≤ Pg.num f) (h1 : Pg.num f ≤ 599) : Lib.itoa (Pg.num f) = f := by
  match f, hl with
  | [x, y, z], _ =>
    have hn : Pg.num [x, y, z] = 100 * (x.toNat - 48 : Int) + 10 * (y.toNat - 48 : Int) + (z.toNat - 48 : Int) := by
      unfold Pg.num
      simp only
      rw [he, if_pos rfl]
    unfold eachB at he
    simp only [List.all_cons, List.all_nil, Bool.and_true, Bool.and_eq_true, decide_eq_true_eq] at he
    rw [Pg.itoa3 h0 h1]
    have a : (Pg.num [x, y, z]).natAbs / 100 = x.toNat - 48 := by rw [hn]; omega
    have b : (Pg.num [x, y, z]).natAbs / 10 % 10 = y.toNat - 48 := by rw [hn]; omega
    have c : (Pg.num [x, y, z]).natAbs % 10 = z.toNat - 48 := by rw [hn]; omega
    rw [a, b, c, show 48 + (x.toNat - 48) = x.toNat by omega, show 48 + (y.toNat - 48) = y.toNat by omega, show 48 + (z.toNat - 48) = z.toNat by omega]
    simp
theorem digits3 {n : Int} (h0 : 100 ≤ n) (h1 : n ≤ 599) : (Lib.itoa n).length = 3 ∧ eachB 48 57 (Lib.itoa n) = true ∧ (10 : UInt8) ∉ Lib.itoa n := by
  have he : eachB 48 57 (Lib.itoa n) = true := by
    rw [Pg.itoa3 h0 h1]
    have a := Pg.ofNat_dig (show n.natAbs / 100 < 10 by omega)
    have b := Pg.ofNat_dig (show n.natAbs / 10 % 10 < 10 by omega)
    have c := Pg.ofNat_dig (show n.natAbs % 10 < 10 by omega)
    unfold eachB
    simp only [List.all_cons, List.all_nil, a, b, c]
    simp
    omega
  exact ⟨by rw [Pg.itoa3 h0 h1]; rfl, he, each_free he 10 (by simp)⟩
theorem checkBack_parts {p : Rs} (h : checkBack p = 0) : 100 ≤ p.st ∧ p.st ≤ 599 ∧ headsErr p.hs = 0 ∧ p.b.length ≤ 200 := by
  unfold checkBack tailErr at h
  split at h
  · cases h
  · split at h
    · rename_i h4; exact absurd h h4
    · split at h
      · cases h
      · exact ⟨by omega, by omega, by omega, by omega⟩
def refReadBack (s : List UInt8) : Option Rs :=
  match heads 17 ((cutAt 10 s).getD ([], [])).2 [] with
  | none => none
  | some (L, b) => if checkBack ⟨Pg.refNum ((cutAt 10 s).getD ([], [])).1, L, b⟩ = 0 ∧ textBack ⟨Pg.refNum ((cutAt 10 s).getD ([], [])).1, L, b⟩ = s then some ⟨Pg.refNum ((cutAt 10 s).getD ([], [])).1, L, b⟩ else none
theorem refReadBack_eq (s : List UInt8) : refReadBack s = readBack s := by
  unfold refReadBack readBack
  cases hc : cutAt 10 s with
  | none => rfl
  | some fr =>
    obtain ⟨f, r⟩ := fr
    simp only [Option.getD_some]
    cases hh : heads 17 r [] with
    | none => rfl
    | some Lb =>
      obtain ⟨L, b⟩ := Lb
      simp only
      have hs := (cutAt_back hc).1
      obtain ⟨M, hM, hr, _⟩ := heads_back hh
      simp only [List.nil_append] at hM
      subst hM
      by_cases hA : checkBack ⟨Pg.refNum f, L, b⟩ = 0 ∧ textBack ⟨Pg.refNum f, L, b⟩ = s
      · rw [if_pos hA]
        obtain ⟨h1, h2⟩ := hA
        obtain ⟨h3, h4, _⟩ := checkBack_parts h1
        unfold textBack whole at h2
        rw [hs, hr] at h2
        have hf : Lib.itoa (Pg.refNum f) = f := List.append_cancel_right h2
        have hd := digits3 h3 h4
        rw [hf] at hd
        have hn : Pg.num f = Pg.refNum f := by
          have := Pg.num_itoa h3 h4
          rwa [hf] at this
        rw [hn, if_pos ⟨hd.1, hd.2.1, h1⟩]
      · rw [if_neg hA, if_neg]
        rintro ⟨h1, h2, h3⟩
        obtain ⟨h4, h5, _⟩ := checkBack_parts h3
        have hi := itoa_num h1 h2 h4 h5
        have hn : Pg.refNum f = Pg.num f := by
          have := Pg.refNum_itoa h4 h5
          rwa [hi] at this
        rw [hn] at hA
        refine hA ⟨h3, ?_⟩
        unfold textBack whole
        simp only
        rw [hi, hs, hr]
theorem readBack_some {s : List UInt8} {p : Rs} (h : readBack s = some p) : checkBack p = 0 ∧ textBack p = s := by
  rw [← refReadBack_eq] at h
  unfold refReadBack at h
  split at h
  · cases h
  · split at h
    · rename_i h1
      cases h
      exact h1
    · cases h
theorem readBack_text {p : Rs} (h : checkBack p = 0) : readBack (textBack p) = some p := by
  obtain ⟨h0, h1, hh, _⟩ := checkBack_parts h
  obtain ⟨hl, he⟩ := headsErr_zero hh
  obtain ⟨d1, d2, d3⟩ := digits3 h0 h1
  unfold readBack textBack whole
  rw [cutAt_app d3]
  simp only
  rw [heads_rest hl (heads_free he)]
  simp only [List.nil_append]
  rw [Pg.num_itoa h0 h1, if_pos ⟨d1, d2, h⟩]
end Ms
end Go.Proofs.YtfbhdkkmcfnghaaGreatDoor
