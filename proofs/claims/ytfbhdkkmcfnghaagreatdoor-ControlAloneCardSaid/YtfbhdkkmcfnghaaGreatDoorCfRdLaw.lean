/- A config's text is read as it was, in plain Lean. No condition. -/
import Derived.Test.YtfbhdkkmcfnghaaGreatDoorCfRdSpec
namespace Go.Proofs.YtfbhdkkmcfnghaaGreatDoor
set_option linter.unusedVariables false
set_option linter.unusedSimpArgs false
namespace Cf
theorem numGo_app : ∀ (a b : List UInt8) (n m : Nat), numGo a n = some m → numGo (a ++ b) n = numGo b m
  | [], b, n, m, h => by simp only [numGo, Option.some.injEq] at h; subst h; rfl
  | c :: t, b, n, m, h => by
    unfold numGo at h
    rw [List.cons_append]
    conv => lhs; unfold numGo
    split at h
    · rename_i hc
      rw [if_pos hc]
      exact numGo_app t b _ m h
    · cases h
theorem numGo_dec (u : Nat) : numGo (Lib.decDigits u) 0 = some u := by
  induction u using Nat.strongRecOn with
  | _ u ih =>
    rw [Lib.decDigits]
    split
    · rename_i h
      have := Pg.ofNat_dig h
      simp only [numGo]
      rw [this, if_pos (by omega)]
      congr 1; omega
    · rename_i h
      have hd := Pg.ofNat_dig (show u % 10 < 10 by omega)
      rw [numGo_app _ _ _ _ (ih (u / 10) (by omega))]
      simp only [numGo]
      rw [hd, if_pos (by omega)]
      congr 1; omega
theorem dec_ne (u : Nat) : Lib.decDigits u ≠ [] := by
  rw [Lib.decDigits]; split <;> simp
theorem dec_len : ∀ (k u : Nat), u < 10 ^ (k + 1) → (Lib.decDigits u).length ≤ k + 1
  | 0, u, h => by rw [Lib.decDigits, dif_pos (by simpa using h)]; simp
  | k + 1, u, h => by
    rw [Lib.decDigits]
    split
    · simp
    · have := dec_len k (u / 10) (by rw [Nat.pow_succ] at h; omega)
      rw [List.length_append]
      simp only [List.length_cons, List.length_nil]
      omega
theorem dec_head (u : Nat) (h : 1 ≤ u) : ∃ b, (Lib.decDigits u).head? = some b ∧ b ≠ 48 := by
  induction u using Nat.strongRecOn with
  | _ u ih =>
    rw [Lib.decDigits]
    split
    · rename_i h2
      have hd := Pg.ofNat_dig h2
      refine ⟨_, rfl, fun e => ?_⟩
      rw [e] at hd
      simp at hd
      omega
    · rename_i h2
      obtain ⟨b, hb, hn⟩ := ih (u / 10) (by omega) (by omega)
      refine ⟨b, ?_, hn⟩
      rcases hd : Lib.decDigits (u / 10) with _ | ⟨c, t⟩
      · exact absurd hd (dec_ne _)
      · rw [hd] at hb
        exact hb
theorem num_itoa {n : Int} (h : 0 ≤ n ∧ n ≤ 999999) : num (Lib.itoa n) = some n.toNat := by
  unfold Lib.itoa
  rw [if_neg (by omega)]
  generalize hu : n.toNat = u
  have h6 : u < 10 ^ (5 + 1) := by
    have : u ≤ 999999 := by omega
    have e : (10 : Nat) ^ (5 + 1) = 1000000 := by decide
    omega
  unfold num
  rw [if_neg, numGo_dec]
  rintro (h1 | h1 | ⟨h1, h2⟩)
  · exact dec_ne u h1
  · have := dec_len 5 u h6; omega
  · by_cases h0 : u = 0
    · subst h0
      rw [Lib.decDigits, dif_pos (by omega)] at h1
      simp at h1
    · obtain ⟨b, hb, hn⟩ := dec_head u (by omega)
      rw [hb] at h2
      exact hn (by simpa using h2)
/-- All bytes are more than a blank. -/
def Fr (l : List UInt8) : Prop := ∀ b ∈ l, b ≠ 32 ∧ b ≠ 10
/-- No line ends within. -/
def Nl (l : List UInt8) : Prop := (10 : UInt8) ∉ l
theorem Fr.nl {l : List UInt8} (h : Fr l) : Nl l := fun hm => (h 10 hm).2 rfl
theorem Fr.blank {l : List UInt8} (h : Fr l) : (32 : UInt8) ∉ l := fun hm => (h 32 hm).1 rfl
theorem fr_of {l : List UInt8} {lo hi : Nat} (hlo : 32 < lo) (h : Ms.eachB lo hi l = true) : Fr l := by
  intro b hb
  have h1 := List.all_eq_true.1 h b hb
  simp only [Bool.and_eq_true, decide_eq_true_eq] at h1
  refine ⟨?_, ?_⟩
  · rintro rfl; simp at h1; omega
  · rintro rfl; simp at h1; omega
theorem nl_of {l : List UInt8} {hi : Nat} (h : Ms.eachB 32 hi l = true) : Nl l := by
  intro hb
  have h1 := List.all_eq_true.1 h 10 hb
  simp at h1
theorem fr_name {l : List UInt8} (h : nameOk l = true) : Fr l := by
  intro b hb
  refine ⟨Pg.name_free h b hb, ?_⟩
  rintro rfl
  unfold nameOk at h
  simp only [Bool.and_eq_true, List.all_eq_true] at h
  have := h.2 10 hb
  simp [nameByte] at this
theorem fr_dec (u : Nat) : Fr (Lib.decDigits u) := by
  induction u using Nat.strongRecOn with
  | _ u ih =>
    have key : ∀ d, d < 10 → UInt8.ofNat (48 + d) ≠ 32 ∧ UInt8.ofNat (48 + d) ≠ 10 := by
      intro d hd
      have := Pg.ofNat_dig hd
      refine ⟨fun e => ?_, fun e => ?_⟩
      · rw [e] at this; simp at this; omega
      · rw [e] at this; simp at this; omega
    rw [Lib.decDigits]
    split
    · rename_i h
      intro b hb
      rw [List.mem_singleton.1 hb]
      exact key u h
    · intro b hb
      rcases List.mem_append.1 hb with hb | hb
      · exact ih (u / 10) (by omega) b hb
      · rw [List.mem_singleton.1 hb]
        exact key _ (by omega)
theorem fr_itoa {n : Int} (h : 0 ≤ n ∧ n ≤ 999999) : Fr (Lib.itoa n) := by
  unfold Lib.itoa
  rw [if_neg (by omega)]
  exact fr_dec _
theorem cut2 {a b : List UInt8} (h : Fr a) : Pg.cut (a ++ 32 :: b) = (a, b) := Pg.cut_app fun x hx => (h x hx).1
theorem fr_lit {a : List UInt8} (h : a.all (fun b => b != 32 && b != 10) = true) : Fr a := by
  intro b hb
  have := List.all_eq_true.1 h b hb
  simpa using this
theorem nl_app {a b : List UInt8} (ha : Nl a) (hb : Nl b) : Nl (a ++ 32 :: b) := by
  intro h
  rcases List.mem_append.1 h with h | h
  · exact ha h
  · rcases List.mem_cons.1 h with h | h
    · cases h
    · exact hb h
theorem join2 (a b : List UInt8) : Lib.join [a, b] [32] = a ++ 32 :: b := by simp [Lib.join]
theorem join3 (a b c : List UInt8) : Lib.join [a, b, c] [32] = a ++ 32 :: (b ++ 32 :: c) := by simp [Lib.join]
theorem count_no {a : List UInt8} (h : (32 : UInt8) ∉ a) : a.count 32 = 0 := List.count_eq_zero.2 h
theorem single_two {a b : List UInt8} (ha : Fr a) (hb : (32 : UInt8) ∉ b) : single (a ++ 32 :: b) = true := by
  unfold single
  rw [cut2 ha]
  simp [List.count_append, count_no ha.blank, count_no hb, hb]
theorem two_two {a b : List UInt8} {n : Nat} (ha : Fr a) (hb : Fr b) (hn : num a = some n) : two (a ++ 32 :: b) = some (n, b) := by
  unfold two
  rw [cut2 ha, if_pos ⟨by simp, hb.blank⟩, hn]
theorem pair_two {n m : Int} (hn : 0 ≤ n ∧ n ≤ 999999) (hm : 0 ≤ m ∧ m ≤ 999999) : pair (Lib.itoa n ++ 32 :: Lib.itoa m) = some (n.toNat, m.toNat) := by
  unfold pair
  rw [two_two (fr_itoa hn) (fr_itoa hm) (num_itoa hn)]
  simp only
  rw [num_itoa hm]
/-- A predicate's line. -/
def pLine (p : Pd) : List UInt8 := Lib.join p.words [32]
def aLine (r : Ru) : List UInt8 := wAbort ++ 32 :: (Lib.itoa r.ap ++ 32 :: Lib.itoa r.st)
def dLine (r : Ru) : List UInt8 := wDelay ++ 32 :: (Lib.itoa r.dp ++ 32 :: Lib.itoa r.dt)
def mLine (r : Ru) : List UInt8 := wMirror ++ 32 :: (Lib.itoa r.mp ++ 32 :: r.mi)
def sLine (r : Ru) : List UInt8 := wSample ++ 32 :: Lib.itoa r.sm
def toLine (r : Ru) : List UInt8 := wTo ++ 32 :: r.tg
def rLine (r : Ru) : List UInt8 := wRule ++ 32 :: Lib.itoa r.rank
def fLine (f : List UInt8) : List UInt8 := wFormat ++ 32 :: f
def aL (r : Ru) : List (List UInt8) := if r.ap ≠ 0 ∨ r.st ≠ 0 then [aLine r] else []
def dL (r : Ru) : List (List UInt8) := if r.dp ≠ 0 ∨ r.dt ≠ 0 then [dLine r] else []
def mL (r : Ru) : List (List UInt8) := if r.mi ≠ [] then [mLine r] else []
def sL (r : Ru) : List (List UInt8) := if r.sm ≠ 0 then [sLine r] else []
def rLines (r : Ru) : List (List UInt8) := rLine r :: (r.ps.map pLine ++ (toLine r :: (aL r ++ (dL r ++ (mL r ++ sL r)))))
def lines (c : Cf) : List (List UInt8) := (if c.f ≠ [] then [fLine c.f] else []) ++ (c.rs.flatMap rLines ++ [wEnd])
def nls (X : List (List UInt8)) : List UInt8 := X.flatMap (· ++ [10])
theorem nls_cons (x : List UInt8) (X : List (List UInt8)) : nls (x :: X) = x ++ 10 :: nls X := by simp [nls]
theorem nls_app (X Y : List (List UInt8)) : nls (X ++ Y) = nls X ++ nls Y := by simp [nls]
theorem ruleText_lines (r : Ru) : ruleText r = nls (rLines r) := by
  unfold ruleText rLines
  rw [nls_cons, nls_app, nls_cons, nls_app, nls_app, nls_app]
  have e1 : lnRank r = rLine r ++ [10] := by unfold lnRank rLine ln wRule; simp only [List.map_cons, List.map_nil]; rw [join2]
  have e2 : lnPs r.ps = nls (r.ps.map pLine) := by
    unfold lnPs nls pLine ln
    rw [List.flatMap_map]
  have e3 : lnTo r = toLine r ++ [10] := by unfold lnTo toLine ln wTo; rw [join2]
  have e4 : lnAb r = nls (aL r) := by
    unfold lnAb aL
    split
    · unfold nls aLine ln wAbort; simp only [List.map_cons, List.map_nil]; rw [join3]; simp
    · rfl
  have e5 : lnDe r = nls (dL r) := by
    unfold lnDe dL
    split
    · unfold nls dLine ln wDelay; simp only [List.map_cons, List.map_nil]; rw [join3]; simp
    · rfl
  have e6 : lnMi r = nls (mL r) := by
    unfold lnMi mL
    split
    · unfold nls mLine ln wMirror; rw [join3]; simp
    · rfl
  have e7 : lnSa r = nls (sL r) := by
    unfold lnSa sL
    split
    · unfold nls sLine ln wSample; simp only [List.map_cons, List.map_nil]; rw [join2]; simp
    · rfl
  rw [e1, e2, e3, e4, e5, e6, e7]
  simp
theorem text_lines (c : Cf) : text c = nls (lines c) := by
  unfold text lines
  rw [nls_app, nls_app]
  have e1 : (if c.f ≠ [] then ln [[102, 111, 114, 109, 97, 116], c.f] else []) = nls (if c.f ≠ [] then [fLine c.f] else []) := by
    split
    · unfold nls fLine ln wFormat; rw [join2]; simp
    · rfl
  have e2 : c.rs.flatMap ruleText = nls (c.rs.flatMap rLines) := by
    unfold nls
    rw [List.flatMap_assoc]
    congr 1
    funext r
    exact ruleText_lines r
  rw [e1, e2]
  simp [nls, ln, Lib.join, wEnd]
theorem pieces_nls : ∀ (X : List (List UInt8)), (∀ x ∈ X, Nl x) → Ts.pieces 10 (nls X) = X ++ [[]]
  | [], _ => rfl
  | x :: t, h => by
    rw [nls_cons, Ts.pieces_app (h x (by simp)), pieces_nls t (fun y hy => h y (by simp [hy]))]
    rfl
theorem word_fr (k : Int) : Fr (Pd.word k) := by
  unfold Pd.word
  repeat' split
  all_goals exact fr_lit (by decide)
theorem word_inj {j k : Int} (hj : 1 ≤ j ∧ j ≤ 6) (hk : 1 ≤ k ∧ k ≤ 6) (h : Pd.word j = Pd.word k) : j = k := by
  obtain rfl | rfl | rfl | rfl | rfl | rfl : j = 1 ∨ j = 2 ∨ j = 3 ∨ j = 4 ∨ j = 5 ∨ j = 6 := by omega
  all_goals
    obtain rfl | rfl | rfl | rfl | rfl | rfl : k = 1 ∨ k = 2 ∨ k = 3 ∨ k = 4 ∨ k = 5 ∨ k = 6 := by omega
    all_goals first
      | rfl
      | exact absurd h (by decide)
/-- What a predicate that may be holds. -/
theorem pd_fr {p : Pd} (h : p.err = 0) : (p.k = 5 ∧ Fr p.n ∧ Nl p.v) ∨ (p.k = 6 ∧ Fr p.n ∧ p.v = []) ∨ (1 ≤ p.k ∧ p.k ≤ 4 ∧ p.n = [] ∧ Fr p.v) := by
  obtain ⟨k, n, v⟩ := p
  unfold Pd.err at h
  simp only at h ⊢
  split at h
  · cases h
  rename_i hk
  have hk' : 1 ≤ k ∧ k ≤ 6 := by omega
  split at h
  · cases h
  rename_i h1
  split at h
  · cases h
  rename_i h2
  split at h
  · cases h
  rename_i h3
  have hname : Pd.named k = true → Fr n := fun hn => by
    refine fr_name ?_
    cases hh : nameOk n with
    | true => rfl
    | false => exact absurd ⟨hn, hh⟩ h3
  have hnone : Pd.named k = false → n = [] := fun hn => by
    rcases n with _ | ⟨c, t⟩
    · rfl
    · exact absurd ⟨by simpa using hn, by simp⟩ h1
  by_cases h5 : k = 5
  · subst h5
    left
    refine ⟨rfl, hname rfl, ?_⟩
    have hv : Ms.valueOk v = true := by
      cases hh : Ms.valueOk v with
      | true => rfl
      | false => simp [Pd.chk, hh] at h
    simp only [Ms.valueOk, Bool.and_eq_true] at hv
    exact nl_of hv.1.2
  by_cases h6 : k = 6
  · subst h6
    right; left
    refine ⟨rfl, hname rfl, ?_⟩
    rcases v with _ | ⟨c, t⟩
    · rfl
    · exact absurd ⟨by simp [Pd.valued], by simp⟩ h2
  · right; right
    refine ⟨hk'.1, by omega, hnone (by simp [Pd.named, h5, h6]), ?_⟩
    obtain rfl | rfl | h34 : k = 1 ∨ k = 2 ∨ (k = 3 ∨ k = 4) := by omega
    · have hv : Ms.methodOk v = true := by
        cases hh : Ms.methodOk v with
        | true => rfl
        | false => simp [Pd.chk, hh] at h
      simp only [Ms.methodOk, Bool.and_eq_true] at hv
      exact fr_of (by omega) hv.2
    · have hv : nameOk v = true := by
        cases hh : nameOk v with
        | true => rfl
        | false => simp [Pd.chk, hh] at h
      exact fr_name hv
    · have hv : Ms.pathOk v = true := by
        cases hh : Ms.pathOk v with
        | true => rfl
        | false => rcases h34 with rfl | rfl <;> simp [Pd.chk, hh] at h
      simp only [Ms.pathOk, Bool.and_eq_true] at hv
      exact fr_of (by omega) hv.2
theorem pLine_5 (n v : List UInt8) : pLine ⟨5, n, v⟩ = Pd.word 5 ++ 32 :: (n ++ 32 :: v) := by unfold pLine Pd.words; simp only [if_neg (show ¬ (5 : Int) = 6 by omega), if_pos]; rw [join3]
theorem pLine_6 (n v : List UInt8) : pLine ⟨6, n, v⟩ = Pd.word 6 ++ 32 :: n := by unfold pLine Pd.words; simp only [if_pos]; rw [join2]
theorem pLine_k {k : Int} (h5 : k ≠ 5) (h6 : k ≠ 6) (n v : List UInt8) : pLine ⟨k, n, v⟩ = Pd.word k ++ 32 :: v := by unfold pLine Pd.words; simp only [if_neg h5, if_neg h6]; rw [join2]
theorem word_to (k : Int) : Pd.word k ≠ wTo := by
  unfold Pd.word wTo
  repeat' split
  all_goals decide
theorem pLine_cut {p : Pd} (h : p.err = 0) : (Pg.cut (pLine p)).1 = Pd.word p.k := by
  obtain ⟨k, n, v⟩ := p
  by_cases h5 : k = 5
  · subst h5; rw [pLine_5, cut2 (word_fr 5)]
  by_cases h6 : k = 6
  · subst h6; rw [pLine_6, cut2 (word_fr 6)]
  rw [pLine_k h5 h6, cut2 (word_fr k)]
theorem predL_back {p : Pd} (h : p.err = 0) : predL (pLine p) = some p := by
  have hf := pd_fr h
  obtain ⟨k, n, v⟩ := p
  simp only at hf
  rcases hf with ⟨rfl, hn, hv⟩ | ⟨rfl, hn, rfl⟩ | ⟨h1, h4, rfl, hv⟩
  · unfold predL
    rw [pLine_5, cut2 (word_fr 5)]
    simp only [if_pos]
    rw [if_pos (by simp), cut2 hn]
  · unfold predL
    rw [pLine_6, cut2 (word_fr 6)]
    simp only
    rw [if_neg (by decide), if_pos trivial, single_two (word_fr 6) hn.blank, if_pos rfl]
  · have e := pLine_k (show k ≠ 5 by omega) (show k ≠ 6 by omega) [] v
    unfold predL
    rw [e, cut2 (word_fr k)]
    simp only
    have hs := single_two (word_fr k) hv.blank
    obtain rfl | rfl | rfl | rfl : k = 1 ∨ k = 2 ∨ k = 3 ∨ k = 4 := by omega
    · rw [if_neg (by decide), if_neg (by decide), if_pos rfl, hs, if_pos rfl]
    · rw [if_neg (by decide), if_neg (by decide), if_neg (by decide), if_pos rfl, hs, if_pos rfl]
    · rw [if_neg (by decide), if_neg (by decide), if_neg (by decide), if_neg (by decide), if_pos rfl, hs, if_pos rfl]
    · rw [if_neg (by decide), if_neg (by decide), if_neg (by decide), if_neg (by decide), if_neg (by decide), if_pos rfl, hs, if_pos rfl]
theorem preds_back (tg : List UInt8) (htg : (32 : UInt8) ∉ tg) (T : List (List UInt8)) : ∀ (ps : List Pd) (k : Nat) (x : Ru), (∀ p ∈ ps, p.err = 0) → predsR k (ps.map pLine ++ ((wTo ++ 32 :: tg) :: T)) x = ({ x with ps := x.ps ++ ps, tg := tg }, k + ps.length + 1, true)
  | [], k, x, _ => by
    simp only [List.map_nil, List.nil_append, predsR]
    rw [cut2 (fr_lit (by decide)), if_pos rfl, single_two (fr_lit (by decide)) htg, if_pos rfl]
    simp
  | p :: t, k, x, h => by
    have hp := h p (by simp)
    simp only [List.map_cons, List.cons_append, predsR]
    rw [pLine_cut hp, if_neg (word_to _), predL_back hp]
    simp only
    rw [preds_back tg htg T t (k + 1) _ (fun q hq => h q (by simp [hq]))]
    simp only [List.append_assoc, List.singleton_append, List.length_cons]
    rw [show k + 1 + t.length + 1 = k + (t.length + 1) + 1 by omega]
theorem toNat_cast {n : Int} (h : 0 ≤ n) : ((n.toNat : Nat) : Int) = n := by omega
theorem opt_a (x r : Ru) (ha : 0 ≤ r.ap ∧ r.ap ≤ 999999) (hs : 0 ≤ r.st ∧ r.st ≤ 999999) : opt x (aLine r) = (1, true, { x with ap := r.ap, st := r.st }) := by
  unfold opt aLine
  rw [cut2 (fr_lit (by decide))]
  simp only
  rw [if_pos trivial, pair_two ha hs]
  simp only [toNat_cast ha.1, toNat_cast hs.1]
theorem opt_d (x r : Ru) (ha : 0 ≤ r.dp ∧ r.dp ≤ 999999) (hs : 0 ≤ r.dt ∧ r.dt ≤ 999999) : opt x (dLine r) = (2, true, { x with dp := r.dp, dt := r.dt }) := by
  unfold opt dLine
  rw [cut2 (fr_lit (by decide))]
  simp only
  rw [if_neg (by decide), if_pos trivial, pair_two ha hs]
  simp only [toNat_cast ha.1, toNat_cast hs.1]
theorem opt_m (x r : Ru) (ha : 0 ≤ r.mp ∧ r.mp ≤ 999999) (hs : Fr r.mi) : opt x (mLine r) = (3, true, { x with mp := r.mp, mi := r.mi }) := by
  unfold opt mLine
  rw [cut2 (fr_lit (by decide))]
  simp only
  rw [if_neg (by decide), if_neg (by decide), if_pos trivial, two_two (fr_itoa ha) hs (num_itoa ha)]
  simp only [toNat_cast ha.1]
theorem opt_s (x r : Ru) (ha : 0 ≤ r.sm ∧ r.sm ≤ 999999) : opt x (sLine r) = (4, true, { x with sm := r.sm }) := by
  unfold opt sLine
  rw [cut2 (fr_lit (by decide))]
  simp only
  rw [if_neg (by decide), if_neg (by decide), if_neg (by decide), if_pos trivial, num_itoa ha]
  simp only [toNat_cast ha.1]
theorem opts_step {k last : Nat} {l : List UInt8} {T : List (List UInt8)} {x y : Ru} {j : Nat} (h : opt x l = (j, true, y)) (hj : last < j) : optsR k (l :: T) x last = optsR (k + 1) T y j := by
  conv => lhs; unfold optsR
  rw [h]
  simp only
  rw [if_neg (by omega), if_neg (by simp; omega)]
theorem opts_end {k last : Nat} {l : List UInt8} {T : List (List UInt8)} {x : Ru} (h : (opt x l).1 = 0) : optsR k (l :: T) x last = (x, k, true) := by
  unfold optsR
  simp only [h, if_pos]
theorem opts_a (r x : Ru) (k : Nat) (T : List (List UInt8)) (hn : ∀ n ∈ nums r, 0 ≤ n ∧ n ≤ 999999) (hx : x.ap = 0 ∧ x.st = 0) : ∃ j, j ≤ 1 ∧ optsR k (aL r ++ T) x 0 = optsR (k + (aL r).length) T { x with ap := r.ap, st := r.st } j := by
  unfold aL
  split
  · exact ⟨1, by omega, opts_step (opt_a x r (hn _ (by simp [nums])) (hn _ (by simp [nums]))) (by omega)⟩
  · rename_i h
    refine ⟨0, by omega, ?_⟩
    obtain ⟨a, b⟩ := hx
    have e1 : r.ap = 0 := Decidable.byContradiction fun e => h (.inl e)
    have e2 : r.st = 0 := Decidable.byContradiction fun e => h (.inr e)
    obtain ⟨xr, xp, xt, xa, xs, xd, xe, xm, xi, xx⟩ := x
    simp only at a b
    subst a; subst b
    rw [e1, e2]
    rfl
theorem opts_d (r x : Ru) (k i : Nat) (hi : i ≤ 1) (T : List (List UInt8)) (hn : ∀ n ∈ nums r, 0 ≤ n ∧ n ≤ 999999) (hx : x.dp = 0 ∧ x.dt = 0) : ∃ j, j ≤ 2 ∧ optsR k (dL r ++ T) x i = optsR (k + (dL r).length) T { x with dp := r.dp, dt := r.dt } j := by
  unfold dL
  split
  · exact ⟨2, by omega, opts_step (opt_d x r (hn _ (by simp [nums])) (hn _ (by simp [nums]))) (by omega)⟩
  · rename_i h
    refine ⟨i, by omega, ?_⟩
    obtain ⟨a, b⟩ := hx
    have e1 : r.dp = 0 := Decidable.byContradiction fun e => h (.inl e)
    have e2 : r.dt = 0 := Decidable.byContradiction fun e => h (.inr e)
    obtain ⟨xr, xp, xt, xa, xs, xd, xe, xm, xi, xx⟩ := x
    simp only at a b
    subst a; subst b
    rw [e1, e2]
    rfl
theorem opts_m (r x : Ru) (k i : Nat) (hi : i ≤ 2) (T : List (List UInt8)) (hn : ∀ n ∈ nums r, 0 ≤ n ∧ n ≤ 999999) (hm : namesOk r = true) (hx : x.mp = 0 ∧ x.mi = []) : ∃ j, j ≤ 3 ∧ optsR k (mL r ++ T) x i = optsR (k + (mL r).length) T { x with mp := r.mp, mi := r.mi } j := by
  unfold namesOk at hm
  unfold mL
  split
  · rename_i h
    rw [if_neg h] at hm
    simp only [Bool.and_eq_true] at hm
    exact ⟨3, by omega, opts_step (opt_m x r (hn _ (by simp [nums])) (fr_name hm.2)) (by omega)⟩
  · rename_i h
    have e2 : r.mi = [] := Decidable.byContradiction fun e => h e
    rw [if_pos e2] at hm
    simp only [Bool.and_eq_true, decide_eq_true_eq] at hm
    have e1 : r.mp = 0 := hm.2
    refine ⟨i, by omega, ?_⟩
    obtain ⟨a, b⟩ := hx
    obtain ⟨xr, xp, xt, xa, xs, xd, xe, xm, xi, xx⟩ := x
    simp only at a b
    subst a; subst b
    rw [e1, e2]
    rfl
theorem opts_s (r x : Ru) (k i : Nat) (hi : i ≤ 3) (T : List (List UInt8)) (hn : ∀ n ∈ nums r, 0 ≤ n ∧ n ≤ 999999) (hx : x.sm = 0) : ∃ j, j ≤ 4 ∧ optsR k (sL r ++ T) x i = optsR (k + (sL r).length) T { x with sm := r.sm } j := by
  unfold sL
  split
  · exact ⟨4, by omega, opts_step (opt_s x r (hn _ (by simp [nums]))) (by omega)⟩
  · rename_i h
    have e1 : r.sm = 0 := Decidable.byContradiction fun e => h e
    refine ⟨i, by omega, ?_⟩
    obtain ⟨xr, xp, xt, xa, xs, xd, xe, xm, xi, xx⟩ := x
    simp only at hx
    subst hx
    rw [e1]
    rfl
theorem opts_back (r x : Ru) (k : Nat) (l : List UInt8) (T : List (List UInt8)) (hn : ∀ n ∈ nums r, 0 ≤ n ∧ n ≤ 999999) (hm : namesOk r = true) (hl : ∀ y, (opt y l).1 = 0)
    (hx : x = ⟨r.rank, r.ps, r.tg, 0, 0, 0, 0, 0, [], 0⟩) : optsR k (aL r ++ (dL r ++ (mL r ++ sL r)) ++ (l :: T)) x 0 = (r, k + (aL r ++ (dL r ++ (mL r ++ sL r))).length, true) := by
  subst hx
  simp only [List.append_assoc]
  obtain ⟨j1, h1, e1⟩ := opts_a r ⟨r.rank, r.ps, r.tg, 0, 0, 0, 0, 0, [], 0⟩ k (dL r ++ (mL r ++ (sL r ++ l :: T))) hn ⟨rfl, rfl⟩
  rw [e1]
  obtain ⟨j2, h2, e2⟩ := opts_d r ⟨r.rank, r.ps, r.tg, r.ap, r.st, 0, 0, 0, [], 0⟩ (k + (aL r).length) j1 h1 (mL r ++ (sL r ++ l :: T)) hn ⟨rfl, rfl⟩
  simp only at e2 ⊢
  rw [e2]
  obtain ⟨j3, h3, e3⟩ := opts_m r ⟨r.rank, r.ps, r.tg, r.ap, r.st, r.dp, r.dt, 0, [], 0⟩ (k + (aL r).length + (dL r).length) j2 h2 (sL r ++ l :: T) hn hm ⟨rfl, rfl⟩
  simp only at e3 ⊢
  rw [e3]
  obtain ⟨j4, h4, e4⟩ := opts_s r ⟨r.rank, r.ps, r.tg, r.ap, r.st, r.dp, r.dt, r.mp, r.mi, 0⟩ (k + (aL r).length + (dL r).length + (mL r).length) j3 h3 (l :: T) hn rfl
  simp only at e4 ⊢
  rw [e4, opts_end (hl _)]
  simp only [List.length_append]
  congr 2
  omega
theorem rule_back (r : Ru) (pre : List (List UInt8)) (l : List UInt8) (T : List (List UInt8)) (hone : one r = 0) (hl : ∀ y, (opt y l).1 = 0) : ruleR (pre ++ (rLines r ++ (l :: T))) pre.length = (r, pre.length + (rLines r).length, true) := by
  obtain ⟨h4, hp, hm, hn⟩ := one_ok hone
  have htg : (32 : UInt8) ∉ r.tg := by
    unfold namesOk at hm
    split at hm
    · simp only [Bool.and_eq_true] at hm; exact (fr_name hm.1).blank
    · simp only [Bool.and_eq_true] at hm; exact (fr_name hm.1).blank
  have hrk := hn r.rank (by simp [nums])
  have g0 : (pre ++ (rLines r ++ (l :: T))).getD pre.length [] = rLine r := by
    rw [List.getD_eq_getElem?_getD, List.getElem?_append_right (Nat.le_refl _), Nat.sub_self]
    rfl
  have d1 : (pre ++ (rLines r ++ (l :: T))).drop (pre.length + 1) = r.ps.map pLine ++ (toLine r :: (aL r ++ (dL r ++ (mL r ++ sL r)) ++ (l :: T))) := by
    rw [← List.drop_drop, List.drop_left]
    unfold rLines
    simp
  have d2 : (pre ++ (rLines r ++ (l :: T))).drop (pre.length + 1 + r.ps.length + 1) = aL r ++ (dL r ++ (mL r ++ sL r)) ++ (l :: T) := by
    rw [show pre.length + 1 + r.ps.length + 1 = pre.length + 1 + (r.ps.length + 1) by omega, ← List.drop_drop, d1, ← List.drop_drop, show r.ps.length = (r.ps.map pLine).length by simp, List.drop_left]
    rfl
  unfold ruleR
  rw [g0]
  unfold rLine
  rw [cut2 (fr_lit (by decide))]
  simp only
  rw [num_itoa hrk]
  simp only
  rw [d1]
  unfold toLine
  rw [preds_back r.tg htg _ r.ps _ _ hp]
  simp only [if_true]
  rw [d2]
  rw [opts_back r _ _ l T hn hm hl (by simp [newRu, toNat_cast hrk.1])]
  congr 2
  unfold rLines
  simp
  omega
theorem opt_rule (y : Ru) (r : Ru) : (opt y (rLine r)).1 = 0 := by
  unfold opt rLine
  rw [cut2 (fr_lit (by decide))]
  simp only
  rw [if_neg (by decide), if_neg (by decide), if_neg (by decide), if_neg (by decide)]
theorem cut_end : Pg.cut wEnd = (wEnd, []) := by decide
theorem opt_wend (y : Ru) : (opt y wEnd).1 = 0 := by
  unfold opt
  rw [cut_end]
  simp only
  rw [if_neg (by decide), if_neg (by decide), if_neg (by decide), if_neg (by decide)]
theorem body_back : ∀ (rs : List Ru) (pre : List (List UInt8)) (n : Nat) (acc : List Ru), (∀ r ∈ rs, one r = 0) → rs.length < n → bodyR (pre ++ (rs.flatMap rLines ++ [wEnd])) n pre.length acc = (acc ++ rs, (pre ++ (rs.flatMap rLines ++ [wEnd])).length, true)
  | [], pre, n, acc, _, hn => by
    obtain ⟨m, rfl⟩ : ∃ m, n = m + 1 := ⟨n - 1, by simp at hn; omega⟩
    have g0 : (pre ++ (([] : List Ru).flatMap rLines ++ [wEnd])).getD pre.length [] = wEnd := by
      rw [List.getD_eq_getElem?_getD, List.getElem?_append_right (Nat.le_refl _), Nat.sub_self]
      rfl
    unfold bodyR
    simp only [g0, cut_end]
    rw [if_neg (by decide), if_pos trivial, if_pos trivial]
    simp
  | r :: t, pre, n, acc, h, hn => by
    obtain ⟨m, rfl⟩ : ∃ m, n = m + 1 := ⟨n - 1, by simp at hn; omega⟩
    have ho := h r (by simp)
    obtain ⟨l, T, hT, hl⟩ : ∃ l T, t.flatMap rLines ++ [wEnd] = l :: T ∧ ∀ y, (opt y l).1 = 0 := by
      rcases t with _ | ⟨r2, t2⟩
      · exact ⟨wEnd, [], rfl, opt_wend⟩
      · refine ⟨rLine r2, (r2.ps.map pLine ++ (toLine r2 :: (aL r2 ++ (dL r2 ++ (mL r2 ++ sL r2))))) ++ (t2.flatMap rLines ++ [wEnd]), ?_, fun y => opt_rule y r2⟩
        rw [List.flatMap_cons]
        unfold rLines
        simp
    have eL : pre ++ ((r :: t).flatMap rLines ++ [wEnd]) = pre ++ (rLines r ++ (l :: T)) := by
      rw [List.flatMap_cons, List.append_assoc, hT]
    have hr := rule_back r pre l T ho hl
    have g0 : (pre ++ (rLines r ++ (l :: T))).getD pre.length [] = rLine r := by
      rw [List.getD_eq_getElem?_getD, List.getElem?_append_right (Nat.le_refl _), Nat.sub_self]
      rfl
    have ih := body_back t (pre ++ rLines r) m (acc ++ [r]) (fun q hq => h q (by simp [hq])) (by simp at hn; omega)
    rw [eL]
    unfold bodyR
    simp only [g0, hr]
    have hc : (Pg.cut (rLine r)).1 = wRule := by unfold rLine; rw [cut2 (fr_lit (by decide))]
    rw [hc, if_pos rfl, if_pos trivial]
    rw [hT, List.append_assoc, List.length_append] at ih
    rw [ih]
    simp
theorem nl_rLines {r : Ru} (hone : one r = 0) : ∀ x ∈ rLines r, Nl x := by
  obtain ⟨h4, hp, hm, hn⟩ := one_ok hone
  have hnm : Fr r.tg ∧ (r.mi ≠ [] → Fr r.mi) := by
    unfold namesOk at hm
    split at hm
    · rename_i h0; simp only [Bool.and_eq_true] at hm; exact ⟨fr_name hm.1, fun e => absurd h0 e⟩
    · simp only [Bool.and_eq_true] at hm; exact ⟨fr_name hm.1, fun _ => fr_name hm.2⟩
  have hw : ∀ {a : List UInt8}, a.all (fun b => b != 32 && b != 10) = true → Nl a := fun h => (fr_lit h).nl
  have hi : ∀ {n : Int}, n ∈ nums r → Nl (Lib.itoa n) := fun h => (fr_itoa (hn _ h)).nl
  intro x hx
  unfold rLines at hx
  rcases List.mem_cons.1 hx with rfl | hx
  · exact nl_app (hw (by decide)) (hi (by simp [nums]))
  rcases List.mem_append.1 hx with hx | hx
  · obtain ⟨p, hpp, rfl⟩ := List.mem_map.1 hx
    have hf := pd_fr (hp p hpp)
    obtain ⟨k, n, v⟩ := p
    simp only at hf
    rcases hf with ⟨rfl, h1, h2⟩ | ⟨rfl, h1, rfl⟩ | ⟨h1, h2, rfl, h3⟩
    · rw [pLine_5]; exact nl_app (word_fr 5).nl (nl_app h1.nl h2)
    · rw [pLine_6]; exact nl_app (word_fr 6).nl h1.nl
    · rw [pLine_k (by omega) (by omega)]; exact nl_app (word_fr k).nl h3.nl
  rcases List.mem_cons.1 hx with rfl | hx
  · exact nl_app (hw (by decide)) hnm.1.nl
  rcases List.mem_append.1 hx with hx | hx
  · unfold aL at hx
    split at hx
    · rw [List.mem_singleton.1 hx]; exact nl_app (hw (by decide)) (nl_app (hi (by simp [nums])) (hi (by simp [nums])))
    · cases hx
  rcases List.mem_append.1 hx with hx | hx
  · unfold dL at hx
    split at hx
    · rw [List.mem_singleton.1 hx]; exact nl_app (hw (by decide)) (nl_app (hi (by simp [nums])) (hi (by simp [nums])))
    · cases hx
  rcases List.mem_append.1 hx with hx | hx
  · unfold mL at hx
    split at hx
    · rename_i h0
      rw [List.mem_singleton.1 hx]; exact nl_app (hw (by decide)) (nl_app (hi (by simp [nums])) (hnm.2 h0).nl)
    · cases hx
  · unfold sL at hx
    split at hx
    · rw [List.mem_singleton.1 hx]; exact nl_app (hw (by decide)) (hi (by simp [nums]))
    · cases hx
/-- What was written is read as it was. -/
theorem read_text {c : Cf} (h : check c = 0) (hl : (text c).length ≤ 4096) : read (text c) = (c, 0, 0) := by
  obtain ⟨hf, hr, ho⟩ := check_ok h
  have hfm : Nl c.f := by
    unfold check at h
    split at h
    · cases h
    rename_i h1
    have : fmtOk c.f = true := by simpa using h1
    simp only [fmtOk, Bool.and_eq_true] at this
    exact nl_of this.1
  have hnl : ∀ x ∈ lines c, Nl x := by
    intro x hx
    unfold lines at hx
    rcases List.mem_append.1 hx with hx | hx
    · split at hx
      · rw [List.mem_singleton.1 hx]; exact nl_app (fr_lit (by decide)).nl hfm
      · cases hx
    rcases List.mem_append.1 hx with hx | hx
    · obtain ⟨r, hr1, hr2⟩ := List.mem_flatMap.1 hx
      exact nl_rLines (ho r hr1) x hr2
    · rw [List.mem_singleton.1 hx]; exact (fr_lit (a := wEnd) (by decide)).nl
  have hpc : Ts.pieces 10 (text c) = lines c ++ [[]] := by rw [text_lines, pieces_nls _ hnl]
  have hfr : fmtR (lines c) = (c.f, if c.f ≠ [] then 1 else 0) := by
    unfold fmtR lines
    by_cases h0 : c.f = []
    · have hno : ¬ ((Pg.cut (((if c.f ≠ [] then [fLine c.f] else []) ++ (c.rs.flatMap rLines ++ [wEnd])).getD 0 [])).1 = wFormat ∧ (Pg.cut (((if c.f ≠ [] then [fLine c.f] else []) ++ (c.rs.flatMap rLines ++ [wEnd])).getD 0 [])).2 ≠ []) := by
        rintro ⟨h1, _⟩
        rw [if_neg (by simp [h0]), List.nil_append] at h1
        rcases hrs : c.rs with _ | ⟨r, t⟩
        · rw [hrs] at h1
          revert h1; decide
        · rw [hrs, List.flatMap_cons] at h1
          have e : ((rLines r ++ t.flatMap rLines ++ [wEnd]) : List (List UInt8)).getD 0 [] = rLine r := rfl
          rw [e] at h1
          unfold rLine at h1
          rw [cut2 (fr_lit (by decide))] at h1
          revert h1
          simp only
          decide
      rw [if_neg hno]
      simp [h0]
    · have e : (((if c.f ≠ [] then [fLine c.f] else []) ++ (c.rs.flatMap rLines ++ [wEnd])) : List (List UInt8)).getD 0 [] = fLine c.f := by rw [if_pos h0]; rfl
      rw [e]
      unfold fLine
      rw [cut2 (fr_lit (by decide)), if_pos ⟨rfl, h0⟩, if_pos h0]
  have hln : linesR (lines c) = (c.rs, (lines c).length, true) := by
    unfold linesR
    rw [hfr]
    have hlen : c.rs.length < (lines c).length + 1 := by
      unfold lines
      have : ∀ rs : List Ru, rs.length ≤ (rs.flatMap rLines).length := by
        intro rs
        induction rs with
        | nil => simp
        | cons r t ih => have hp : 1 ≤ (rLines r).length := by unfold rLines; simp
                         rw [List.flatMap_cons, List.length_append, List.length_cons]; omega
      have := this c.rs
      simp only [List.length_append]
      omega
    have hb := body_back c.rs (if c.f ≠ [] then [fLine c.f] else []) ((lines c).length + 1) [] ho hlen
    have e : (if c.f ≠ [] then [fLine c.f] else []).length = (if c.f ≠ [] then 1 else 0) := by split <;> rfl
    rw [e] at hb
    rw [List.nil_append] at hb
    exact hb
  unfold read
  rw [if_neg (by omega), hpc]
  simp only [List.dropLast_concat, hln, hfr]
  have hc : (⟨c.rs, c.f⟩ : Cf) = c := rfl
  rw [if_neg (by simp), hc, if_neg (by simp [h])]
theorem read_ok {t : List UInt8} {c : Cf} {n : Nat} (h : read t = (c, n, 0)) : check c = 0 ∧ n = 0 := by
  unfold read at h
  split at h
  · simp at h
  · simp only at h
    split at h
    · simp at h
    · split at h
      · rename_i h1
        simp only [Prod.mk.injEq] at h
        exact absurd h.2.2 h1
      · rename_i h1
        simp only [Prod.mk.injEq] at h
        obtain ⟨rfl, rfl, _⟩ := h
        exact ⟨Decidable.byContradiction h1, rfl⟩
end Cf
end Go.Proofs.YtfbhdkkmcfnghaaGreatDoor
