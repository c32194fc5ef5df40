/- A trace's headers, in plain Lean: what is put in, and what stays. No condition. -/
import Derived.Test.YtfbhdkkmcfnghaaGreatDoorInSet
import Derived.Test.YtfbhdkkmcfnghaaGreatDoorInParFn
namespace Go.Proofs.YtfbhdkkmcfnghaaGreatDoor
open Go.RowKit
set_option linter.unusedVariables false

namespace In
def tp : List UInt8 := [116, 114, 97, 99, 101, 112, 97, 114, 101, 110, 116]
def ts : List UInt8 := [116, 114, 97, 99, 101, 115, 116, 97, 116, 101]
def mesh : List UInt8 := [109, 101, 115, 104]
/-- The text of the most first members that is not too long. -/
def pick (m : List Hd) : Nat → List UInt8 → List UInt8
  | 0, last => last
  | n + 1, _ => if (Ts.write (m.take (n + 1))).1.length ≤ 64 then (Ts.write (m.take (n + 1))).1 else pick m n (Ts.write (m.take (n + 1))).1
def stMembers (L : List Hd) (sp : Nat) : List Hd := (Ts.put (Ts.read ((hdGet L ts).getD [])).1 mesh (hex 16 sp)).1
def stText (L : List Hd) (sp : Nat) : List UInt8 := pick (stMembers L sp) (stMembers L sp).length []
def into (L : List Hd) (p : Pr) : List Hd := hdSet (hdSet L tp (prText p)) ts (stText L p.sp)
def from_ (L : List Hd) : Pr × Nat := match hdGet L tp with
  | none => (zero, 9)
  | some t => prRead t
def strip (L : List Hd) : List Hd := hdKeep (inNames [tp, ts]) L

theorem check_snoc {l : List Hd} {m : Hd} (h : Ts.check l = 0) (hn : Ts.next l m = 0) : Ts.check (l ++ [m]) = 0 := by
  rw [Ts.check_iff] at h ⊢
  rw [Ts.next_zero] at hn
  obtain ⟨h1, h2, h3⟩ := h
  obtain ⟨g1, g2, g3⟩ := hn
  refine ⟨fun x hx => ?_, ?_, by simp; omega⟩
  · rcases List.mem_append.1 hx with hx | hx
    · exact h1 x hx
    · simp at hx; subst hx; exact g1
  · rw [List.pairwise_append]
    refine ⟨h2, by simp, fun a ha b hb => ?_⟩
    simp at hb; subst hb
    exact g2 a ha
theorem check_readFrom : ∀ (P : List (List UInt8)) (out : List Hd), Ts.check out = 0 → Ts.check (Ts.readFrom P out).1 = 0
  | [], out, h => h
  | p :: ps, out, h => by
    unfold Ts.readFrom
    split
    · exact check_readFrom ps out h
    · split
      · rfl
      · split
        · rfl
        · rename_i hn
          exact check_readFrom ps _ (check_snoc h (by simpa using hn))
theorem check_read (s : List UInt8) : Ts.check (Ts.read s).1 = 0 := check_readFrom _ _ rfl
theorem mesh_ok : Ts.keyOk mesh = true := by decide
theorem hex_val (n : Nat) : Ts.valOk (hex 16 n) = true := by
  have hb := hex_bytes 16 n
  have hl := hex_len 16 n
  unfold Ts.valOk
  simp only [Bool.and_eq_true, Bool.not_eq_true', decide_eq_true_eq]
  refine ⟨⟨⟨?_, by omega⟩, ?_⟩, ?_⟩
  · cases h : hex 16 n with
    | nil => rw [h] at hl; simp at hl
    | cons a t => rfl
  · cases h : (hex 16 n).getLast? with
    | none => rfl
    | some b =>
      have := hb b (List.mem_of_getLast? h)
      simp only [Option.map_some, Option.getD_some, bne_iff_ne]
      omega
  · rw [List.all_eq_true]
    intro b h
    have := hb b h
    unfold Ts.valByte
    simp only [Bool.and_eq_true, decide_eq_true_eq, bne_iff_ne]
    omega
theorem members_eq (L : List Hd) (sp : Nat) : stMembers L sp = (((mesh, hex 16 sp) :: Ts.others (Ts.read ((hdGet L ts).getD [])).1 mesh).take 32) := by
  unfold stMembers Ts.put
  rw [mesh_ok, hex_val]
  rfl
theorem members_check (L : List Hd) (sp : Nat) : Ts.check (stMembers L sp) = 0 := by
  rw [members_eq]
  exact Ts.check_put (check_read _) mesh_ok (hex_val sp)
theorem take_check {l : List Hd} (h : Ts.check l = 0) (n : Nat) : Ts.check (l.take n) = 0 := by
  rw [Ts.check_iff] at h ⊢
  exact ⟨fun m hm => h.1 m (List.mem_of_mem_take hm), h.2.1.take, by simp; omega⟩
theorem write_take {l : List Hd} (h : Ts.check l = 0) (n : Nat) : (Ts.write (l.take n)).1 = Ts.text (l.take n) := by
  unfold Ts.write
  rw [if_neg (by simpa using take_check h n)]
theorem pick_some {m : List Hd} (hc : Ts.check m = 0) (h1 : (Ts.text (m.take 1)).length ≤ 64) : ∀ n last, 1 ≤ n → ∃ k, 1 ≤ k ∧ k ≤ n ∧ pick m n last = Ts.text (m.take k) ∧ (Ts.text (m.take k)).length ≤ 64
  | 0, _, h => by omega
  | n + 1, last, _ => by
    unfold pick
    rw [write_take hc]
    split
    · rename_i h; exact ⟨n + 1, by omega, by omega, rfl, h⟩
    · rename_i h
      cases n with
      | zero => exact absurd h1 h
      | succ n =>
        obtain ⟨k, a, b, c, d⟩ := pick_some hc h1 (n + 1) (Ts.text (m.take (n + 1 + 1))) (by omega)
        exact ⟨k, a, by omega, c, d⟩
/-- The state's text: the mesh's own member, and some behind it. -/
theorem state_some (L : List Hd) (sp : Nat) : ∃ l : List Hd, Ts.check ((mesh, hex 16 sp) :: l) = 0 ∧ stText L sp = Ts.text ((mesh, hex 16 sp) :: l) ∧ (stText L sp).length ≤ 64 := by
  have hc := members_check L sp
  have he := members_eq L sp
  have h1 : (Ts.text ((stMembers L sp).take 1)).length ≤ 64 := by
    rw [he]
    simp [Ts.text, Ts.word, mesh, hex_len]
  have hl : 1 ≤ (stMembers L sp).length := by rw [he]; simp
  obtain ⟨k, a, b, c, d⟩ := pick_some hc h1 (stMembers L sp).length [] hl
  obtain ⟨j, rfl⟩ : ∃ j, k = j + 1 := ⟨k - 1, by omega⟩
  have e : (stMembers L sp).take (j + 1) = (mesh, hex 16 sp) :: ((Ts.others (Ts.read ((hdGet L ts).getD [])).1 mesh).take 31).take j := by
    rw [he]; rfl
  refine ⟨((Ts.others (Ts.read ((hdGet L ts).getD [])).1 mesh).take 31).take j, ?_, ?_, ?_⟩
  · rw [← e]; exact take_check hc _
  · rw [← e]; exact c
  · unfold stText; rw [c]; exact d

theorem keep_set {P : List UInt8 → Bool} {n v : List UInt8} {L : List Hd} (hP : P n = true) : hdKeep P (hdSet L n v) = hdKeep P L := by
  have h1 : ∀ X : List Hd, hdKeep P (hdKeep (inNames [n]) X) = hdKeep P X := by
    intro X
    unfold hdKeep
    rw [List.filter_filter]
    apply List.filter_congr
    intro x _
    rw [inNames_one]
    by_cases hx : x.1 = n
    · rw [hx, hP]; rfl
    · simp [hx]
  have h2 : hdKeep P [(n, v)] = [] := by simp [hdKeep, hP]
  have h3 : ∀ X Y : List Hd, hdKeep P (X ++ Y) = hdKeep P X ++ hdKeep P Y := by intro X Y; simp [hdKeep]
  unfold hdSet
  split
  · rw [h3, h2, List.append_nil]
  · rename_i k _
    rw [h3, h3, h1, h2, List.append_nil, ← h3, List.take_append_drop]
theorem all_keep (L : List Hd) (n : List UInt8) : hdAll L n = (hdKeep (fun x => !(x == n)) L).map (·.2) := by
  unfold hdAll hdKeep
  simp
theorem all_other {n n' v : List UInt8} {L : List Hd} (h : n ≠ n') : hdAll (hdSet L n v) n' = hdAll L n' := by
  rw [all_keep, all_keep, keep_set]
  simp [h]
theorem all_set {n v : List UInt8} {L : List Hd} : hdAll (hdSet L n v) n = [v] := by
  have h0 : ∀ X : List Hd, hdAll (hdKeep (inNames [n]) X) n = [] := by
    intro X
    unfold hdAll hdKeep
    rw [List.filter_filter, List.map_eq_nil_iff, List.filter_eq_nil_iff]
    intro x _
    rw [inNames_one]
    cases h : (x.1 == n) <;> simp
  have h1 : ∀ X Y : List Hd, hdAll (X ++ Y) n = hdAll X n ++ hdAll Y n := by intro X Y; simp [hdAll]
  have h2 : hdAll [(n, v)] n = [v] := by simp [hdAll]
  unfold hdSet
  split
  · rename_i h
    unfold hdAt at h
    rw [List.findIdx?_eq_none_iff] at h
    have : hdAll L n = [] := by
      unfold hdAll
      rw [List.map_eq_nil_iff, List.filter_eq_nil_iff]
      intro x hx
      simp [h x hx]
    rw [h1, this, h2]; rfl
  · rename_i k h
    unfold hdAt at h
    rw [List.findIdx?_eq_some_iff_getElem] at h
    obtain ⟨hk, _, hf⟩ := h
    have : hdAll (L.take k) n = [] := by
      unfold hdAll
      rw [List.map_eq_nil_iff, List.filter_eq_nil_iff]
      intro x hx
      obtain ⟨j, hj, rfl⟩ := List.mem_take_iff_getElem.1 hx
      have := hf j (by omega)
      simpa using this
    rw [h1, h1, this, h2, h0]; rfl
theorem len_split {a b : List UInt8} (hab : a ≠ b) : ∀ S : List Hd, S.length = (hdKeep (inNames [a, b]) S).length + (hdAll S a).length + (hdAll S b).length
  | [] => rfl
  | x :: t => by
    have ih := len_split hab t
    have e : ∀ y : List UInt8, inNames [a, b] y = (y == a || y == b) := by intro y; simp [inNames]
    unfold hdKeep hdAll at *
    simp only [List.length_map, List.filter_cons, e] at *
    by_cases ha : x.1 = a
    · have hb : (x.1 == b) = false := by rw [ha, beq_eq_false_iff_ne]; exact hab
      have ha' : (x.1 == a) = true := by simp [ha]
      simp only [ha', hb, List.length_cons, Bool.or_false, Bool.not_true, if_true]
      simp only [Bool.false_eq_true, if_false]
      omega
    · have ha' : (x.1 == a) = false := by simpa using ha
      by_cases hb : x.1 = b
      · have hb' : (x.1 == b) = true := by simp [hb]
        simp only [ha', hb', List.length_cons, Bool.or_true, Bool.not_true, if_true]
        simp only [Bool.false_eq_true, if_false]
        omega
      · have hb' : (x.1 == b) = false := by simpa using hb
        simp only [ha', hb', List.length_cons, Bool.or_false, Bool.not_false, if_true]
        simp only [Bool.false_eq_true, if_false]
        omega
theorem tp_ts : tp ≠ ts := by decide
theorem strip_into (L : List Hd) (p : Pr) : strip (into L p) = strip L := by
  unfold strip into
  rw [keep_set (by decide), keep_set (by decide)]
theorem into_tp (L : List Hd) (p : Pr) : hdAll (into L p) tp = [prText p] := by
  unfold into
  rw [all_other (Ne.symm tp_ts), all_set]
theorem into_ts (L : List Hd) (p : Pr) : hdAll (into L p) ts = [stText L p.sp] := by
  unfold into
  rw [all_set]
theorem from_into (L : List Hd) {p : Pr} (h : prErr p = 0) (hf : Pr.fits p) : from_ (into L p) = (p, 0) := by
  unfold from_
  rw [hdAll_get, into_tp]
  exact read_text h hf
theorem into_len (L : List Hd) (p : Pr) : (into L p).length = (strip L).length + 2 := by
  rw [len_split tp_ts (into L p), into_tp, into_ts]
  show (strip (into L p)).length + 1 + 1 = _
  rw [strip_into]
end In
end Go.Proofs.YtfbhdkkmcfnghaaGreatDoor
