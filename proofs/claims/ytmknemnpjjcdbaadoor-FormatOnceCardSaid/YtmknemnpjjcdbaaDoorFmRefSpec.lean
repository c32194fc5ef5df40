/- The reference's parts in plain Lean: a text more, and the places of signs. No condition. -/
import Derived.Test.YtmknemnpjjcdbaaDoorFmDo
namespace Go.Proofs.YtmknemnpjjcdbaaDoor
namespace Fm
/-- Parts with a text more. -/
def more (L : List Pt) (t : List UInt8) : List Pt := match L.getLast? with
  | some p => if p.1 = 0 then L.dropLast ++ [(0, p.2 ++ t)] else L ++ [(0, t)]
  | none => L ++ [(0, t)]
def noText (out : List Pt) : Prop := ∀ p, out.getLast? = some p → p.1 ≠ 0
theorem noText_nil : noText [] := fun p h => by simp at h
theorem noText_push {out : List Pt} {p : Pt} (h : p.1 ≠ 0) : noText (out ++ [p]) := fun q hq => by
  rw [List.getLast?_append] at hq
  simp at hq
  subst hq
  exact h
theorem more_flush {out : List Pt} {text t : List UInt8} (h : noText out) (ht : t ≠ []) : more (flush out text) t = flush out (text ++ t) := by
  have e : text ++ t ≠ [] := by intro h; exact ht (List.append_eq_nil_iff.1 h).2
  conv => rhs; unfold flush
  rw [if_neg e]
  unfold flush
  by_cases h0 : text = []
  · rw [if_pos h0, h0, List.nil_append]
    unfold more
    cases hl : out.getLast? with
    | none => rfl
    | some p => simp only; rw [if_neg (h p hl)]
  · rw [if_neg h0]
    unfold more
    rw [List.getLast?_append]
    simp
theorem more_text {L : List Pt} {n : Nat} {p : Pt} (hn : L.length = n + 1) (hp : L[n]? = some p) (h : p.1 = 0) (t : List UInt8) : more L t = L.take n ++ [(0, p.2 ++ t)] := by
  have hl : L.getLast? = some p := by rw [List.getLast?_eq_getElem?, hn]; exact hp
  unfold more
  rw [hl]
  simp only
  rw [if_pos h, List.dropLast_eq_take, hn]
  rfl
theorem more_last {L : List Pt} {n : Nat} {p : Pt} (hn : L.length = n + 1) (hp : L[n]? = some p) (h : p.1 ≠ 0) (t : List UInt8) : more L t = L ++ [(0, t)] := by
  have hl : L.getLast? = some p := by rw [List.getLast?_eq_getElem?, hn]; exact hp
  unfold more
  rw [hl]
  simp only
  rw [if_neg h]
theorem more_len (L : List Pt) (t : List UInt8) : (more L t).length ≤ L.length + 1 := by
  unfold more
  split
  · split
    · simp
    · simp
  · simp
/-- Where the next sign stands, or the end. -/
theorem sign_at (s : List UInt8) (n : Nat) (hn : n ≤ s.length) : ∃ E, n ≤ E ∧ E ≤ s.length ∧ (∀ k (hk : k < s.length), n ≤ k → k < E → s[k] ≠ 37) ∧ (∀ h : E < s.length, s[E] = 37) ∧
    ((E = s.length ∧ 37 ∉ s.drop n) ∨ ∃ i, E = n + i ∧ E < s.length ∧ 37 ∉ (s.drop n).take i ∧ s.drop n = (s.drop n).take i ++ 37 :: (s.drop n).drop (i + 1)) := by
  rcases index_sign (s.drop n) with ⟨_, hno⟩ | ⟨i, _, hil, hno, hsp⟩
  · refine ⟨s.length, hn, Nat.le_refl _, fun k hk h1 _ hb => hno ?_, fun h => absurd h (Nat.lt_irrefl _), .inl ⟨rfl, hno⟩⟩
    rw [List.mem_iff_getElem]
    exact ⟨k - n, by simp; omega, by rw [List.getElem_drop]; rw [← hb]; congr 1; omega⟩
  · rw [List.length_drop] at hil
    refine ⟨n + i, by omega, by omega, fun k hk h1 h2 hb => hno ?_, fun h => ?_, .inr ⟨i, rfl, by omega, hno, hsp⟩⟩
    · rw [List.mem_iff_getElem]
      exact ⟨k - n, by simp; omega, by rw [List.getElem_take, List.getElem_drop]; rw [← hb]; congr 1; omega⟩
    · have h1 : (s.drop n)[i]? = some 37 := by
        rw [hsp, List.getElem?_append_right (by simp; omega)]
        have : i - ((s.drop n).take i).length = 0 := by simp; omega
        rw [this]; rfl
      rw [List.getElem?_drop] at h1
      rw [List.getElem?_eq_getElem h] at h1
      exact Option.some.inj h1
/-- The reference's look at a header's part. -/
theorem isReq_ref {s : List UInt8} (h5 : 5 < s.length) : isReq s = ((s.take 4 == req) && ((s[s.length - 1]'(by omega) == 41) && nameOk ((s.drop 4).take (s.length - 1 - 4)))) := by
  unfold isReq inner
  rw [List.getLast?_eq_getElem?, List.getElem?_eq_getElem (by omega), List.dropLast_eq_take, List.length_drop]
  have e : s.length - 4 - 1 = s.length - 1 - 4 := by omega
  rw [e]
  simp [h5, Bool.and_assoc]
theorem inner_ref (s : List UInt8) : inner s = (s.drop 4).take (s.length - 1 - 4) := by
  unfold inner
  rw [List.dropLast_eq_take, List.length_drop]
  congr 1
theorem isReq_short {s : List UInt8} (h5 : ¬ 5 < s.length) : isReq s = false := by
  unfold isReq; simp [h5]
end Fm
end Go.Proofs.YtmknemnpjjcdbaaDoor
