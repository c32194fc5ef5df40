/- Spans as bytes, in plain Lean. No condition. -/
import Derived.Test.YtkhepehgafijfaaSpanCheck
import Derived.Test.YtkhepehgafijfaaOctetSpec
import Derived.Test.YtkhepehgafijfaaVarintSpec
namespace Go.Proofs.Ytkhepehgafijfaa

/-- The bytes of a span that may be. -/
def spanBytes (s : Sp) : List UInt8 :=
  Oc.digs 256 8 s.hi ++ (Oc.digs 256 8 s.lo ++ (Oc.digs 256 8 s.id ++ (Oc.digs 256 8 s.up ++ (Vr.text s.name ++ (Vr.put s.st.toNat ++ (Vr.put s.sq.toNat ++ (Vr.put s.kd.toNat ++ (Vr.put s.sh.toNat ++ (Vr.put s.t0.toNat ++ Vr.put (s.t1 - s.t0).toNat)))))))))

def write (s : Sp) : List UInt8 × Nat := if check s = 0 then (spanBytes s, 0) else ([], check s)

theorem check_zero {s : Sp} (h : check s = 0) : zer s.hi s.lo = false ∧ s.id ≠ 0 ∧ nameOk s.name = true ∧ 0 ≤ s.st ∧ s.st ≤ 599 ∧ 0 ≤ s.sq ∧ s.sq ≤ 63 ∧ 0 ≤ s.kd ∧ s.kd ≤ 64 ∧
    0 ≤ s.t0 ∧ s.t0 ≤ 1099511627776 ∧ s.t0 ≤ s.t1 ∧ s.t1 ≤ 1099511627776 := by
  unfold check at h
  repeat' split at h
  all_goals first | (exfalso; omega; done) | skip
  simp only [wi, Bool.and_eq_false_iff, decide_eq_false_iff_not, not_or, Int.not_le, Int.not_lt] at *
  simp_all

theorem flatMap_next {f : Nat → List UInt8} {L : List Nat} {j : Nat} (h : j < L.length) : (L.take (j + 1)).flatMap f = (L.take j).flatMap f ++ f (L.getD j 0) := by
  rw [List.take_succ_eq_append_getElem h, List.flatMap_append]
  simp [h]
theorem flatMap_len {f : Nat → List UInt8} {c : Nat} (hf : ∀ n, (f n).length ≤ c) (L : List Nat) (j : Nat) : ((L.take j).flatMap f).length ≤ c * L.length := by
  have h1 : ∀ M : List Nat, (M.flatMap f).length ≤ c * M.length := by
    intro M
    induction M with
    | nil => simp
    | cons a t ih => simp only [List.flatMap_cons, List.length_append, List.length_cons, Nat.mul_add]; have := hf a; omega
  exact Nat.le_trans (h1 _) (Nat.mul_le_mul_left _ (by simp; omega))

end Go.Proofs.Ytkhepehgafijfaa
