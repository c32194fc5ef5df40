/- The library's contracts that format calls, at texts as lists: Index of a sign, CutPrefix, CutSuffix, ReplaceAll, Join. Conditions: texts no longer than 2^31; a variable of the library's holds an int. -/
import Derived.Test.YtmknemnpjjcdbaaDoorFmRow
import Derived.Test.YtmknemnpjjcdbaaDoorShelf
import Derived.Lib.IndexBytes
import Derived.Lib.SplitLaws
import Derived.Lib.Replace
import Derived.Lib.Join
namespace Go.Proofs.YtmknemnpjjcdbaaDoor
open Go.RowKit
set_option linter.unusedVariables false

/-- The library's variable MaxLen holds an int. -/
def MaxIs (w : World) : Prop := ∃ m : Int, w.cell? ⟨0, 0, none⟩ = some (.int .i64 m)
theorem MaxIs.keep {w w' : World} (h : MaxIs w) (hb : Below w.heap.size w w') : MaxIs w' := by
  obtain ⟨m, hm⟩ := h
  have h0 : 0 < w.heap.size := World.block_lt_of_cell? w ⟨0, 0, none⟩ hm
  exact ⟨m, (hb.cell (p := ⟨0, 0, none⟩) h0).trans hm⟩
namespace Fm
theorem ix_nil (c : UInt8) : Lib.index [] [c] = -1 := by rw [Lib.index_one]; rfl
theorem ix_eq (c : UInt8) (t : List UInt8) : Lib.index (c :: t) [c] = 0 := by rw [Lib.index_one]; simp [Lib.indexByte]
theorem ix_ne {b c : UInt8} (t : List UInt8) (h : b ≠ c) : Lib.index (b :: t) [c] = if Lib.index t [c] = -1 then -1 else Lib.index t [c] + 1 := by
  rw [Lib.index_one, Lib.index_one, Lib.indexByte, if_neg (by simpa using h)]
  simp only [beq_iff_eq]
theorem index_sign : ∀ l : List UInt8, (Lib.index l [37] = -1 ∧ 37 ∉ l) ∨ ∃ i : Nat, Lib.index l [37] = i ∧ i < l.length ∧ 37 ∉ l.take i ∧ l = l.take i ++ 37 :: l.drop (i + 1)
  | [] => .inl ⟨ix_nil 37, by simp⟩
  | b :: t => by
    by_cases hb : b = 37
    · subst hb
      exact .inr ⟨0, ix_eq 37 t, by simp, by simp, by simp⟩
    · rcases index_sign t with ⟨h1, h2⟩ | ⟨i, h1, h2, h3, h4⟩
      · left
        rw [ix_ne t hb, if_pos h1]
        exact ⟨rfl, by intro h; rcases List.mem_cons.1 h with h | h; exact hb h.symm; exact h2 h⟩
      · right
        refine ⟨i + 1, ?_, by simp; omega, ?_, ?_⟩
        · rw [ix_ne t hb, if_neg (by omega), h1]; rfl
        · intro h; rw [List.take_succ_cons] at h; rcases List.mem_cons.1 h with h | h
          · exact hb h.symm
          · exact h3 h
        · rw [List.take_succ_cons, List.drop_succ_cons, List.cons_append, ← h4]
theorem replaceK_ne {b : UInt8} (hb : b ≠ 37) (k : Nat) (t : List UInt8) : Lib.replaceK [37] [37, 37] k (b :: t) = b :: Lib.replaceK [37] [37, 37] k t := by
  cases k with
  | zero => rfl
  | succ k =>
    rcases index_sign t with ⟨h1, _⟩ | ⟨i, h1, _⟩
    · have h2 : Lib.index (b :: t) [37] = -1 := by rw [ix_ne t hb, if_pos h1]
      unfold Lib.replaceK
      rw [h1, h2]
      rfl
    · have h2 : Lib.index (b :: t) [37] = ((i + 1 : Nat) : Int) := by rw [ix_ne t hb, if_neg (by omega), h1]; rfl
      rw [Lib.replaceK_hit _ _ _ _ _ h1, Lib.replaceK_hit _ _ _ _ _ h2]
      rfl
theorem replaceK_esc : ∀ t : List UInt8, Lib.replaceK [37] [37, 37] (Lib.count t [37]) t = esc t
  | [] => by
    have : Lib.count [] [37] = 0 := Lib.count_miss (ix_nil 37)
    rw [this]; rfl
  | b :: t => by
    by_cases hb : b = 37
    · subst hb
      rw [Lib.count_cons_eq, Nat.add_comm, Lib.replaceK_hit _ _ _ _ 0 (ix_eq 37 t)]
      have := replaceK_esc t
      simp [esc] at this ⊢
      exact this
    · rw [Lib.count_cons_ne b 37 t hb, replaceK_ne hb, replaceK_esc t]
      simp [esc, hb]
theorem esc_lib (t : List UInt8) : Lib.replaceAll t [37] [37, 37] = esc t := by
  unfold Lib.replaceAll Lib.replace Lib.replaceNum
  rw [if_neg (by decide), if_pos (by left; decide)]
  exact replaceK_esc t
theorem join_flat : ∀ P : List (List UInt8), Lib.join P [] = P.flatten
  | [] => rfl
  | x :: r => by
    rw [Lib.join_cons]
    simp [Lib.joinTail]
theorem cut_req (s : List UInt8) : Lib.hasPrefix s req = (s.take 4 == req) := by
  unfold Lib.hasPrefix req
  match s with
  | [] => rfl
  | [a] => simp [List.isPrefixOf]
  | [a, b] => simp [List.isPrefixOf]
  | [a, b, c] => simp [List.isPrefixOf]
  | a :: b :: c :: d :: t => simp only [List.isPrefixOf, List.take_succ_cons, List.take_zero]; simp; rw [show (a == 82) = (82 == a) from BEq.comm, show (b == 69) = (69 == b) from BEq.comm, show (c == 81) = (81 == c) from BEq.comm, show (d == 40) = (40 == d) from BEq.comm]
theorem cut_close (s : List UInt8) : Lib.hasSuffix s [41] = (s.getLast? == some 41) := by
  unfold Lib.hasSuffix
  rcases List.eq_nil_or_concat s with h | ⟨t, b, h⟩
  · subst h; rfl
  · subst h
    rw [List.isSuffixOf, List.concat_eq_append, List.reverse_append, List.getLast?_append]
    simp [List.isPrefixOf]
    exact BEq.comm
end Fm

theorem fmIndex_lib (l : List UInt8) (w : World) (hl : l.length < 4294967281) (hm : MaxIs w) : Calls Tryd.prog 25 #[.string (bs l), .string ⟨#[37]⟩] w fun e w' => e = .returned (.int .i64 (Lib.index l [37])) ∧ w' = w := by
  obtain ⟨m, h⟩ := hm
  exact Tryd.strings_Index (bs l) ⟨#[37]⟩ m w hl h
theorem fmPrefix_lib (l : List UInt8) (w : World) : Calls Tryd.prog 38 #[.string (bs l), .string ⟨#[82, 69, 81, 40]⟩] w fun e w' => e = .returned (.tuple #[.string (bs (if (l.take 4 == Fm.req) = true then l.drop 4 else l)), .bool (l.take 4 == Fm.req)]) ∧ w' = w := by
  have h := Tryd.strings_CutPrefix (bs l) ⟨#[82, 69, 81, 40]⟩ w
  have e : (bs l).data.toList = l := rfl
  rw [e, show (⟨#[82, 69, 81, 40]⟩ : ByteArray).data.toList = Fm.req from rfl] at h
  unfold Lib.trimPrefix at h
  rw [Fm.cut_req] at h
  exact h
theorem fmSuffix_lib (l : List UInt8) (w : World) (hl : l.length ≤ 9223372036854775807) : Calls Tryd.prog 39 #[.string (bs l), .string ⟨#[41]⟩] w fun e w' => e = .returned (.tuple #[.string (bs (if (l.getLast? == some 41) = true then l.dropLast else l)), .bool (l.getLast? == some 41)]) ∧ w' = w := by
  have h := Tryd.strings_CutSuffix (bs l) ⟨#[41]⟩ w hl
  have e : (bs l).data.toList = l := rfl
  rw [e, show (⟨#[41]⟩ : ByteArray).data.toList = [41] from rfl] at h
  unfold Lib.trimSuffix at h
  rw [Fm.cut_close, show l.take (l.length - [(41 : UInt8)].length) = l.dropLast from (List.dropLast_eq_take).symm] at h
  exact h
theorem fmReplace_lib (l : List UInt8) (w : World) (hl : l.length ≤ 2147483647) (hm : MaxIs w) : Calls Tryd.prog 23 #[.string (bs l), .string ⟨#[37]⟩, .string ⟨#[37, 37]⟩] w fun e w' => e = .returned (.string (bs (Fm.esc l))) ∧ Below w.heap.size w w' := by
  obtain ⟨m, hh⟩ := hm
  have hc : Lib.countB (bs l) ⟨#[37]⟩ ≤ l.length := by
    show Lib.count l [37] ≤ l.length
    rw [Lib.count_one]
    exact List.count_le_length
  have h := Tryd.strings_ReplaceAll (bs l) ⟨#[37]⟩ ⟨#[37, 37]⟩ m w (by show l.length < 4294967281; omega) hh (by decide) (by show l.length + Lib.countB (bs l) ⟨#[37]⟩ * 2 ≤ 140737488355328; omega)
  have e : (bs l).data.toList = l := rfl
  rw [e, show (⟨#[37]⟩ : ByteArray).data.toList = [37] from rfl, show (⟨#[37, 37]⟩ : ByteArray).data.toList = [37, 37] from rfl, Fm.esc_lib] at h
  exact h
end Go.Proofs.YtmknemnpjjcdbaaDoor
