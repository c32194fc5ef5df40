/- strings.Split, Trim, Cut, Join at a tracestate's own separators, by the shelf's contracts. Conditions: texts not too long; a variable of the library's holds an int. -/
import Derived.Test.YtfbhdkkmcfnghaaGreatDoorTsLaw
import Derived.Test.YtfbhdkkmcfnghaaGreatDoorShelfS
namespace Go.Proofs.YtfbhdkkmcfnghaaGreatDoor
open Go.RowKit
set_option linter.unusedVariables false

/-- internal/bytealg.MaxLen holds some int. -/
def MaxIs (w : World) : Prop := ∃ m : Int, w.cell? ⟨0, 0, none⟩ = some (.int .i64 m)
theorem MaxIs.keep {w w' : World} (h : MaxIs w) (hb : Below w.heap.size w w') : MaxIs w' := by
  obtain ⟨m, hm⟩ := h
  have h0 : 0 < w.heap.size := block_lt_of_cell hm
  exact ⟨m, (hb.cell (p := ⟨0, 0, none⟩) h0).trans hm⟩

theorem bs_mk (s : ByteArray) : bs s.data.toList = s := by
  obtain ⟨a, rfl⟩ := bs_of s
  rfl
theorem bs_list {X : List ByteArray} {Y : List (List UInt8)} (h : X.map (·.data.toList) = Y) : X = Y.map bs := by
  subst h
  induction X with
  | nil => rfl
  | cons x t ih => simp only [List.map_cons]; rw [bs_mk, ← ih]

theorem Ts.split_bytes (l : List UInt8) : Lib.splitB (bs [44]) 0 (Lib.countB (bs l) (bs [44])) (bs l) = (Ts.pieces 44 l).map bs := by
  refine bs_list ?_
  rw [Lib.splitB_data]
  exact Ts.split_pieces 44 l

theorem tsSplit_lib (l : List UInt8) (w : World) (hl : l.length < 4294967281) (hm : MaxIs w) :
    Calls Tryz.prog 66 #[.string (bs l), .string ⟨#[44]⟩] w fun e w' => e = .returned (.slice (some ⟨w.heap.size, 0, none⟩) (Ts.pieces 44 l).length (Ts.pieces 44 l).length) ∧ w' = w.alloc (.cells ((Ts.pieces 44 l).map fun p => Value.string (bs p)).toArray 9) := by
  obtain ⟨m, hm⟩ := hm
  have hn : Lib.countB (bs l) (bs [44]) + 1 = (Ts.pieces 44 l).length := by
    rw [← Lib.splitB_all (bs [44]) (by rw [bs_size]; simp) 0 _ (bs l) rfl, Ts.split_bytes, List.length_map]
  have h := Tryz.strings_Split (bs l) (bs [44]) m w (by rw [bs_size]; exact hl) hm (by rw [bs_size]; simp)
  rw [hn, Ts.split_bytes, List.map_map] at h
  exact h

theorem tsCut_lib (l : List UInt8) (w : World) (hl : l.length < 4294967281) (hm : MaxIs w) :
    Calls Tryz.prog 128 #[.string (bs l), .string ⟨#[61]⟩] w fun e w' => e = .returned (.tuple #[.string (bs ((Ts.cutEq l).getD (l, [])).1), .string (bs ((Ts.cutEq l).getD (l, [])).2), .bool (Ts.cutEq l).isSome]) ∧ Below w.heap.size w w' := by
  obtain ⟨m, hm⟩ := hm
  have h := Tryz.strings_Cut (bs l) (bs [61]) m w (by rw [bs_size]; exact hl) hm
  have e := Ts.cut_lib l
  rw [show (bs l).data.toList = l from rfl, show (bs [61]).data.toList = [61] from rfl, e] at h
  refine h.mono ?_
  rintro e w' ⟨rfl, n, rfl⟩
  refine ⟨?_, Below.drewN' (Below.self _) _⟩
  unfold Ts.cutEq
  by_cases hm : (61 : UInt8) ∈ l
  · simp only [if_pos hm]; rfl
  · simp only [if_neg hm]; rfl

theorem tsTrim_lib (l : List UInt8) (w : World) (hl : l.length ≤ 9223372036854775807) :
    Calls Tryz.prog 127 #[.string (bs l), .string ⟨#[32, 9]⟩] w fun e w' => e = .returned (.string (bs (Ts.trim l))) ∧ Below w.heap.size w w' := by
  have h := Any.strings_Trim_laid Tryz.lays160 (by kernel_rfl) (bs l) (bs [32, 9]) w (by rw [bs_size]; exact hl) (by rw [bs_size]; simp) (ascii_of_all (by decide))
  rw [show (bs l).data.toList = l from rfl, show (bs [32, 9]).data.toList = [32, 9] from rfl, Ts.trim_lib] at h
  exact h

theorem Ts.text_join (L : List Hd) : Lib.join (L.map Ts.word) [44] = Ts.text L := by
  cases L with
  | nil => rfl
  | cons m t =>
    rw [List.map_cons, Lib.join_cons]
    unfold Ts.text Lib.joinTail
    congr 1
    induction t with
    | nil => rfl
    | cons x t ih => rw [List.map_cons, List.map_cons, List.flatten_cons, ih]; rfl

theorem tsJoin_lib (L : List Hd) (A : Option Addr) (c : Nat) (w : World) (hS : SlR w 1 (.slice A L.length c) (L.map fun m => [Value.string (bs (Ts.word m))])) (hn : L.length ≤ 140737488355328) (hb : (Ts.text L).length ≤ 140737488355328) :
    Calls Tryz.prog 110 #[.slice A L.length c, .string ⟨#[44]⟩] w fun e w' => e = .returned (.string (bs (Ts.text L))) ∧ Below w.heap.size w w' := by
  by_cases h0 : L.length = 0
  · obtain rfl := List.eq_nil_of_length_eq_zero h0
    refine (Any.strings_Join_none Tryz.lays156 Tryz.Builder_Extra_156 A c (bs [44]) w).mono ?_
    rintro e w' ⟨rfl, rfl⟩
    exact ⟨rfl, Below.self _⟩
  obtain ⟨b, off, rfl, hblt, hc⟩ := hS.open (by simp; omega)
  have hcap : L.length ≤ c := by
    obtain ⟨A', cap', hv, h1, _⟩ := hS
    simp only [Value.slice.injEq] at hv
    obtain ⟨_, hv1, rfl⟩ := hv
    rw [List.length_map] at h1
    exact h1
  have e2 : ((L.map fun m => bs (Ts.word m)).map (·.data.toList)) = L.map Ts.word := by rw [List.map_map]; rfl
  have h := Tryz.strings_Join b off c (L.map fun m => bs (Ts.word m)) (bs [44]) w (fun j x hj => by
    rw [List.getElem?_map] at hj
    obtain ⟨m, hm, rfl⟩ := Option.map_eq_some_iff.1 hj
    have := hc j [Value.string (bs (Ts.word m))] (by rw [List.getElem?_map, hm]; rfl) 0 _ rfl
    simpa using this) hblt (by rw [List.length_map]; exact hn) (by rw [List.length_map]; exact hcap) (by
    rw [e2, show (bs [44]).data.toList = [44] from rfl, Ts.text_join]; exact hb)
  rw [e2, show (bs [44]).data.toList = [44] from rfl, Ts.text_join, List.length_map] at h
  exact h
end Go.Proofs.YtfbhdkkmcfnghaaGreatDoor
