/- Walks of msg.whole and the reference's rest. Conditions: headers, texts that may be. -/
import Derived.Test.YtbnaicgomabigaaDoorMsCheck
import Derived.Test.YtbnaicgomabigaaDoorText
namespace Go.Proofs.YtbnaicgomabigaaDoor
open Go.RowKit
set_option linter.unusedVariables false

namespace Ms
theorem hdErr_len : ∀ {L : List Hd}, hdErr L = 0 → ∀ m ∈ L, m.1.length ≤ 32 ∧ m.2.length ≤ 64
  | [], _, m, hm => by simp at hm
  | x :: t, h, m, hm => by
    unfold hdErr at h
    split at h
    · cases h
    · rename_i h1
      split at h
      · cases h
      · rename_i h2
        rcases List.mem_cons.1 hm with rfl | hm
        · have a : nameOk m.1 = true := by simpa using h1
          have b : valueOk m.2 = true := by simpa using h2
          unfold nameOk at a
          unfold valueOk at b
          simp only [Bool.and_eq_true, decide_eq_true_eq] at a b
          omega
        · exact hdErr_len h m hm
/-- Headers that are short. -/
structure Short (L : List Hd) : Prop where
  n : L.length ≤ 16
  m : ∀ m ∈ L, m.1.length ≤ 32 ∧ m.2.length ≤ 64
theorem short_of {L : List Hd} (h : headsErr L = 0) : Short L := ⟨by have := (headsErr_zero h).1; omega, hdErr_len (headsErr_zero h).2⟩
def lines (L : List Hd) : List UInt8 := L.flatMap hdLine
theorem lines_next {L : List Hd} {j : Nat} (h : j < L.length) : lines (L.take (j + 1)) = lines (L.take j) ++ hdLine L[j] := by
  unfold lines
  rw [List.take_succ_eq_append_getElem h, List.flatMap_append]
  simp
theorem lines_len {L : List Hd} (h : ∀ m ∈ L, m.1.length ≤ 32 ∧ m.2.length ≤ 64) : (lines L).length ≤ 99 * L.length := by
  induction L with
  | nil => simp [lines]
  | cons x t ih =>
    have := ih fun m hm => h m (by simp [hm])
    have hx := h x (by simp)
    unfold lines at *
    simp only [List.flatMap_cons, List.length_append, List.length_cons, hdLine, List.length_nil] at *
    omega
theorem lines_take {L : List Hd} (h : Short L) (j : Nat) : (lines (L.take j)).length ≤ 1584 := by
  have h1 := lines_len (L := L.take j) fun m hm => h.m m (List.mem_of_mem_take hm)
  have h2 : (L.take j).length ≤ 16 := by have := h.n; simp; omega
  omega
end Ms

theorem info_u8t : (Tryd.prog.info? 5).map (fun i => (i.zero, i.size, i.bytes)) = some (some (.int .u8 0), 1, 1) := by kernel_rfl

set_option maxHeartbeats 1000000 in
set_option maxRecDepth 100000 in
theorem msWhole_any (f : List UInt8) (L : List Hd) (A : Option Addr) (cap : Nat) (b : List UInt8) (w : World) (hS : HdR w A cap L) (hL : Ms.Short L) (hf : f.length ≤ 200) (hb : b.length ≤ 200) :
    Calls Tryd.prog 66 #[.string (bs f), .slice A L.length cap, .string (bs b)] w fun e w' => e = .returned (.string (bs (Ms.whole f L b))) ∧ Below w.heap.size w w' := by
  have HS := Stow.mk hS
  have HL := Stow.mk hL
  have hLn := hL.n
  clear hS hL
  have HC0 : Stow (bs f ++ (⟨#[10]⟩ : ByteArray) = bs (f ++ [10])) := ⟨by rw [show (⟨#[10]⟩ : ByteArray) = bs [10] from rfl, bs_append]⟩
  go_enter Tryd.func66, Tryd.ntmps66
  go_wp2_with (refine wpList_bytes_frow _ w.heap.size rfl (.tmp 11) 9 111 5 rfl (f ++ [10]) Tryd.underlying9 Tryd.underlying111 Tryd.underlying5 (by show Value.string _ = _; rw [HC0.out]) (by simp; omega) (Nat.le_refl _) ?_; intro v1 w1 hr1 hb1)
  go_loopw [7, 15] (fun o c wr => ∃ j : Nat, c = .int .i64 (j : Int) ∧ j ≤ L.length ∧ FRow wr w.heap.size o (f ++ [10] ++ Ms.lines (L.take j)) ∧ Below w.heap.size w wr) (fun _ v _ => L.length - (intOf v).toNat)
  case atStart => exact ⟨0, rfl, by omega, by simpa [Ms.lines] using hr1, hb1⟩
  case round =>
    obtain ⟨j, rfl, hj, hrow, hbr⟩ := hrel
    have HLT := Stow.mk (Ms.lines_take HL.out j)
    have HLE : (Ms.lines (L.take j)).length ≤ 1584 := HLT.out
    by_cases hlt : j < L.length
    · obtain ⟨bb, off, rfl, hblt, _⟩ := HS.out.slr.open (by simp; omega)
      have hsp := head_at (HS.out.slr.keep hbr) hlt
      have hfm := HL.out.m _ (List.getElem_mem hlt)
      have hN := Ms.lines_next hlt
      obtain ⟨s, hs⟩ : ∃ s, L[j] = s := ⟨_, rfl⟩
      rw [hs] at hsp hfm hN
      clear hs
      obtain ⟨x, y⟩ := s
      obtain ⟨hltb, q0, q1⟩ := hsp
      simp only at q0 q1 hfm
      obtain ⟨hx, hy⟩ := hfm
      have HN := Stow.mk hN
      have hji : (j : Int) < L.length := by omega
      have HCX : Stow (bs x ++ (⟨#[58, 32]⟩ : ByteArray) ++ bs y ++ (⟨#[10]⟩ : ByteArray) = bs (Ms.hdLine (x, y))) := ⟨by
        rw [show (⟨#[58, 32]⟩ : ByteArray) = bs [58, 32] from rfl, show (⟨#[10]⟩ : ByteArray) = bs [10] from rfl, bs_append, bs_append, bs_append]
        simp [Ms.hdLine]⟩
      have HROW := Stow.mk (hrow.keep (Below.alloc' (Below.self wr) (.cells #[.string (bs x), .string (bs y)] 90)))
      have HBR := Stow.mk hbr
      have K4 : Stow (w.heap.size ≤ (wr.alloc (.cells #[.string (bs x), .string (bs y)] 90)).heap.size) := ⟨by have := hbr.size; simp; omega⟩
      have K5 : Stow ((f ++ [10] ++ Ms.lines (L.take j)).length + (Ms.hdLine (x, y)).length ≤ 140737488355328) := ⟨by simp [Ms.hdLine]; omega⟩
      clear hN hrow hbr
      go_wp2_with (at_builtin; refine wpList_append_frow HROW.out (Ms.hdLine (x, y)) rfl (.tmp 19) (.tmp 26) 111 9 5 rfl Tryd.underlying111 Tryd.underlying9 info_u8t rfl (by show Value.string _ = _; rw [HCX.out]) K5.out K4.out ?_; intro v4 w4 hr4 hb4)
      exact ⟨⟨j + 1, rfl, by omega, by rw [HN.out, ← List.append_assoc]; exact hr4, (Below.alloc' HBR.out _).trans hb4⟩, by simp [intOf]; omega⟩
    · obtain rfl : j = L.length := by omega
      rw [List.take_length] at hrow
      rw [List.take_length] at HLE
      have HCB : Stow ((⟨#[10]⟩ : ByteArray) ++ bs b = bs ([10] ++ b)) := ⟨by rw [show (⟨#[10]⟩ : ByteArray) = bs [10] from rfl, bs_append]⟩
      have HROW := Stow.mk hrow
      have HBR := Stow.mk hbr
      have K4 : Stow (w.heap.size ≤ wr.heap.size) := ⟨hbr.size⟩
      have K5 : Stow ((f ++ [10] ++ Ms.lines L).length + ([10] ++ b).length ≤ 140737488355328) := ⟨by simp; omega⟩
      have HT : Stow (f ++ [10] ++ Ms.lines L ++ ([10] ++ b) = Ms.whole f L b) := ⟨by simp [Ms.whole, Ms.rest, Ms.lines]⟩
      clear hrow hbr
      go_wp2_with (first
        | (at_builtin; refine wpList_append_frow HROW.out ([10] ++ b) rfl (.tmp 29) (.tmp 31) 111 9 5 rfl Tryd.underlying111 Tryd.underlying9 info_u8t rfl (by show Value.string _ = _; rw [HCB.out]) K5.out K4.out ?_; intro v4 w4 hr4 hb4)
        | (refine wpList_string_frow hr4 rfl (.tmp 32) 111 9 5 rfl Tryd.underlying111 Tryd.underlying5 Tryd.underlying9 rfl ?_))
      go_ret
      exact ⟨rfl, HBR.out.trans hb4⟩

set_option maxHeartbeats 1000000 in
set_option maxRecDepth 100000 in
theorem msRest_any (L : List Hd) (A : Option Addr) (cap : Nat) (b : List UInt8) (w : World) (hS : HdR w A cap L) (hL : Ms.Short L) (hb : b.length ≤ 200) :
    Calls Tryd.prog 67 #[.slice A L.length cap, .string (bs b)] w fun e w' => e = .returned (.string (bs (Ms.rest L b))) ∧ Below w.heap.size w w' := by
  have HS := Stow.mk hS
  have HL := Stow.mk hL
  have hLn := hL.n
  clear hS hL
  go_enter Tryd.func67, Tryd.ntmps67
  go_wp2_with fail
  go_loopw [5, 6] (fun o c wr => ∃ j : Nat, o = .string (bs (Ms.lines (L.take j))) ∧ c = .int .i64 (j : Int) ∧ j ≤ L.length ∧ Below w.heap.size w wr) (fun _ v _ => L.length - (intOf v).toNat)
  case atStart => exact ⟨0, by simp [Ms.lines]; rfl, rfl, by omega, Below.self _⟩
  case round =>
    obtain ⟨j, rfl, rfl, hj, hbr⟩ := hrel
    have HLT := Stow.mk (Ms.lines_take HL.out j)
    have HLE : (Ms.lines (L.take j)).length ≤ 1584 := HLT.out
    by_cases hlt : j < L.length
    · obtain ⟨bb, off, rfl, hblt, _⟩ := HS.out.slr.open (by simp; omega)
      have hsp := head_at (HS.out.slr.keep hbr) hlt
      have hfm := HL.out.m _ (List.getElem_mem hlt)
      have hN := Ms.lines_next hlt
      obtain ⟨s, hs⟩ : ∃ s, L[j] = s := ⟨_, rfl⟩
      rw [hs] at hsp hfm hN
      clear hs
      obtain ⟨x, y⟩ := s
      obtain ⟨hltb, q0, q1⟩ := hsp
      simp only at q0 q1 hfm
      obtain ⟨hx, hy⟩ := hfm
      have hji : (j : Int) < L.length := by omega
      have HN : Stow (Ms.lines (L.take (j + 1)) = Ms.lines (L.take j) ++ x ++ [58, 32] ++ y ++ [10]) := ⟨by rw [hN]; simp [Ms.hdLine]⟩
      have HBR := Stow.mk hbr
      clear hN hbr
      generalize Ms.lines (L.take j) = acc at *
      go_wp2_with fail
      go_quiet (fail)
      go_wp2_with fail
      exact ⟨⟨j + 1, by rw [HN.out, ← bs_append, ← bs_append, ← bs_append, ← bs_append]; rfl, rfl, by omega, Below.drewN' HBR.out _⟩, by simp [intOf]; omega⟩
    · obtain rfl : j = L.length := by omega
      rw [List.take_length]
      rw [List.take_length] at HLE
      have HT : Stow (Ms.rest L b = Ms.lines L ++ [10] ++ b) := ⟨by simp [Ms.rest, Ms.lines]⟩
      generalize Ms.lines L = acc at *
      go_wp2_with fail
      go_ret
      exact ⟨by rw [HT.out, ← bs_append, ← bs_append]; rfl, hbr⟩
end Go.Proofs.YtbnaicgomabigaaDoor
