/- Walks of tstate.Write and the reference's. Conditions: a slice's own; texts no longer than an int can say. -/
import Derived.Test.YtfbhdkkmcfnghaaGreatDoorTsPut
import Derived.Test.YtfbhdkkmcfnghaaGreatDoorTsLib
import Derived.Test.YtfbhdkkmcfnghaaGreatDoorHeadRef
namespace Go.Proofs.YtfbhdkkmcfnghaaGreatDoor
open Go.RowKit
set_option linter.unusedVariables false

theorem Ts.text_len {L : List Hd} (h : ∀ m ∈ L, m.1.length ≤ 32 ∧ m.2.length ≤ 64) : (Ts.text L).length ≤ 98 * L.length := by
  cases L with
  | nil => simp [Ts.text]
  | cons m t =>
    have hm := h m (by simp)
    have ht : (t.flatMap fun x => 44 :: Ts.word x).length ≤ 98 * t.length := by
      have h' : ∀ x ∈ t, x.1.length ≤ 32 ∧ x.2.length ≤ 64 := fun x hx => h x (by simp [hx])
      clear h hm
      induction t with
      | nil => simp
      | cons x t ih =>
        have := ih fun y hy => h' y (by simp [hy])
        have hx := h' x (by simp)
        simp only [List.flatMap_cons, List.length_append, List.length_cons, Ts.word] at *
        omega
    simp only [Ts.text, Ts.word, List.length_append, List.length_cons] at *
    omega
theorem Ts.text_len0 {L : List Hd} (h : Ts.check L = 0) : (Ts.text L).length ≤ 98 * L.length ∧ L.length ≤ 32 ∧ ∀ m ∈ L, m.1.length ≤ 32 ∧ m.2.length ≤ 64 := by
  have hc := Ts.check_iff.1 h
  have hm : ∀ m ∈ L, m.1.length ≤ 32 ∧ m.2.length ≤ 64 := fun m hm => ⟨(Ts.keyOk_any (hc.1 m hm).1).2.1, (Ts.valOk_any (hc.1 m hm).2).2.1⟩
  exact ⟨Ts.text_len hm, hc.2.2, hm⟩
theorem Ts.write_bad {L : List Hd} (h : Ts.check L ≠ 0) : Ts.write L = ([], Ts.check L) := by
  unfold Ts.write
  rw [if_pos h]
theorem Ts.write_good {L : List Hd} (h : Ts.check L = 0) : Ts.write L = (Ts.text L, 0) := by
  unfold Ts.write
  rw [if_neg (by omega)]
set_option maxHeartbeats 1000000 in
set_option maxRecDepth 100000 in
theorem tsWrite_any (A : Option Addr) (cap : Nat) (L : List Hd) (w : World) (hS : SlR w 2 (.slice A L.length cap) (L.map Hd.cells)) (hf : ∀ m ∈ L, Hd.fits m) :
    Calls Tryz.prog 76 #[.slice A L.length cap] w fun e w' => e = .returned (.tuple #[.string (bs (Ts.write L).1), .int .i64 ((Ts.write L).2 : Nat)]) ∧ Below w.heap.size w w' := by
  have HS := Stow.mk hS
  have HF := Stow.mk hf
  have hlen := hS.len
  simp only [List.length_map] at hlen
  clear hS hf
  obtain ⟨r, hr⟩ : ∃ r, Ts.check L = r := ⟨_, rfl⟩
  have HR := Stow.mk hr
  clear hr
  by_cases hr0 : r = 0
  rotate_left
  · have hrn : ((r : Int) != 0) = true := by simp; omega
    have HW := Stow.mk (Ts.write_bad (L := L) (by rw [HR.out]; exact hr0))
    go_enter Tryz.func76, Tryz.ntmps76
    go_wp2_with fail
    refine (tsCheck_any A cap L _ HS.out HF.out).mono ?_
    rw [HR.out]
    rintro e w1 ⟨rfl, hb1⟩
    go_wp2_with fail
    go_ret2
    exact ⟨by rw [HW.out, HR.out]; rfl, hb1⟩
  subst hr0
  have HW := Stow.mk (Ts.write_good HR.out)
  have HT := Stow.mk (Ts.text_len0 HR.out)
  go_enter Tryz.func76, Tryz.ntmps76
  go_wp2_with fail
  refine (tsCheck_any A cap L _ HS.out HF.out).mono ?_
  rw [HR.out]
  rintro e w1 ⟨rfl, hb1⟩
  have HB1 := Stow.mk hb1
  clear hb1
  go_wp2_with fail
  go_loopw [5, 15] (fun o c wr => ∃ j cp A, o = .slice A ((L.take j).map Ts.word).length cp ∧ c = .int .i64 (j : Nat) ∧ j ≤ L.length ∧ TRow wr w.heap.size o ((L.take j).map Ts.word) ∧ Below w.heap.size w wr) (fun _ v _ => L.length - (intOf v).toNat)
  case atStart => exact ⟨0, 0, none, rfl, rfl, by omega, World.ownsRow_nil _ _ _ _, HB1.out⟩
  case round =>
    obtain ⟨j, cp, A1, rfl, rfl, hj, hown, hbr⟩ := hrel
    by_cases hlt : j < L.length
    · obtain ⟨b, off, rfl, hblt, _⟩ := HS.out.open (by simp; omega)
      have hsp := head_at (HS.out.keep hbr) hlt
      have hff := HT.out.2.2 _ (List.getElem_mem hlt)
      have hLn := HT.out.2.1
      obtain ⟨s, hs⟩ : ∃ s, L[j] = s := ⟨_, rfl⟩
      have HN : Stow ((L.take (j + 1)).map Ts.word = (L.take j).map Ts.word ++ [Ts.word s]) := ⟨by rw [List.take_succ_eq_append_getElem hlt, List.map_append, ← hs]; rfl⟩
      have hal : ((L.take j).map Ts.word).length ≤ 32 := by simp; omega
      rw [hs] at hsp hff
      clear hs
      obtain ⟨x, y⟩ := s
      obtain ⟨hltb, q0, q1⟩ := hsp
      simp only at q0 q1 hff
      obtain ⟨hx, hy⟩ := hff
      generalize (L.take j).map Ts.word = acc at *
      have HO := Stow.mk (own_kept hown (Below.alloc' (Below.self wr) (.cells #[.string (bs x), .string (bs y)] 121)))
      have HBR := Stow.mk hbr
      clear hbr hown
      have K2 : Stow ((acc.length + 1) * 16 ≤ 140737488355328) := ⟨by omega⟩
      have K3 : Stow (acc.length + 1 ≤ maxLen) := ⟨by unfold maxLen; omega⟩
      have K4 : Stow (w.heap.size ≤ (wr.alloc (.cells #[.string (bs x), .string (bs y)] 121)).heap.size) := ⟨by have := HBR.out.size; simp; omega⟩
      go_wp2_with (at_builtin; refine wpList_append_elem_form _ _ _ rfl (.tmp 19) (.tmp 26) 38 rfl w.heap.size 9 _ 1 16 Tryz.underlying38 info_string _ _ _ HO.out rfl _ rfl (by simp) rfl (by decide) rfl (by intro u hu; simp at hu; subst hu; rfl) K2.out K3.out K4.out ?_; intro A4 cap4 w4 hown4 hg4 hb4 hs4)
      have hcat : bs x ++ (⟨#[61]⟩ : ByteArray) ++ bs y = bs (Ts.word (x, y)) := by
        rw [show (⟨#[61]⟩ : ByteArray) = bs [61] from rfl, bs_append, bs_append]
        simp [Ts.word]
      rw [hcat] at hown4
      exact ⟨⟨j + 1, cap4, A4, by rw [HN.out, List.length_append]; rfl, rfl, by omega, by rw [HN.out]; simpa [TRow] using hown4, (Below.alloc' HBR.out _).trans hb4⟩, by simp [intOf]; omega⟩
    · obtain rfl : j = L.length := by omega
      have hll : ((L.take L.length).map Ts.word).length = L.length := by simp
      have HO : Stow (SlR wr 1 (.slice A1 L.length cp) (L.map fun m => [Value.string (bs (Ts.word m))])) := ⟨by
        have := trow_slr hown
        rw [List.take_length, List.map_map, List.length_map] at this
        exact this⟩
      have HBR := Stow.mk hbr
      rw [hll]
      clear hown hbr hll
      go_wp2_with fail
      refine (tsJoin_lib L A1 cp _ HO.out (by have := HT.out; omega) (by have := HT.out; omega)).mono ?_
      rintro e w4 ⟨rfl, hb4⟩
      go_wp2_with fail
      go_ret2
      exact ⟨by rw [HW.out]; rfl, Below.call HBR.out hb4⟩

set_option maxHeartbeats 1000000 in
set_option maxRecDepth 100000 in
theorem tsRefWrite_any (A : Option Addr) (cap : Nat) (L : List Hd) (w : World) (hS : SlR w 2 (.slice A L.length cap) (L.map Hd.cells)) (hf : ∀ m ∈ L, Hd.fits m) :
    Calls Tryz.prog 41 #[.slice A L.length cap] w fun e w' => e = .returned (.tuple #[.string (bs (Ts.write L).1), .int .i64 ((Ts.write L).2 : Nat)]) ∧ Below w.heap.size w w' := by
  have HS := Stow.mk hS
  have HF := Stow.mk hf
  have hlen := hS.len
  simp only [List.length_map] at hlen
  clear hS hf
  obtain ⟨r, hr⟩ : ∃ r, Ts.check L = r := ⟨_, rfl⟩
  have HR := Stow.mk hr
  clear hr
  by_cases hr0 : r = 0
  rotate_left
  · have hrn : ((r : Int) != 0) = true := by simp; omega
    have HW := Stow.mk (Ts.write_bad (L := L) (by rw [HR.out]; exact hr0))
    go_enter Tryz.func41, Tryz.ntmps41
    go_wp2_with fail
    refine (tsRefCheck_any A cap L _ HS.out HF.out).mono ?_
    rw [HR.out]
    rintro e w1 ⟨rfl, hb1⟩
    go_wp2_with fail
    refine (tsRefCheck_any A cap L _ (HS.out.keep hb1) HF.out).mono ?_
    rw [HR.out]
    rintro e w2 ⟨rfl, hb2⟩
    go_wp2_with fail
    go_ret2
    exact ⟨by rw [HW.out, HR.out]; rfl, Below.call hb1 hb2⟩
  subst hr0
  have HW := Stow.mk (Ts.write_good HR.out)
  have HT := Stow.mk (Ts.text_len0 HR.out)
  go_enter Tryz.func41, Tryz.ntmps41
  go_wp2_with fail
  refine (tsRefCheck_any A cap L _ HS.out HF.out).mono ?_
  rw [HR.out]
  rintro e w1 ⟨rfl, hb1⟩
  have HB1 := Stow.mk hb1
  clear hb1
  go_wp2_with fail
  go_loopw [4, 5] (fun o c wr => ∃ j, o = .string (bs (Ts.text (L.take j))) ∧ c = .int .i64 (j : Nat) ∧ j ≤ L.length ∧ Below w.heap.size w wr) (fun _ v _ => L.length - (intOf v).toNat)
  case atStart => exact ⟨0, rfl, rfl, by omega, HB1.out⟩
  case round =>
    obtain ⟨j, rfl, rfl, hj, hbr⟩ := hrel
    by_cases hlt : j < L.length
    · obtain ⟨b, off, rfl, hblt, _⟩ := HS.out.open (by simp; omega)
      have hsp := head_at (HS.out.keep hbr) hlt
      have hff := HT.out.2.2 _ (List.getElem_mem hlt)
      have hLn := HT.out.2.1
      have hal := Ts.text_len (L := L.take j) (fun m hm => HT.out.2.2 m (List.mem_of_mem_take hm))
      have hal2 : (Ts.text (L.take j)).length ≤ 4000 := by simp only [List.length_take] at hal; omega
      have hnx := Ts.text_next hlt
      obtain ⟨s, hs⟩ : ∃ s, L[j] = s := ⟨_, rfl⟩
      rw [hs] at hsp hff hnx
      have HN := Stow.mk hnx
      clear hs hnx hal
      obtain ⟨x, y⟩ := s
      obtain ⟨hltb, q0, q1⟩ := hsp
      simp only at q0 q1 hff
      obtain ⟨hx, hy⟩ := hff
      have hji : (j : Int) < L.length := by omega
      by_cases hj0 : j = 0
      · have hz : ¬ (0 : Int) < (j : Int) := by omega
        have HN2 : Stow (Ts.text (L.take (j + 1)) = Ts.text (L.take j) ++ x ++ [61] ++ y) := ⟨by rw [HN.out, if_neg (by omega)]; simp [Ts.word]⟩
        generalize Ts.text (L.take j) = acc at *
        clear HN
        subst hj0
        simp only [Nat.zero_mul, Nat.add_zero] at q0 q1
        go_wp2_with fail
        go_quiet (fail)
        go_wp2_with fail
        exact ⟨⟨0 + 1, by rw [HN2.out, ← bs_append, ← bs_append, ← bs_append]; rfl, rfl, by omega, Below.drewN' hbr _⟩, by simp [intOf]; omega⟩
      · have hz : (0 : Int) < (j : Int) := by omega
        have HN2 : Stow (Ts.text (L.take (j + 1)) = Ts.text (L.take j) ++ [44] ++ x ++ [61] ++ y) := ⟨by rw [HN.out, if_pos (by omega)]; simp [Ts.word]⟩
        generalize Ts.text (L.take j) = acc at *
        clear HN
        go_wp2_with fail
        go_quiet (fail)
        go_wp2_with fail
        exact ⟨⟨j + 1, by rw [HN2.out, ← bs_append, ← bs_append, ← bs_append, ← bs_append]; rfl, rfl, by omega, Below.drewN' hbr _⟩, by simp [intOf]; omega⟩
    · obtain rfl : j = L.length := by omega
      rw [List.take_length]
      go_wp2_with fail
      go_ret2
      exact ⟨by rw [HW.out]; rfl, hbr⟩
end Go.Proofs.YtfbhdkkmcfnghaaGreatDoor
