/- Walks of the reference's words, Write, Cut. Conditions: texts no longer than an address space; an int. -/
import Derived.Test.YtbnaicgomabigaaDoorPgWrite
import Derived.Test.YtbnaicgomabigaaDoorItoa
import Derived.Deep.RegionWith
namespace Go.Proofs.YtbnaicgomabigaaDoor
open Go.RowKit
set_option linter.unusedVariables false

namespace Pg
def wordN (m : Nat) : List UInt8 := if m = 0 then [] else word m
theorem cut_at {l : List UInt8} {i : Nat} (h : i < l.length) (ha : ∀ b ∈ l.take i, b ≠ 32) (he : l[i] = 32) : cut l = (l.take i, l.drop (i + 1)) := by
  have e : l = l.take i ++ 32 :: l.drop (i + 1) := by
    conv => lhs; rw [← List.take_append_drop i l, List.drop_eq_getElem_cons h, he]
  conv => lhs; rw [e]
  exact cut_app ha
theorem cut_len (l : List UInt8) : (cut l).1.length ≤ l.length ∧ (cut l).2.length ≤ l.length := by
  rcases cut_back l with ⟨h1, h2⟩ | h
  · constructor
    · rw [← h1]; exact Nat.le_refl _
    · rw [h2]; simp
  · have := congrArg List.length h
    simp at this
    omega
end Pg

set_option maxHeartbeats 1000000 in
set_option maxRecDepth 100000 in
theorem pgWords_any (w : World) : Calls Tryd.prog 50 #[] w fun e w' => ∃ g, e = .returned (.slice (some ⟨g, 0, none⟩) 8 8) ∧ g < w'.heap.size ∧ w.heap.size ≤ g ∧ (∀ m : Nat, m ≤ 7 → w'.cell? ⟨g, m, none⟩ = some (.string (bs (Pg.wordN m)))) ∧ Below w.heap.size w w' := by
  have HC : Stow (∀ m : Nat, m ≤ 7 → (w.alloc (.cells #[.string ⟨#[]⟩, .string ⟨#[115, 97, 121]⟩, .string ⟨#[103, 101, 116]⟩, .string ⟨#[112, 117, 116]⟩, .string ⟨#[104, 101, 97, 100]⟩, .string ⟨#[98, 111, 100, 121]⟩, .string ⟨#[99, 97, 108, 108]⟩, .string ⟨#[115, 116, 97, 116, 117, 115]⟩] 9)).cell? ⟨w.heap.size, m, none⟩ = some (.string (bs (Pg.wordN m)))) := ⟨by
    intro m hm
    have h := Held.made w [.string ⟨#[]⟩, .string ⟨#[115, 97, 121]⟩, .string ⟨#[103, 101, 116]⟩, .string ⟨#[112, 117, 116]⟩, .string ⟨#[104, 101, 97, 100]⟩, .string ⟨#[98, 111, 100, 121]⟩, .string ⟨#[99, 97, 108, 108]⟩, .string ⟨#[115, 116, 97, 116, 117, 115]⟩] 9
    have hc : m = 0 ∨ m = 1 ∨ m = 2 ∨ m = 3 ∨ m = 4 ∨ m = 5 ∨ m = 6 ∨ m = 7 := by omega
    rcases hc with rfl | rfl | rfl | rfl | rfl | rfl | rfl | rfl <;> exact h.cell rfl⟩
  go_enter Tryd.func50, Tryd.ntmps50
  go_wp2_with fail
  go_ret
  exact ⟨_, rfl, by simp, Nat.le_refl _, HC.out, Below.alloc' (Below.self _) _⟩

set_option maxHeartbeats 400000 in
set_option maxRecDepth 100000 in
theorem pgRefCut_any (l : List UInt8) (w : World) (hl : l.length ≤ 9223372036854775807) :
    Calls Tryd.prog 55 #[.string (bs l)] w fun e w' => e = .returned (.tuple #[.string (bs (Pg.cut l).1), .string (bs (Pg.cut l).2)]) ∧ Below w.heap.size w w' := by
  go_enter Tryd.func55, Tryd.ntmps55
  go_wp2_with fail
  go_loop [4] (fun v => ∃ i : Nat, v = .int .i64 (i : Int) ∧ i ≤ l.length ∧ Stow (∀ b ∈ l.take i, b ≠ 32)) (fun v => l.length - (intOf v).toNat)
  case atStart => exact ⟨0, rfl, by omega, ⟨by simp⟩⟩
  case round =>
    obtain ⟨i, rfl, hi', HA⟩ := hrel
    by_cases hlt : i < l.length
    · have hlb : i < (bs l).size := hlt
      obtain ⟨u, hu⟩ : ∃ u, (l[i]'hlb).toNat = u := ⟨_, rfl⟩
      have HU : Stow ((l[i]'hlt).toNat = u) := ⟨hu⟩
      have hii : (i : Int) < l.length := by omega
      by_cases h2 : u = 32
      · subst h2
        have HR : Stow (Pg.cut l = (l.take i, l.drop (i + 1))) := ⟨Pg.cut_at hlt HA.out (UInt8.toNat_inj.1 (by rw [HU.out]; rfl))⟩
        have hii1 : (i : Int) + 1 ≤ l.length := by omega
        go_wp2_with fail
        go_quiet (fail)
        go_wp2_with fail
        go_ret2
        exact ⟨by rw [HR.out]; simp, Below.drewN' (Below.self _) _⟩
      · have h2e : ((u : Int) == 32) = false := by rw [beq_eq_false_iff_ne]; omega
        have HN : Stow (∀ b ∈ l.take (i + 1), b ≠ 32) := ⟨by
          intro b hb
          rw [List.take_succ_eq_append_getElem hlt] at hb
          rcases List.mem_append.1 hb with h | h
          · exact HA.out b h
          · simp at h
            subst h
            intro e
            exact h2 (by rw [← HU.out, e]; rfl)⟩
        go_wp2_with fail
        exact ⟨⟨i + 1, rfl, by omega, HN⟩, by simp [intOf]; omega⟩
    · obtain rfl : i = l.length := by omega
      have HR : Stow (Pg.cut l = (l, [])) := ⟨by have := HA.out; rw [List.take_length] at this; exact Pg.cut_none this⟩
      go_wp2_with fail
      go_ret2
      exact ⟨by rw [HR.out]; rfl, Below.self _⟩


set_option maxHeartbeats 4000000 in
set_option maxRecDepth 100000 in
theorem pgRefWrite_any (o : Ob) (w : World) (ha : o.a.length ≤ 140737488355328) (hb : o.b.length ≤ 140737488355328) (hn0 : -9223372036854775808 ≤ o.n) (hn1 : o.n ≤ 9223372036854775807) :
    Calls Tryd.prog 15 #[o.val] w fun e w' => e = .returned (.tuple #[.string (bs (Pg.write o)), .int .i64 (Pg.check o : Nat)]) ∧ Below w.heap.size w w' := by
  obtain ⟨c, hc⟩ : ∃ c, Pg.check o = c := ⟨_, rfl⟩
  have HC := Stow.mk hc
  by_cases hc0 : c = 0
  rotate_left
  · have HW : Stow (Pg.write o = []) := ⟨by unfold Pg.write; rw [hc, if_neg hc0]⟩
    have h0i : ((c : Int) != 0) = true := by rw [bne_iff_ne]; omega
    clear hc
    obtain ⟨k, a, b, n⟩ := o
    simp only at ha hb hn0 hn1
    unfold Ob.val
    simp only
    have HH : Stow (∀ w1, Below (w.alloc (.cells #[.int .i64 k, .string (bs a), .string (bs b), .int .i64 n] 23)).heap.size (w.alloc (.cells #[.int .i64 k, .string (bs a), .string (bs b), .int .i64 n] 23)) w1 → Held w1 w.heap.size [.int .i64 k, .string (bs a), .string (bs b), .int .i64 n]) := ⟨fun w1 h => (Held.made w [.int .i64 k, .string (bs a), .string (bs b), .int .i64 n] _).kept h⟩
    go_enter Tryd.func15, Tryd.ntmps15
    go_wp2_with fail
    refine (pgRefCheck_any ⟨k, a, b, n⟩ _ ha hb).mono ?_
    rw [HC.out]
    rintro e w1 ⟨rfl, hb1⟩
    have hH := HH.out w1 hb1
    have c0 := hH.cell (i := 0) rfl
    have c1 := hH.cell (i := 1) rfl
    have c2 := hH.cell (i := 2) rfl
    have c3 := hH.cell (i := 3) rfl
    have HB1 := Stow.mk (Below.call (Below.alloc' (Below.self _) _) hb1)
    clear hH hb1
    go_wp2_with fail
    refine (pgRefCheck_any ⟨k, a, b, n⟩ _ ha hb).mono ?_
    rw [HC.out]
    rintro e w2 ⟨rfl, hb2⟩
    go_wp2_with fail
    go_ret2
    exact ⟨by rw [HW.out, HC.out]; rfl, Below.call HB1.out hb2⟩
  subst hc0
  have hW : Pg.write o = Pg.text o := by unfold Pg.write; rw [hc, if_pos rfl]
  have hk := Pg.check_k hc
  have hl := Pg.check_parts hc
  obtain ⟨hl1, hl2⟩ := Pg.check_len hc
  have hil := Lib.itoa_length_le o.n hn0 hn1
  clear hc
  obtain ⟨k, a, b, n⟩ := o
  simp only at ha hb hn0 hn1 hk hl hl1 hl2 hil
  unfold Ob.val
  simp only
  have HH : Stow (∀ w1, Below (w.alloc (.cells #[.int .i64 k, .string (bs a), .string (bs b), .int .i64 n] 23)).heap.size (w.alloc (.cells #[.int .i64 k, .string (bs a), .string (bs b), .int .i64 n] 23)) w1 → Held w1 w.heap.size [.int .i64 k, .string (bs a), .string (bs b), .int .i64 n]) := ⟨fun w1 h => (Held.made w [.int .i64 k, .string (bs a), .string (bs b), .int .i64 n] _).kept h⟩
  rcases Pg.kind_cases hk.1 hk.2 with rfl | rfl | rfl | rfl | rfl | rfl | rfl
  · have HW : Stow (Pg.write ⟨1, a, b, n⟩ = Pg.wordN 1 ++ [32] ++ a) := ⟨by rw [hW]; simp [Pg.text, Pg.wordN]⟩
    clear hW hk hl
    go_enter Tryd.func15, Tryd.ntmps15
    go_wp2_with fail
    refine (pgRefCheck_any ⟨1, a, b, n⟩ _ ha hb).mono ?_
    rw [HC.out]
    rintro e w1 ⟨rfl, hb1⟩
    have HH1 := Stow.mk (HH.out w1 hb1)
    have HB1 := Stow.mk (Below.call (Below.alloc' (Below.self _) _) hb1)
    have c0 := HH1.out.cell (i := 0) rfl
    clear hb1
    go_wp2_with fail
    go_region_with (go_at_call 50; refine (pgWords_any _).mono ?_; rintro e w2 ⟨g, rfl, hg, _, hcw, hb2⟩; have hB2 : Below w1.heap.size w1 w2 := Below.call (Below.drew (Below.self w1)) hb2; have hk0 := (HH1.out.kept hB2).cell (i := 0) rfl; have hw := hcw 1 (by decide))
    all_goals
      have HB2 := Stow.mk (Below.call HB1.out hB2)
      have d1 := (HH1.out.kept hB2).cell (i := 1) rfl
      have d2 := (HH1.out.kept hB2).cell (i := 2) rfl
      have d3 := (HH1.out.kept hB2).cell (i := 3) rfl
      clear hcw hB2 hb2 c0
      have hwl : (Pg.wordN 1).length ≤ 6 := by decide
      go_wp2_with (go_at_call 51; refine (refDigits_any n.natAbs n (Nat.le_refl _) _ hn0 hn1).mono ?_; rintro e w3 ⟨rfl, hb3⟩; have HB3 := Stow.mk (Below.call HB2.out hb3))
      go_ret2
      first
        | exact ⟨by rw [HW.out, HC.out]; first | rfl | (rw [← bs_append, ← bs_append, ← bs_append, ← bs_append]; rfl) | (rw [← bs_append, ← bs_append]; rfl) | simp, HB3.out⟩
        | exact ⟨by rw [HW.out, HC.out]; first | rfl | (rw [← bs_append, ← bs_append, ← bs_append, ← bs_append]; rfl) | (rw [← bs_append, ← bs_append]; rfl) | simp, HB2.out⟩
        | exact ⟨by rw [HW.out, HC.out]; first | rfl | (rw [← bs_append, ← bs_append, ← bs_append, ← bs_append]; rfl) | (rw [← bs_append, ← bs_append]; rfl) | simp, Below.drewN' HB2.out _⟩
  · have HW : Stow (Pg.write ⟨2, a, b, n⟩ = Pg.wordN 2 ++ [32] ++ a) := ⟨by rw [hW]; simp [Pg.text, Pg.wordN]⟩
    clear hW hk hl
    go_enter Tryd.func15, Tryd.ntmps15
    go_wp2_with fail
    refine (pgRefCheck_any ⟨2, a, b, n⟩ _ ha hb).mono ?_
    rw [HC.out]
    rintro e w1 ⟨rfl, hb1⟩
    have HH1 := Stow.mk (HH.out w1 hb1)
    have HB1 := Stow.mk (Below.call (Below.alloc' (Below.self _) _) hb1)
    have c0 := HH1.out.cell (i := 0) rfl
    clear hb1
    go_wp2_with fail
    go_region_with (go_at_call 50; refine (pgWords_any _).mono ?_; rintro e w2 ⟨g, rfl, hg, _, hcw, hb2⟩; have hB2 : Below w1.heap.size w1 w2 := Below.call (Below.drew (Below.self w1)) hb2; have hk0 := (HH1.out.kept hB2).cell (i := 0) rfl; have hw := hcw 2 (by decide))
    all_goals
      have HB2 := Stow.mk (Below.call HB1.out hB2)
      have d1 := (HH1.out.kept hB2).cell (i := 1) rfl
      have d2 := (HH1.out.kept hB2).cell (i := 2) rfl
      have d3 := (HH1.out.kept hB2).cell (i := 3) rfl
      clear hcw hB2 hb2 c0
      have hwl : (Pg.wordN 2).length ≤ 6 := by decide
      go_wp2_with (go_at_call 51; refine (refDigits_any n.natAbs n (Nat.le_refl _) _ hn0 hn1).mono ?_; rintro e w3 ⟨rfl, hb3⟩; have HB3 := Stow.mk (Below.call HB2.out hb3))
      go_ret2
      first
        | exact ⟨by rw [HW.out, HC.out]; first | rfl | (rw [← bs_append, ← bs_append, ← bs_append, ← bs_append]; rfl) | (rw [← bs_append, ← bs_append]; rfl) | simp, HB3.out⟩
        | exact ⟨by rw [HW.out, HC.out]; first | rfl | (rw [← bs_append, ← bs_append, ← bs_append, ← bs_append]; rfl) | (rw [← bs_append, ← bs_append]; rfl) | simp, HB2.out⟩
        | exact ⟨by rw [HW.out, HC.out]; first | rfl | (rw [← bs_append, ← bs_append, ← bs_append, ← bs_append]; rfl) | (rw [← bs_append, ← bs_append]; rfl) | simp, Below.drewN' HB2.out _⟩
  · have HW : Stow (Pg.write ⟨3, a, b, n⟩ = Pg.wordN 3 ++ [32] ++ a ++ [32] ++ b) := ⟨by rw [hW]; simp [Pg.text, Pg.wordN]⟩
    clear hW hk hl
    go_enter Tryd.func15, Tryd.ntmps15
    go_wp2_with fail
    refine (pgRefCheck_any ⟨3, a, b, n⟩ _ ha hb).mono ?_
    rw [HC.out]
    rintro e w1 ⟨rfl, hb1⟩
    have HH1 := Stow.mk (HH.out w1 hb1)
    have HB1 := Stow.mk (Below.call (Below.alloc' (Below.self _) _) hb1)
    have c0 := HH1.out.cell (i := 0) rfl
    clear hb1
    go_wp2_with fail
    go_region_with (go_at_call 50; refine (pgWords_any _).mono ?_; rintro e w2 ⟨g, rfl, hg, _, hcw, hb2⟩; have hB2 : Below w1.heap.size w1 w2 := Below.call (Below.drew (Below.self w1)) hb2; have hk0 := (HH1.out.kept hB2).cell (i := 0) rfl; have hw := hcw 3 (by decide))
    all_goals
      have HB2 := Stow.mk (Below.call HB1.out hB2)
      have d1 := (HH1.out.kept hB2).cell (i := 1) rfl
      have d2 := (HH1.out.kept hB2).cell (i := 2) rfl
      have d3 := (HH1.out.kept hB2).cell (i := 3) rfl
      clear hcw hB2 hb2 c0
      have hwl : (Pg.wordN 3).length ≤ 6 := by decide
      go_wp2_with (go_at_call 51; refine (refDigits_any n.natAbs n (Nat.le_refl _) _ hn0 hn1).mono ?_; rintro e w3 ⟨rfl, hb3⟩; have HB3 := Stow.mk (Below.call HB2.out hb3))
      go_ret2
      first
        | exact ⟨by rw [HW.out, HC.out]; first | rfl | (rw [← bs_append, ← bs_append, ← bs_append, ← bs_append]; rfl) | (rw [← bs_append, ← bs_append]; rfl) | simp, HB3.out⟩
        | exact ⟨by rw [HW.out, HC.out]; first | rfl | (rw [← bs_append, ← bs_append, ← bs_append, ← bs_append]; rfl) | (rw [← bs_append, ← bs_append]; rfl) | simp, HB2.out⟩
        | exact ⟨by rw [HW.out, HC.out]; first | rfl | (rw [← bs_append, ← bs_append, ← bs_append, ← bs_append]; rfl) | (rw [← bs_append, ← bs_append]; rfl) | simp, Below.drewN' HB2.out _⟩
  · have HW : Stow (Pg.write ⟨4, a, b, n⟩ = Pg.wordN 4 ++ [32] ++ a) := ⟨by rw [hW]; simp [Pg.text, Pg.wordN]⟩
    clear hW hk hl
    go_enter Tryd.func15, Tryd.ntmps15
    go_wp2_with fail
    refine (pgRefCheck_any ⟨4, a, b, n⟩ _ ha hb).mono ?_
    rw [HC.out]
    rintro e w1 ⟨rfl, hb1⟩
    have HH1 := Stow.mk (HH.out w1 hb1)
    have HB1 := Stow.mk (Below.call (Below.alloc' (Below.self _) _) hb1)
    have c0 := HH1.out.cell (i := 0) rfl
    clear hb1
    go_wp2_with fail
    go_region_with (go_at_call 50; refine (pgWords_any _).mono ?_; rintro e w2 ⟨g, rfl, hg, _, hcw, hb2⟩; have hB2 : Below w1.heap.size w1 w2 := Below.call (Below.drew (Below.self w1)) hb2; have hk0 := (HH1.out.kept hB2).cell (i := 0) rfl; have hw := hcw 4 (by decide))
    all_goals
      have HB2 := Stow.mk (Below.call HB1.out hB2)
      have d1 := (HH1.out.kept hB2).cell (i := 1) rfl
      have d2 := (HH1.out.kept hB2).cell (i := 2) rfl
      have d3 := (HH1.out.kept hB2).cell (i := 3) rfl
      clear hcw hB2 hb2 c0
      have hwl : (Pg.wordN 4).length ≤ 6 := by decide
      go_wp2_with (go_at_call 51; refine (refDigits_any n.natAbs n (Nat.le_refl _) _ hn0 hn1).mono ?_; rintro e w3 ⟨rfl, hb3⟩; have HB3 := Stow.mk (Below.call HB2.out hb3))
      go_ret2
      first
        | exact ⟨by rw [HW.out, HC.out]; first | rfl | (rw [← bs_append, ← bs_append, ← bs_append, ← bs_append]; rfl) | (rw [← bs_append, ← bs_append]; rfl) | simp, HB3.out⟩
        | exact ⟨by rw [HW.out, HC.out]; first | rfl | (rw [← bs_append, ← bs_append, ← bs_append, ← bs_append]; rfl) | (rw [← bs_append, ← bs_append]; rfl) | simp, HB2.out⟩
        | exact ⟨by rw [HW.out, HC.out]; first | rfl | (rw [← bs_append, ← bs_append, ← bs_append, ← bs_append]; rfl) | (rw [← bs_append, ← bs_append]; rfl) | simp, Below.drewN' HB2.out _⟩
  · have HW : Stow (Pg.write ⟨5, a, b, n⟩ = Pg.wordN 5) := ⟨by rw [hW]; simp [Pg.text, Pg.wordN]⟩
    clear hW hk hl
    go_enter Tryd.func15, Tryd.ntmps15
    go_wp2_with fail
    refine (pgRefCheck_any ⟨5, a, b, n⟩ _ ha hb).mono ?_
    rw [HC.out]
    rintro e w1 ⟨rfl, hb1⟩
    have HH1 := Stow.mk (HH.out w1 hb1)
    have HB1 := Stow.mk (Below.call (Below.alloc' (Below.self _) _) hb1)
    have c0 := HH1.out.cell (i := 0) rfl
    clear hb1
    go_wp2_with fail
    go_region_with (go_at_call 50; refine (pgWords_any _).mono ?_; rintro e w2 ⟨g, rfl, hg, _, hcw, hb2⟩; have hB2 : Below w1.heap.size w1 w2 := Below.call (Below.drew (Below.self w1)) hb2; have hk0 := (HH1.out.kept hB2).cell (i := 0) rfl; have hw := hcw 5 (by decide))
    all_goals
      have HB2 := Stow.mk (Below.call HB1.out hB2)
      have d1 := (HH1.out.kept hB2).cell (i := 1) rfl
      have d2 := (HH1.out.kept hB2).cell (i := 2) rfl
      have d3 := (HH1.out.kept hB2).cell (i := 3) rfl
      clear hcw hB2 hb2 c0
      have hwl : (Pg.wordN 5).length ≤ 6 := by decide
      go_wp2_with (go_at_call 51; refine (refDigits_any n.natAbs n (Nat.le_refl _) _ hn0 hn1).mono ?_; rintro e w3 ⟨rfl, hb3⟩; have HB3 := Stow.mk (Below.call HB2.out hb3))
      go_ret2
      first
        | exact ⟨by rw [HW.out, HC.out]; first | rfl | (rw [← bs_append, ← bs_append, ← bs_append, ← bs_append]; rfl) | (rw [← bs_append, ← bs_append]; rfl) | simp, HB3.out⟩
        | exact ⟨by rw [HW.out, HC.out]; first | rfl | (rw [← bs_append, ← bs_append, ← bs_append, ← bs_append]; rfl) | (rw [← bs_append, ← bs_append]; rfl) | simp, HB2.out⟩
        | exact ⟨by rw [HW.out, HC.out]; first | rfl | (rw [← bs_append, ← bs_append, ← bs_append, ← bs_append]; rfl) | (rw [← bs_append, ← bs_append]; rfl) | simp, Below.drewN' HB2.out _⟩
  · have HW : Stow (Pg.write ⟨6, a, b, n⟩ = Pg.wordN 6 ++ [32] ++ a ++ [32] ++ b) := ⟨by rw [hW]; simp [Pg.text, Pg.wordN]⟩
    clear hW hk hl
    go_enter Tryd.func15, Tryd.ntmps15
    go_wp2_with fail
    refine (pgRefCheck_any ⟨6, a, b, n⟩ _ ha hb).mono ?_
    rw [HC.out]
    rintro e w1 ⟨rfl, hb1⟩
    have HH1 := Stow.mk (HH.out w1 hb1)
    have HB1 := Stow.mk (Below.call (Below.alloc' (Below.self _) _) hb1)
    have c0 := HH1.out.cell (i := 0) rfl
    clear hb1
    go_wp2_with fail
    go_region_with (go_at_call 50; refine (pgWords_any _).mono ?_; rintro e w2 ⟨g, rfl, hg, _, hcw, hb2⟩; have hB2 : Below w1.heap.size w1 w2 := Below.call (Below.drew (Below.self w1)) hb2; have hk0 := (HH1.out.kept hB2).cell (i := 0) rfl; have hw := hcw 6 (by decide))
    all_goals
      have HB2 := Stow.mk (Below.call HB1.out hB2)
      have d1 := (HH1.out.kept hB2).cell (i := 1) rfl
      have d2 := (HH1.out.kept hB2).cell (i := 2) rfl
      have d3 := (HH1.out.kept hB2).cell (i := 3) rfl
      clear hcw hB2 hb2 c0
      have hwl : (Pg.wordN 6).length ≤ 6 := by decide
      go_wp2_with (go_at_call 51; refine (refDigits_any n.natAbs n (Nat.le_refl _) _ hn0 hn1).mono ?_; rintro e w3 ⟨rfl, hb3⟩; have HB3 := Stow.mk (Below.call HB2.out hb3))
      go_ret2
      first
        | exact ⟨by rw [HW.out, HC.out]; first | rfl | (rw [← bs_append, ← bs_append, ← bs_append, ← bs_append]; rfl) | (rw [← bs_append, ← bs_append]; rfl) | simp, HB3.out⟩
        | exact ⟨by rw [HW.out, HC.out]; first | rfl | (rw [← bs_append, ← bs_append, ← bs_append, ← bs_append]; rfl) | (rw [← bs_append, ← bs_append]; rfl) | simp, HB2.out⟩
        | exact ⟨by rw [HW.out, HC.out]; first | rfl | (rw [← bs_append, ← bs_append, ← bs_append, ← bs_append]; rfl) | (rw [← bs_append, ← bs_append]; rfl) | simp, Below.drewN' HB2.out _⟩
  · have HW : Stow (Pg.write ⟨7, a, b, n⟩ = Pg.wordN 7 ++ [32] ++ Lib.itoa n) := ⟨by rw [hW]; simp [Pg.text, Pg.wordN]⟩
    clear hW hk hl
    go_enter Tryd.func15, Tryd.ntmps15
    go_wp2_with fail
    refine (pgRefCheck_any ⟨7, a, b, n⟩ _ ha hb).mono ?_
    rw [HC.out]
    rintro e w1 ⟨rfl, hb1⟩
    have HH1 := Stow.mk (HH.out w1 hb1)
    have HB1 := Stow.mk (Below.call (Below.alloc' (Below.self _) _) hb1)
    have c0 := HH1.out.cell (i := 0) rfl
    clear hb1
    go_wp2_with fail
    go_region_with (go_at_call 50; refine (pgWords_any _).mono ?_; rintro e w2 ⟨g, rfl, hg, _, hcw, hb2⟩; have hB2 : Below w1.heap.size w1 w2 := Below.call (Below.drew (Below.self w1)) hb2; have hk0 := (HH1.out.kept hB2).cell (i := 0) rfl; have hw := hcw 7 (by decide))
    all_goals
      have HB2 := Stow.mk (Below.call HB1.out hB2)
      have d1 := (HH1.out.kept hB2).cell (i := 1) rfl
      have d2 := (HH1.out.kept hB2).cell (i := 2) rfl
      have d3 := (HH1.out.kept hB2).cell (i := 3) rfl
      clear hcw hB2 hb2 c0
      have hwl : (Pg.wordN 7).length ≤ 6 := by decide
      go_wp2_with (go_at_call 51; refine (refDigits_any n.natAbs n (Nat.le_refl _) _ hn0 hn1).mono ?_; rintro e w3 ⟨rfl, hb3⟩; have HB3 := Stow.mk (Below.call HB2.out hb3))
      go_ret2
      first
        | exact ⟨by rw [HW.out, HC.out]; first | rfl | (rw [← bs_append, ← bs_append, ← bs_append, ← bs_append]; rfl) | (rw [← bs_append, ← bs_append]; rfl) | simp, HB3.out⟩
        | exact ⟨by rw [HW.out, HC.out]; first | rfl | (rw [← bs_append, ← bs_append, ← bs_append, ← bs_append]; rfl) | (rw [← bs_append, ← bs_append]; rfl) | simp, HB2.out⟩
        | exact ⟨by rw [HW.out, HC.out]; first | rfl | (rw [← bs_append, ← bs_append, ← bs_append, ← bs_append]; rfl) | (rw [← bs_append, ← bs_append]; rfl) | simp, Below.drewN' HB2.out _⟩
end Go.Proofs.YtbnaicgomabigaaDoor
