/- Walk of prog.Write. Conditions: texts no longer than an address space; an int; the library's table lies. -/
import Derived.Test.YtbnaicgomabigaaDoorPgCheck
import Derived.Test.YtbnaicgomabigaaDoorHeadRef
import Derived.Test.YtbnaicgomabigaaDoorShelfS
import Derived.Lib.Join
namespace Go.Proofs.YtbnaicgomabigaaDoor
open Go.RowKit
set_option linter.unusedVariables false

theorem Held.under {w w' : World} {g B : Nat} {cs : List Value} (h : Held w g cs) (hb : Below B w w') (hg : g < B) : Held w' g cs := by
  obtain ⟨t, h⟩ := h
  exact ⟨t, (hb.block g hg).trans h⟩
theorem TRow.one (w : World) (B : Nat) (k : List UInt8) (hB : B ≤ w.heap.size) : TRow (w.alloc (.cells #[.string (bs k)] 9)) B (.slice (some ⟨w.heap.size, 0, none⟩) 1 1) [k] :=
  ⟨rfl, .inr ⟨w.heap.size, 1, _, rfl, hB, heap_alloc_new w _, Nat.le_refl _, by unfold maxLen; omega, rfl, rfl⟩⟩

theorem join_lib (X : List (List UInt8)) (sep : List UInt8) (A : Option Addr) (c : Nat) (w : World) (hS : SlR w 1 (.slice A X.length c) (X.map fun x => [Value.string (bs x)])) (hn : X.length ≤ 140737488355328) (hb : (Lib.join X sep).length ≤ 140737488355328) :
    Calls Tryd.prog 49 #[.slice A X.length c, .string (bs sep)] w fun e w' => e = .returned (.string (bs (Lib.join X sep))) ∧ Below w.heap.size w w' := by
  by_cases h0 : X.length = 0
  · obtain rfl := List.eq_nil_of_length_eq_zero h0
    refine (Any.strings_Join_none Tryd.lays156 Tryd.Builder_Extra_156 A c (bs sep) w).mono ?_
    rintro e w' ⟨rfl, rfl⟩
    exact ⟨rfl, Below.self _⟩
  obtain ⟨b, off, rfl, hblt, hc⟩ := hS.open (by simp; omega)
  have hcap : X.length ≤ c := by
    obtain ⟨A', cap', hv, h1, _⟩ := hS
    simp only [Value.slice.injEq] at hv
    obtain ⟨_, hv1, rfl⟩ := hv
    rw [List.length_map] at h1
    exact h1
  have e2 : ((X.map bs).map (·.data.toList)) = X := by rw [List.map_map]; exact List.map_id X
  have h := Tryd.strings_Join b off c (X.map bs) (bs sep) w (fun j x hj => by
    rw [List.getElem?_map] at hj
    obtain ⟨m, hm, rfl⟩ := Option.map_eq_some_iff.1 hj
    have := hc j [Value.string (bs m)] (by rw [List.getElem?_map, hm]; rfl) 0 _ rfl
    simpa using this) hblt (by rw [List.length_map]; exact hn) (by rw [List.length_map]; exact hcap) (by
    rw [e2, show (bs sep).data.toList = sep from rfl]; exact hb)
  rw [e2, show (bs sep).data.toList = sep from rfl, List.length_map] at h
  exact h

namespace Pg
def words (o : Ob) : List (List UInt8) := word o.k :: ((if sa o.k ≠ 0 then [o.a] else []) ++ ((if sb o.k ≠ 0 then [o.b] else []) ++ if sn o.k ≠ 0 then [Lib.itoa o.n] else []))
theorem text_join (o : Ob) (h0 : 1 ≤ o.k) (h1 : o.k ≤ 7) : text o = Lib.join (words o) [32] := by
  obtain ⟨k, a, b, n⟩ := o
  simp only at h0 h1
  rcases kind_cases h0 h1 with rfl | rfl | rfl | rfl | rfl | rfl | rfl
  all_goals simp [text, words, sa, sb, sn, Lib.join]
theorem cls (k : Int) : (sa k = 0 ∧ sb k = 0 ∧ sn k = 0) ∨ (sa k ≠ 0 ∧ sb k = 0 ∧ sn k = 0) ∨ (sa k ≠ 0 ∧ sb k ≠ 0 ∧ sn k = 0) ∨ (sa k = 0 ∧ sb k = 0 ∧ sn k ≠ 0) := by
  unfold sa sb sn
  repeat' split
  all_goals omega
theorem check_len {o : Ob} (h : check o = 0) : o.a.length ≤ 64 ∧ o.b.length ≤ 64 := by
  obtain ⟨h0, h1⟩ := check_k h
  obtain ⟨k, a, b, n⟩ := o
  simp only at h0 h1 ⊢
  rw [check_eq k a b n h0 h1] at h
  have hn : ∀ l : List UInt8, nameOk l = true → l.length ≤ 64 := fun l hl => by
    unfold nameOk at hl; simp only [Bool.and_eq_true, decide_eq_true_eq] at hl; omega
  have hv : ∀ l : List UInt8, Ms.valueOk l = true → l.length ≤ 64 := fun l hl => by
    unfold Ms.valueOk at hl; simp only [Bool.and_eq_true, decide_eq_true_eq] at hl; omega
  have hp : ∀ l : List UInt8, Ms.pathOk l = true → l.length ≤ 64 := fun l hl => by
    unfold Ms.pathOk at hl; simp only [Bool.and_eq_true, decide_eq_true_eq] at hl; omega
  have hf : ∀ (l : List UInt8) (x : Int), fits l x = 0 → (x = 0 → l = []) → (x = 0 ∨ x = 1 ∨ x = 2 ∨ x = 3) → l.length ≤ 64 := by
    intro l x hx hz hr
    rcases hr with rfl | rfl | rfl | rfl
    · simp [hz rfl]
    · refine hv l ?_; cases hc : Ms.valueOk l; · simp [fits, hc] at hx
      · rfl
    · refine hn l ?_; cases hc : nameOk l; · simp [fits, hc] at hx
      · rfl
    · refine hp l ?_; cases hc : Ms.pathOk l; · simp [fits, hc] at hx
      · rfl
  unfold checkP at h
  split at h
  · cases h
  rename_i g1
  split at h
  · rename_i g2; exact absurd h g2
  rename_i g2
  split at h
  · cases h
  split at h
  · rename_i g4; exact absurd h g4
  rename_i g4
  simp only [not_or, not_and, Decidable.not_not] at g1 g2 g4
  refine ⟨hf a _ g2 g1.1 ?_, hf b _ g4 g1.2.1 ?_⟩
  · unfold sa; repeat' split
    all_goals omega
  · unfold sb; repeat' split
    all_goals omega
end Pg

set_option maxHeartbeats 2000000 in
set_option maxRecDepth 100000 in
theorem pgWrite_any (o : Ob) (w : World) (ha : o.a.length ≤ 140737488355328) (hb : o.b.length ≤ 140737488355328) (hn0 : -9223372036854775808 ≤ o.n) (hn1 : o.n ≤ 9223372036854775807) (hp : Pow10 w) :
    Calls Tryd.prog 14 #[o.val] w fun e w' => e = .returned (.tuple #[.string (bs (Pg.write o)), .int .i64 (Pg.check o : Nat)]) ∧ Below w.heap.size w w' := by
  obtain ⟨c, hc⟩ : ∃ c, Pg.check o = c := ⟨_, rfl⟩
  have HC := Stow.mk hc
  have HP := Stow.mk hp
  clear hp
  by_cases hc0 : c = 0
  rotate_left
  · have HW : Stow (Pg.write o = []) := ⟨by unfold Pg.write; rw [hc, if_neg hc0]⟩
    have h0i : ((c : Int) != 0) = true := by rw [bne_iff_ne]; omega
    clear hc
    obtain ⟨k, a, b, n⟩ := o
    simp only at ha hb hn0 hn1
    unfold Ob.val
    simp only
    go_enter Tryd.func14, Tryd.ntmps14
    go_wp2_with fail
    refine (pgCheck_any ⟨k, a, b, n⟩ _ ha hb).mono ?_
    rw [HC.out]
    rintro e w1 ⟨rfl, hb1⟩
    go_wp2_with fail
    go_ret2
    exact ⟨by rw [HW.out, HC.out]; rfl, Below.call (Below.alloc' (Below.self _) _) hb1⟩
  subst hc0
  have HW : Stow (Pg.write o = Lib.join (Pg.words o) [32]) := ⟨by unfold Pg.write; rw [hc, if_pos rfl]; exact Pg.text_join o (Pg.check_k hc).1 (Pg.check_k hc).2⟩
  have HK := Stow.mk (Pg.check_k hc)
  have HLN := Pg.check_len hc
  clear hc
  obtain ⟨k, a, b, n⟩ := o
  simp only at ha hb hn0 hn1 HK HLN
  obtain ⟨hla, hlb⟩ := HLN
  obtain ⟨x, hx⟩ : ∃ x, Pg.sa k = x := ⟨_, rfl⟩
  obtain ⟨y, hy⟩ : ∃ x, Pg.sb k = x := ⟨_, rfl⟩
  obtain ⟨z, hz⟩ : ∃ x, Pg.sn k = x := ⟨_, rfl⟩
  obtain ⟨wd, hwd⟩ : ∃ x, Pg.word k = x := ⟨_, rfl⟩
  have hwl : wd.length ≤ 6 := by rw [← hwd]; unfold Pg.word; repeat' split
                                 all_goals decide
  have HWR : Stow (Pg.words ⟨k, a, b, n⟩ = wd :: ((if x ≠ 0 then [a] else []) ++ ((if y ≠ 0 then [b] else []) ++ if z ≠ 0 then [Lib.itoa n] else []))) := ⟨by unfold Pg.words; simp only [hx, hy, hz, hwd]⟩
  have HX := Stow.mk hx
  have HY := Stow.mk hy
  have HZ := Stow.mk hz
  have HWD := Stow.mk hwd
  clear hx hy hz hwd
  unfold Ob.val
  simp only
  have HH : Stow (∀ w1, Below (w.alloc (.cells #[.int .i64 k, .string (bs a), .string (bs b), .int .i64 n] 23)).heap.size (w.alloc (.cells #[.int .i64 k, .string (bs a), .string (bs b), .int .i64 n] 23)) w1 → Held w1 w.heap.size [.int .i64 k, .string (bs a), .string (bs b), .int .i64 n]) := ⟨fun w1 h => (Held.made w [.int .i64 k, .string (bs a), .string (bs b), .int .i64 n] _).kept h⟩
  go_enter Tryd.func14, Tryd.ntmps14
  go_wp2_with fail
  refine (pgCheck_any ⟨k, a, b, n⟩ _ ha hb).mono ?_
  rw [HC.out]
  rintro e w1 ⟨rfl, hb1⟩
  have hH := HH.out w1 hb1
  have HH1 := Stow.mk hH
  have HB1 := Stow.mk (Below.call (Below.alloc' (Below.self _) _) hb1)
  have c0 := hH.cell (i := 0) rfl
  clear hH hb1
  go_wp2_with fail
  refine (pgOf_any k _ HK.out.1 HK.out.2).mono ?_
  rw [HX.out, HY.out, HZ.out, HWD.out]
  rintro e w2 ⟨rfl, hb2⟩
  have hH := HH1.out.kept hb2
  have HH2 := Stow.mk hH
  have HB2 := Stow.mk (Below.call HB1.out hb2)
  clear c0 hb2
  have c1 := hH.cell (i := 1) rfl
  have c2 := hH.cell (i := 2) rfl
  have c3 := hH.cell (i := 3) rfl
  have hlt := hH.lt
  have hne : (w2.heap.size == w.heap.size) = false := by simp; omega
  have hne2 : (w2.heap.size + 1 == w.heap.size) = false := by simp; omega
  clear hH
  have e0 : (w2.alloc (.cells #[.string (bs wd), .int .i64 x, .int .i64 y, .int .i64 z] 75)).heap.size = w2.heap.size + 1 := by simp
  have HO : Stow (TRow ((w2.alloc (.cells #[.string (bs wd), .int .i64 x, .int .i64 y, .int .i64 z] 75)).alloc (.cells #[.string (bs wd)] 9)) (w2.heap.size + 1) (.slice (some ⟨w2.heap.size + 1, 0, none⟩) 1 1) [wd]) := ⟨by
    have h := TRow.one (w2.alloc (.cells #[.string (bs wd), .int .i64 x, .int .i64 y, .int .i64 z] 75)) (w2.heap.size + 1) wd (by rw [e0]; exact Nat.le_refl _)
    rw [e0] at h
    exact h⟩
  have HL : Stow (∀ W, Below (w2.heap.size + 1) ((w2.alloc (.cells #[.string (bs wd), .int .i64 x, .int .i64 y, .int .i64 z] 75)).alloc (.cells #[.string (bs wd)] 9)) W →
      Held W w.heap.size [.int .i64 k, .string (bs a), .string (bs b), .int .i64 n] ∧ Held W w2.heap.size [.string (bs wd), .int .i64 x, .int .i64 y, .int .i64 z] ∧ Below w.heap.size w W) := ⟨fun W hW => by
    have h1 := ((HH2.out.kept (Below.alloc' (Below.self w2) (.cells #[.string (bs wd), .int .i64 x, .int .i64 y, .int .i64 z] 75))).kept (Below.alloc' (Below.self _) (.cells #[.string (bs wd)] 9))).under hW (by have := HH2.out.lt; omega)
    have h2 := ((Held.made w2 [.string (bs wd), .int .i64 x, .int .i64 y, .int .i64 z] 75).kept (Below.alloc' (Below.self _) (.cells #[.string (bs wd)] 9))).under hW (by omega)
    exact ⟨h1, h2, (Below.alloc' (Below.alloc' HB2.out _) _).trans (hW.mono (by have := HH2.out.lt; omega))⟩⟩
  have K4 : Stow (w2.heap.size + 1 ≤ ((w2.alloc (.cells #[.string (bs wd), .int .i64 x, .int .i64 y, .int .i64 z] 75)).alloc (.cells #[.string (bs wd)] 9)).heap.size) := ⟨by simp⟩
  have HCL := Pg.cls k
  rw [HX.out, HY.out, HZ.out] at HCL
  rcases HCL with ⟨rfl, rfl, rfl⟩ | ⟨hx, rfl, rfl⟩ | ⟨hx, hy, rfl⟩ | ⟨rfl, rfl, hz⟩
  · have HE : Stow (Pg.words ⟨k, a, b, n⟩ = [wd]) := ⟨by rw [HWR.out]; simp⟩
    go_wp2_with fail
    refine (join_lib [wd] [32] _ 1 _ (trow_slr HO.out) (by simp) (by simp [Lib.join]; omega)).mono ?_
    rintro e w5 ⟨rfl, hb5⟩
    go_wp2_with fail
    go_ret2
    exact ⟨by rw [HW.out, HC.out, HE.out]; rfl, Below.call (HL.out _ (Below.refl _ _)).2.2 hb5⟩
  · have HE : Stow (Pg.words ⟨k, a, b, n⟩ = [wd, a]) := ⟨by rw [HWR.out]; simp [hx]⟩
    have hxi : (x != 0) = true := by rw [bne_iff_ne]; exact hx
    go_wp2_with (at_builtin; refine wpList_append_elem_form _ _ _ rfl (.tmp 25) (.tmp 28) 50 rfl (w2.heap.size + 1) 9 _ 1 16 Tryd.underlying50 info_string _ _ _ HO.out rfl _ rfl (by simp) rfl (by decide) rfl (by intro u hu; simp at hu; subst hu; rfl) (by simp) (by simp [maxLen]) K4.out ?_; intro A4 cap4 w4 hown4 hg4 hb4 hs4; obtain ⟨hA4, hS4, hB4⟩ := HL.out w4 hb4; have s2 := hS4.cell (i := 2) rfl; have s3 := hS4.cell (i := 3) rfl; have hlt4 := hS4.lt)
    have HB4 := Stow.mk hB4
    refine (join_lib [wd, a] [32] _ _ _ (trow_slr hown4) (by simp) (by simp [Lib.join]; omega)).mono ?_
    rintro e w5 ⟨rfl, hb5⟩
    go_wp2_with fail
    go_ret2
    exact ⟨by rw [HW.out, HC.out, HE.out]; rfl, Below.call HB4.out hb5⟩
  · have HE : Stow (Pg.words ⟨k, a, b, n⟩ = [wd, a, b]) := ⟨by rw [HWR.out]; simp [hx, hy]⟩
    have hxi : (x != 0) = true := by rw [bne_iff_ne]; exact hx
    have hyi : (y != 0) = true := by rw [bne_iff_ne]; exact hy
    go_wp2_with (at_builtin; first | (refine wpList_append_elem_form _ _ _ rfl (.tmp 25) (.tmp 28) 50 rfl (w2.heap.size + 1) 9 _ 1 16 Tryd.underlying50 info_string _ _ _ HO.out rfl _ rfl (by simp) rfl (by decide) rfl (by intro u hu; simp at hu; subst hu; rfl) (by simp) (by simp [maxLen]) K4.out ?_; intro A4 cap4 w4 hown4 hg4 hb4 hs4; obtain ⟨hA4, hS4, hB4⟩ := HL.out w4 hb4; have s2 := hS4.cell (i := 2) rfl; have s3 := hS4.cell (i := 3) rfl; have hlt4 := hS4.lt; have d2 := hA4.cell (i := 2) rfl; have HO4 := Stow.mk hown4; have HBB4 := Stow.mk hb4; clear hown4 hb4) | (refine wpList_append_elem_form _ _ _ rfl (.tmp 33) (.tmp 36) 50 rfl (w2.heap.size + 1) 9 _ 1 16 Tryd.underlying50 info_string _ _ _ HO4.out rfl _ rfl (by simp) rfl (by decide) rfl (by intro u hu; simp at hu; subst hu; rfl) (by simp) (by simp [maxLen]) (by omega) ?_; intro A5 cap5 w5 hown5 hg5 hb5 hs5; obtain ⟨hA5, hS5, hB5⟩ := HL.out w5 (HBB4.out.trans hb5); have s35 := hS5.cell (i := 3) rfl; have hlt5 := hS5.lt))
    have HB5 := Stow.mk hB5
    refine (join_lib [wd, a, b] [32] _ _ _ (trow_slr hown5) (by simp) (by simp [Lib.join]; omega)).mono ?_
    rintro e w6 ⟨rfl, hb6⟩
    go_wp2_with fail
    go_ret2
    exact ⟨by rw [HW.out, HC.out, HE.out]; rfl, Below.call HB5.out hb6⟩
  · have HE : Stow (Pg.words ⟨k, a, b, n⟩ = [wd, Lib.itoa n]) := ⟨by rw [HWR.out]; simp [hz]⟩
    have hzi : (z != 0) = true := by rw [bne_iff_ne]; exact hz
    have HIL := Stow.mk (Lib.itoa_length_le n hn0 hn1)
    go_wp2_with fail
    refine (itoa_any n hn0 hn1 _ (HP.out.keep (HL.out _ (Below.refl _ _)).2.2)).mono ?_
    rintro e w4 ⟨rfl, hb4⟩
    have HO4 := Stow.mk (own_kept HO.out hb4)
    have K5 : Stow (w2.heap.size + 1 ≤ w4.heap.size) := ⟨Nat.le_trans K4.out hb4.size⟩
    have HB4 := Stow.mk (Below.call (HL.out _ (Below.refl _ _)).2.2 hb4)
    have hlt4 : w2.heap.size + 1 ≤ w4.heap.size := K5.out
    clear hb4
    go_wp2_with (at_builtin; refine wpList_append_elem_form _ _ _ rfl (.tmp 41) (.tmp 45) 50 rfl (w2.heap.size + 1) 9 _ 1 16 Tryd.underlying50 info_string _ _ _ HO4.out rfl _ rfl (by simp) rfl (by decide) rfl (by intro u hu; simp at hu; subst hu; rfl) (by simp) (by simp [maxLen]) K5.out ?_; intro A5 cap5 w5 hown5 hg5 hb5 hs5)
    have HB5 : Stow (Below w.heap.size w w5) := ⟨HB4.out.trans (hb5.mono (by omega))⟩
    refine (join_lib [wd, Lib.itoa n] [32] _ _ _ (trow_slr hown5) (by simp) (by have := HIL.out; simp [Lib.join]; omega)).mono ?_
    rintro e w6 ⟨rfl, hb6⟩
    go_wp2_with fail
    go_ret2
    exact ⟨by rw [HW.out, HC.out, HE.out]; rfl, Below.call HB5.out hb6⟩
end Go.Proofs.YtbnaicgomabigaaDoor
