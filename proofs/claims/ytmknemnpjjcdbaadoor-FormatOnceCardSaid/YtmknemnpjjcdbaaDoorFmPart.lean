/- Walks of format.words and part. Condition: the text is no longer than an int can say. -/
import Derived.Test.YtmknemnpjjcdbaaDoorFmLib
import Derived.Test.YtmknemnpjjcdbaaDoorHeadName
import Derived.Deep.MidRow
namespace Go.Proofs.YtmknemnpjjcdbaaDoor
open Go.RowKit
set_option linter.unusedVariables false

theorem fm_there (w : World) (cells : Array Value) (t : TypeId) : (w.alloc (.cells cells t)).there w.heap.size 0 cells.size := by
  intro j hj
  have h : Held (w.alloc (.cells cells t)) w.heap.size cells.toList := Held.made w cells.toList t
  refine ⟨?_, h.free _⟩
  have := h.cell (i := j) (v := cells[j]) (by simp [hj])
  rw [Nat.zero_add, this]
  rfl
theorem fm_below_cells {B : Nat} {w : World} {b : Nat} (hb : B ≤ b) : ∀ (vs : List Value) (o : Nat) (w' : World), Below B w w' → Below B w (w'.setCells b o vs)
  | [], _, _, h => h
  | v :: vs, o, w', h => fm_below_cells hb vs (o + 1) _ (h.setCell (p := ⟨b, o, none⟩) hb v)
def Fm.vals : List Value := [.string ⟨#[]⟩, .string ⟨#[77, 69, 84, 72, 79, 68]⟩, .string ⟨#[72, 79, 83, 84]⟩, .string ⟨#[80, 65, 84, 72]⟩, .string ⟨#[84, 65, 82, 71, 69, 84]⟩, .string ⟨#[83, 84, 65, 84, 85, 83]⟩, .string ⟨#[86, 69, 82, 83, 73, 79, 78]⟩, .string ⟨#[84, 82, 65, 67, 69]⟩, .string ⟨#[84, 79, 79, 75]⟩]
theorem words_results (W : World) (g : Nat) (tmps : Array Value) (hH : W.rangeAt g 0 Fm.vals) (h2 : tmps[0]?.getD undef = .pointer (some ⟨g, 0, none⟩)) :
    (results Tryd.f22 tmps).run Tryd.prog W = .ok (.agg Fm.vals.toArray) W := by
  have h := run_loadVar_mid (P := Tryd.prog) W g 0 68 Fm.vals _ hH Tryd.underlying68 rfl (by kernel_rfl)
  simp [results, Tryd.results22, asAddr, h2, h]

set_option maxHeartbeats 1000000 in
set_option maxRecDepth 100000 in
theorem fmWords_any (w : World) : Calls Tryd.prog 22 #[] w fun e w' => e = .returned (.agg Fm.vals.toArray) ∧ Below w.heap.size w w' := by
  go_enter Tryd.func22, Tryd.ntmps22
  go_wp2_with (refine wpList_store_mid rfl 68 (.tmp 0) (.tmp 1) rfl w.heap.size 0 Fm.vals.toArray rfl rfl (fm_there _ _ _) (by kernel_rfl) (by kernel_rfl) ?_)
  refine bodyPost_ret (words_results _ w.heap.size _ (World.rangeAt_setCells_same _ _ _ _ (fm_there _ _ _)) rfl) rfl ?_
  exact ⟨rfl, fm_below_cells (Nat.le_refl _) _ _ _ (Below.alloc' (Below.self _) _)⟩

theorem idx_word (k : Nat) (hk : k < 9) (w : World) : (Instr.index 68 (.agg Fm.vals.toArray) (.int .i64 (k : Int))).run Tryd.prog w = .ok (.string (bs (Fm.word k))) w := by
  have h1 : (0 : Int) ≤ k ∧ (k : Int) < 9 := by omega
  have e : Fm.vals[k]? = some (.string (bs (Fm.word k))) := by
    have : k = 0 ∨ k = 1 ∨ k = 2 ∨ k = 3 ∨ k = 4 ∨ k = 5 ∨ k = 6 ∨ k = 7 ∨ k = 8 := by omega
    rcases this with rfl | rfl | rfl | rfl | rfl | rfl | rfl | rfl | rfl <;> rfl
  simp [Instr.index, run_underlying Tryd.underlying68, asIntOf, part, h1, go_sem, e]
  intro h; omega
namespace Fm
/-- What part gives, whether it is one or not. -/
def raw (s : List UInt8) : Pt := match kindOf s with
  | some k => (k, [])
  | none => if (s.take 4 == req) = true then (9, if ((s.drop 4).getLast? == some 41) = true then (s.drop 4).dropLast else s.drop 4) else (0, [])
theorem isReq_walk (s : List UInt8) : isReq s = ((s.take 4 == req) && (((s.drop 4).getLast? == some 41) && nameOk (s.drop 4).dropLast)) := by
  unfold isReq inner
  by_cases hn : nameOk (s.drop 4).dropLast = true
  · have hl : 5 < s.length := by
      unfold nameOk at hn
      simp only [Bool.and_eq_true, Bool.not_eq_true', List.isEmpty_eq_false_iff] at hn
      have := List.length_pos_iff.2 hn.1.1
      simp only [List.length_dropLast, List.length_drop] at this
      omega
    rw [List.getLast?_drop, if_neg (by omega), hn]
    simp [hl]
  · rw [Bool.not_eq_true] at hn
    rw [hn]
    simp
theorem raw_some {s : List UInt8} {p : Pt} (h : part s = some p) : raw s = p := by
  unfold part at h
  unfold raw
  split at h
  · rename_i k hk
    rw [hk]
    exact Option.some.inj h
  · rename_i hk
    rw [hk]
    split at h
    · rename_i hr
      rw [isReq_walk] at hr
      simp only [Bool.and_eq_true] at hr
      simp only
      rw [if_pos hr.1, if_pos hr.2.1]
      exact Option.some.inj h
    · cases h
theorem part_kind {s : List UInt8} {k : Nat} (h : kindOf s = some k) : part s = some (k, []) := by
  unfold part; rw [h]
theorem part_req {s : List UInt8} (h : kindOf s = none) : part s = if isReq s = true then some (9, inner s) else none := by
  unfold part; rw [h]
theorem kind_at {s : List UInt8} {j : Nat} (h1 : 1 ≤ j) (h9 : j < 9) (hb : ∀ i, 1 ≤ i → i < j → word i ≠ s) (h : word j = s) : kindOf s = some j := kindFrom_at 8 1 j h1 (by omega) hb h
theorem kind_no {s : List UInt8} (hb : ∀ i, 1 ≤ i → i < 9 → word i ≠ s) : kindOf s = none := kindFrom_no 8 1 fun i a b => hb i a (by omega)
theorem word_zero (j : Nat) (h9 : j < 9) : (word j == []) = decide (j = 0) := by
  have : j = 0 ∨ j = 1 ∨ j = 2 ∨ j = 3 ∨ j = 4 ∨ j = 5 ∨ j = 6 ∨ j = 7 ∨ j = 8 := by omega
  rcases this with rfl | rfl | rfl | rfl | rfl | rfl | rfl | rfl | rfl <;> rfl
end Fm
theorem part_results (W : World) (g : Nat) (a b : Value) (c : Bool) (tmps : Array Value) (hH : Held W g [a, b]) (h2 : tmps[2]?.getD undef = .pointer (some ⟨g, 0, none⟩)) (h3 : tmps[3]?.getD undef = .bool c) :
    (results Tryd.f26 tmps).run Tryd.prog W = .ok (.tuple #[.agg #[a, b], .bool c]) W := by
  have c0 := hH.cell (i := 0) rfl
  have c1 := hH.cell (i := 1) rfl
  simp [results, Tryd.results26, go_sem, h2, h3, c0, c1]

set_option maxHeartbeats 1000000 in
set_option maxRecDepth 100000 in
theorem fmPart_any (s : List UInt8) (w : World) (hl : s.length ≤ 9223372036854775807) :
    Calls Tryd.prog 26 #[.string (bs s)] w fun e w' => e = .returned (.tuple #[.agg #[.int .i64 ((Fm.raw s).1 : Nat), .string (bs (Fm.raw s).2)], .bool (Fm.part s).isSome]) ∧ Below w.heap.size w w' := by
  have hM := Held.made w [.int .i64 0, .string ⟨#[]⟩] 35
  have HM : Stow (∀ W, Below (w.alloc (.cells #[.int .i64 0, .string ⟨#[]⟩] 35)).heap.size (w.alloc (.cells #[.int .i64 0, .string ⟨#[]⟩] 35)) W → Held W w.heap.size [.int .i64 0, .string ⟨#[]⟩] ∧ Below w.heap.size w W) := ⟨fun W hb => ⟨hM.kept hb, Below.call (Below.alloc' (Below.self _) _) hb⟩⟩
  clear hM
  obtain ⟨rx, hrx⟩ : ∃ rx, Fm.raw s = rx := ⟨_, rfl⟩
  obtain ⟨px, hpx⟩ : ∃ px, Fm.part s = px := ⟨_, rfl⟩
  have HRX := Stow.mk hrx
  have HPX := Stow.mk hpx
  rw [hrx, hpx]
  clear hrx hpx
  go_enter Tryd.func26, Tryd.ntmps26
  go_wp2_with fail
  refine (fmWords_any _).mono ?_
  rintro e w1 ⟨rfl, hb1⟩
  obtain ⟨hH, hB⟩ := HM.out w1 hb1
  have HH1 := Stow.mk hH
  have HB1 := Stow.mk hB
  clear hb1 hH hB
  have r0 := HH1.out.cell (i := 0) rfl
  have r1 := HH1.out.cell (i := 1) rfl
  have f0 := HH1.out.free 0
  have f1 := HH1.out.free 1
  have hlt := HH1.out.lt
  go_wp2_with fail
  go_loop [9] (fun v => ∃ j : Nat, v = .int .i64 j ∧ j ≤ 9 ∧ Stow (∀ i, 1 ≤ i → i < j → Fm.word i ≠ s)) (fun v => 9 - (intOf v).toNat)
  case atStart => exact ⟨0, rfl, by omega, ⟨fun i h1 h2 => by omega⟩⟩
  case round =>
    obtain ⟨j, rfl, hj, HJ⟩ := hrel
    by_cases h9 : j < 9
    · have hix := idx_word j h9
      have hw0 := Fm.word_zero j h9
      obtain ⟨W, hW⟩ : ∃ W, Fm.word j = W := ⟨_, rfl⟩
      rw [hW] at hix hw0
      have HW := Stow.mk hW
      have hji : (j : Int) < 9 := by omega
      clear hW
      by_cases j0 : j = 0
      · subst j0
        have hw : (W == []) = true := by rw [hw0]; rfl
        have hwn : (W != []) = false := by rw [bne, hw]; rfl
        have hix0 : ∀ w : World, (Instr.index 68 (.agg Fm.vals.toArray) (.int .i64 0)).run Tryd.prog w = .ok (.string (bs W)) w := hix
        clear hw0 hix
        go_wp2_with fail
        exact ⟨⟨1, rfl, by omega, ⟨fun i h1 h2 => by omega⟩⟩, by simp [intOf]⟩
      · have hw : (W == []) = false := by rw [hw0]; simp [j0]
        have hwn : (W != []) = true := by rw [bne, hw]; rfl
        clear hw0
        by_cases hs : W = s
        · have hss : (W == s) = true := by simp [hs]
          have hk := Fm.kind_at (by omega) h9 HJ.out (HW.out.trans hs)
          have HR : Stow (rx = (j, [])) := ⟨by rw [← HRX.out]; unfold Fm.raw; rw [hk]⟩
          have HP : Stow (px = some (j, [])) := ⟨by rw [← HPX.out]; exact Fm.part_kind hk⟩
          clear hk hs
          go_wp2_with fail
          refine bodyPost_ret (part_results _ w.heap.size (.int .i64 j) (.string ⟨#[]⟩) true _ ((HH1.out.set 0 _).set 1 _) rfl rfl) rfl ?_
          exact ⟨by rw [HR.out, HP.out]; rfl, (HB1.out.setCell (p := ⟨w.heap.size, 0, none⟩) (Nat.le_refl _) _).setCell (p := ⟨w.heap.size, 1, none⟩) (Nat.le_refl _) _⟩
        · have hss : (W == s) = false := by simp [hs]
          have HN : Stow (∀ i, 1 ≤ i → i < j + 1 → Fm.word i ≠ s) := ⟨fun i h1 h2 => by
            by_cases e : i = j
            · subst e; rw [HW.out]; exact hs
            · exact HJ.out i h1 (by omega)⟩
          clear hs
          go_wp2_with fail
          exact ⟨⟨j + 1, rfl, by omega, HN⟩, by simp [intOf]; omega⟩
    · obtain rfl : j = 9 := by omega
      have hk := Fm.kind_no HJ.out
      have HR : Stow (rx = if (s.take 4 == Fm.req) = true then (9, if ((s.drop 4).getLast? == some 41) = true then (s.drop 4).dropLast else s.drop 4) else (0, [])) := ⟨by rw [← HRX.out]; unfold Fm.raw; rw [hk]⟩
      have HP : Stow (px = if ((s.take 4 == Fm.req) && (((s.drop 4).getLast? == some 41) && nameOk (s.drop 4).dropLast)) = true then some (9, (s.drop 4).dropLast) else none) := ⟨by rw [← HPX.out, Fm.part_req hk, Fm.isReq_walk]; rfl⟩
      clear hk
      have K1 := fun W => fmPrefix_lib s W
      obtain ⟨a, ha⟩ : ∃ a, (s.take 4 == Fm.req) = a := ⟨_, rfl⟩
      obtain ⟨t, ht⟩ : ∃ t, s.drop 4 = t := ⟨_, rfl⟩
      have htl : t.length ≤ s.length := by rw [← ht]; simp
      simp only [ha, ht] at K1 HR HP
      have HK1 := Stow.mk K1
      clear K1 ha ht
      cases a
      · simp only [Bool.false_eq_true, if_false] at HK1
        go_wp2_with fail
        refine (HK1.out _).mono ?_
        rintro e w2 ⟨rfl, rfl⟩
        go_wp2_with fail
        refine bodyPost_ret (part_results _ w.heap.size (.int .i64 0) (.string ⟨#[]⟩) false _ ((HH1.out.set 0 _).set 1 _) rfl rfl) rfl ?_
        exact ⟨by rw [HR.out, HP.out]; rfl, (HB1.out.setCell (p := ⟨w.heap.size, 0, none⟩) (Nat.le_refl _) _).setCell (p := ⟨w.heap.size, 1, none⟩) (Nat.le_refl _) _⟩
      · simp only [if_true] at HK1
        have K2 := fun W => fmSuffix_lib t W (by omega)
        obtain ⟨b, hb⟩ : ∃ b, (t.getLast? == some 41) = b := ⟨_, rfl⟩
        simp only [hb] at K2 HR HP
        have HK2 := Stow.mk K2
        clear K2 hb
        cases b
        · simp only [Bool.false_eq_true, if_false] at HK2
          go_wp2_with fail
          refine (HK1.out _).mono ?_
          rintro e w2 ⟨rfl, rfl⟩
          go_wp2_with fail
          refine (HK2.out _).mono ?_
          rintro e w3 ⟨rfl, rfl⟩
          go_wp2_with fail
          refine bodyPost_ret (part_results _ w.heap.size (.int .i64 9) (.string (bs t)) false _ ((HH1.out.set 0 _).set 1 _) rfl rfl) rfl ?_
          exact ⟨by rw [HR.out, HP.out]; rfl, (HB1.out.setCell (p := ⟨w.heap.size, 0, none⟩) (Nat.le_refl _) _).setCell (p := ⟨w.heap.size, 1, none⟩) (Nat.le_refl _) _⟩
        · simp only [if_true] at HK2
          have K3 := fun W => name_any t.dropLast W (by simp; omega)
          obtain ⟨c, hc⟩ : ∃ c, nameOk t.dropLast = c := ⟨_, rfl⟩
          obtain ⟨d, hd⟩ : ∃ d, t.dropLast = d := ⟨_, rfl⟩
          simp only [hc] at K3 HP
          simp only [hd] at K3 HP HR HK2
          have HK3 := Stow.mk K3
          clear K3 hc hd
          go_wp2_with fail
          refine (HK1.out _).mono ?_
          rintro e w2 ⟨rfl, rfl⟩
          go_wp2_with fail
          refine (HK2.out _).mono ?_
          rintro e w3 ⟨rfl, rfl⟩
          go_wp2_with fail
          refine (HK3.out _).mono ?_
          rintro e w4 ⟨rfl, rfl⟩
          go_wp2_with fail
          refine bodyPost_ret (part_results _ w.heap.size (.int .i64 9) (.string (bs d)) c _ ((HH1.out.set 0 _).set 1 _) rfl rfl) rfl ?_
          exact ⟨by rw [HR.out, HP.out]; cases c <;> rfl, (HB1.out.setCell (p := ⟨w.heap.size, 0, none⟩) (Nat.le_refl _) _).setCell (p := ⟨w.heap.size, 1, none⟩) (Nat.le_refl _) _⟩
end Go.Proofs.YtmknemnpjjcdbaaDoor
