/- Walks of Once.Do and a Format's Parts, Made, New, in one goroutine. Conditions: the Format's block; a variable of the library's holds an int. -/
import Derived.Test.YtmknemnpjjcdbaaDoorFmParts
import Derived.Deep.RegionHeld3
namespace Go.Proofs.YtmknemnpjjcdbaaDoor
open Go.RowKit
set_option linter.unusedVariables false

set_option maxHeartbeats 1000000 in
set_option maxRecDepth 100000 in
theorem once_first (s : List UInt8) (g : Nat) (w : World) (h : Held w g (fmCells s 0 0 0 (.slice none 0 0) 0)) (hl : s.length ≤ 9223372036854775807) (hm : MaxIs w) (hg : 0 < g) :
    Calls Tryd.prog 19 #[.pointer (some ⟨g, 1, none⟩), .func (.func 20) #[.pointer (some ⟨g, 0, none⟩)] #[]] w fun e w' => e = .returned (.tuple #[]) ∧ ∃ v, Held w' g (fmCells s 1 0 1 v ((Fm.compile s).2.2 : Nat)) ∧ PRow w' w.heap.size v (Fm.compile s).1 ∧ Only g w w' := by
  have HKB := Stow.mk (bool_load ⟨g, 1, none⟩ 0 w (h.cell (i := 1) rfl))
  have HKD := Stow.mk (once_slow s g w h hl hm hg)
  have hnot : ∀ (x : Bool) (w : World), (Op.unary .not (.bool x)).run Tryd.prog w = .ok (.bool (!x)) w := fun _ _ => rfl
  clear h hm
  go_enter Tryd.func19, Tryd.ntmps19
  go_wp2_with (first
    | (go_at_call 30; refine HKB.out.mono ?_; rintro e w' ⟨rfl, rfl⟩)
    | (go_at_call 31; refine HKD.out.mono ?_; rintro e w3 ⟨rfl, v, hH, hP, hO⟩))
  first | go_end0 | refine bodyPost_ret (results_none rfl _ _ _) rfl ?_
  exact ⟨rfl, v, hH, hP, hO⟩

set_option maxHeartbeats 1000000 in
set_option maxRecDepth 100000 in
theorem once_again (g : Nat) (f : Value) (s : List UInt8) (v : Value) (b : Int) (w : World) (h : Held w g (fmCells s 1 0 1 v b)) :
    Calls Tryd.prog 19 #[.pointer (some ⟨g, 1, none⟩), f] w fun e w' => e = .returned (.tuple #[]) ∧ w' = w := by
  have HKB := Stow.mk (bool_load ⟨g, 1, none⟩ 1 w (h.cell (i := 1) rfl))
  have hnot : ∀ (x : Bool) (w : World), (Op.unary .not (.bool x)).run Tryd.prog w = .ok (.bool (!x)) w := fun _ _ => rfl
  clear h
  go_enter Tryd.func19, Tryd.ntmps19
  go_wp2_with (first
    | (go_at_call 30; refine HKB.out.mono ?_; rintro e w' ⟨rfl, rfl⟩))
  first | go_end0 | refine bodyPost_ret (results_none rfl _ _ _) rfl ?_
  exact ⟨rfl, rfl⟩

theorem pt_flat_len (L : List Pt) : (L.flatMap Pt.cells).length = L.length * 2 := by
  induction L with
  | nil => rfl
  | cons p t ih => simp only [List.flatMap_cons, List.length_append, ih, List.length_cons, Pt.cells, List.length_nil]; omega
theorem pt_flat_one {L : List Pt} : ∀ u ∈ L.flatMap Pt.cells, u.oneCell' = true := by
  intro u hu
  obtain ⟨p, _, hp⟩ := List.mem_flatMap.1 hu
  exact pt_one u hp
/-- A slice's cells, one after another. -/
theorem pt_flat_at {L : List Pt} {ad : Addr} {cap : Nat} {w : World} (hS : SlR w 2 (.slice (some ad) L.length cap) (L.map Pt.cells)) : ∀ j u, (L.flatMap Pt.cells)[j]? = some u → w.cell? (ad.add j) = some u := by
  intro j u hj
  have hjl : j < L.length * 2 := by
    rcases Nat.lt_or_ge j (L.flatMap Pt.cells).length with h | h
    · rw [pt_flat_len] at h; exact h
    · simp [List.getElem?_eq_none h] at hj
  obtain ⟨b, off, hA, hb, hc⟩ := hS.open (by simp; omega)
  obtain rfl := Option.some.inj hA
  have hk : j / 2 < L.length := by omega
  have hx : (L.map Pt.cells)[j / 2]? = some (L[j / 2].cells) := by rw [List.getElem?_map, List.getElem?_eq_getElem hk]; rfl
  have hm : j % 2 < 2 := Nat.mod_lt _ (by omega)
  obtain ⟨u', hu'⟩ : ∃ u', (L[j / 2].cells)[j % 2]? = some u' := ⟨(L[j / 2].cells)[j % 2]'hm, List.getElem?_eq_getElem (l := L[j / 2].cells) hm⟩
  have h1 := hc (j / 2) _ hx (j % 2) u' hu'
  have h2 := flat_at (c := 2) (L := L.map Pt.cells) (fun x hx => by obtain ⟨m, _, rfl⟩ := List.mem_map.1 hx; rfl) (j / 2) _ hx (j % 2) u' hu'
  have e3 : j / 2 * 2 + j % 2 = j := by omega
  rw [e3, ← List.flatMap_def, hj] at h2
  obtain rfl := Option.some.inj h2
  rw [Nat.add_assoc, e3] at h1
  rw [Addr.add_lit]
  exact h1

set_option maxHeartbeats 1000000 in
set_option maxRecDepth 100000 in
theorem ptClone_any (A : Option Addr) (cap : Nat) (L : List Pt) (w : World) (hS : SlR w 2 (.slice A L.length cap) (L.map Pt.cells)) (hn : L.length ≤ 1099511627776) :
    Calls Tryd.prog 21 #[.slice A L.length cap] w fun e w' => ∃ v, e = .returned v ∧ PRow w' w.heap.size v L ∧ Below w.heap.size w w' := by
  have hq : ∀ (w : World) (a : Option Addr) (n c n' c' : Nat), (binOp .eql 23 (.slice a n c) (.slice none n' c')).run Tryd.prog w = .ok (.bool a.isNone) w := fun w a n c n' c' => Lib.run_eql_slice_nil w _ _ a n c n' c' Tryd.underlying23
  cases A with
  | none =>
    have hL : L = [] := by
      rcases List.eq_nil_or_concat L with h | ⟨t, b, h⟩
      · exact h
      · obtain ⟨b', off, hA, _⟩ := hS.open (by rw [h]; simp)
        cases hA
    subst hL
    go_enter Tryd.func21, Tryd.ntmps21
    go_wp2_with fail
    go_ret
    exact ⟨_, rfl, PRow.nil _ _, Below.self _⟩
  | some ad =>
    have HC := Stow.mk (pt_flat_at hS)
    have HL := Stow.mk (pt_flat_len L)
    have H1 := Stow.mk (pt_flat_one (L := L))
    clear hS
    obtain ⟨i0, hi, hz, hsz, hby⟩ := info_parts info_part
    go_enter Tryd.func21, Tryd.ntmps21
    go_wp2_with (at_builtin; refine wpList_append_own _ rfl _ _ 23 rfl w.heap.size 35 i0 _ 2 24 Tryd.underlying23 hi hz hsz hby rfl (by decide) _ _ _ rfl (World.ownsRow_made w #[] 0 (Nat.le_refl _) (Nat.zero_le _) (by simp)) ad L.length cap (L.flatMap Pt.cells) rfl HL.out ?qc2 H1.out ?qc4 ?qc5 ?qc6 ?_)
    case qc2 => exact fun j u hj => Lib.cell?_alloc_some _ (HC.out j u hj)
    case qc4 => rw [Nat.zero_add]; unfold maxLen; omega
    case qc5 => rw [Nat.zero_add]; omega
    case qc6 => simp
    intro v' w1 hown hgrow hnil
    go_wp2_with fail
    go_ret
    refine ⟨v', rfl, by unfold PRow; simpa using hown, ?_⟩
    exact ((Below.refl _ w).alloc (Nat.le_refl _) _).grown hgrow (by simp) (by intro k hk; simp [Value.ownBlock] at hk; omega)

/-- What Parts gives: the error, a row newer than the Format's own. -/
def PartsOf (g : Nat) (s : List UInt8) (w : World) (e : Ending) (w' : World) : Prop :=
  ∃ v v' N, e = .returned (.tuple #[v', .int .i64 ((Fm.compile s).2.2 : Nat)]) ∧ Held w' g (fmCells s 1 0 1 v ((Fm.compile s).2.2 : Nat)) ∧ PRow w' (g + 1) v (Fm.compile s).1 ∧ PRow w' N v' (Fm.compile s).1 ∧ (∀ k, v.ownBlock = some k → k < N) ∧ g < N ∧ w.heap.size ≤ N ∧ Only g w w'
namespace Fm
theorem comp_few : ∀ (r : List UInt8) (at_ : Nat) (out : List Pt) (text : List UInt8) (m : Option (List UInt8)), (comp r at_ out text m).1.length ≤ out.length + 1 + 2 * r.length
  | [], at_, out, text, none => by
    simp only [comp, flush]
    split <;> simp
  | [], at_, out, text, some acc => by simp [comp]
  | b :: r, at_, out, text, none => by
    unfold comp
    split
    · simp
    · split
      · have := comp_few r (at_ + 1) out text (some [])
        simp only [List.length_cons]; omega
      · have := comp_few r (at_ + 1) out (text ++ [b]) none
        simp only [List.length_cons]; omega
  | b :: r, at_, out, text, some acc => by
    unfold comp
    split
    · split
      · have := comp_few r (at_ + 1) out (text ++ [37]) none
        simp only [List.length_cons]; omega
      · cases hp : part acc with
        | none => simp
        | some p =>
          have := comp_few r (at_ + 1) (flush out text ++ [p]) [] none
          have h2 : (flush out text).length ≤ out.length + 1 := by unfold flush; split <;> simp
          simp only [List.length_append, List.length_cons, List.length_nil] at this ⊢
          omega
    · have := comp_few r (at_ + 1) out text (some (acc ++ [b]))
      simp only [List.length_cons]; omega
theorem compile_few (s : List UInt8) : (compile s).1.length ≤ 241 := by
  unfold compile
  split
  · simp
  · have := comp_few s 0 [] [] none
    simp only [List.length_nil] at this
    omega
end Fm
theorem Held.only {g k : Nat} {w w' : World} {cs : List Value} (h : Held w k cs) (ho : Only g w w') (hne : g ≠ k) : Held w' k cs := h.grown ho (fun e => hne (Option.some.inj e))

set_option maxHeartbeats 2000000 in
set_option maxRecDepth 100000 in
theorem fmParts_first (s : List UInt8) (g : Nat) (w : World) (h : Held w g (fmCells s 0 0 0 (.slice none 0 0) 0)) (hl : s.length ≤ 9223372036854775807) (hm : MaxIs w) (hg : 0 < g) :
    Calls Tryd.prog 12 #[.pointer (some ⟨g, 0, none⟩)] w (PartsOf g s w) := by
  have hmf : ∀ (fn : Fn) (first cap : Array Value) (w : World), (Instr.makeFunc fn first cap).run Tryd.prog w = .ok (.func fn first cap) w := fun _ _ _ _ => rfl
  have HK := Stow.mk (once_first s g w h hl hm hg)
  have HF := Stow.mk (Fm.compile_few s)
  have hlt := h.lt
  obtain ⟨R, hR⟩ : ∃ R, Fm.compile s = R := ⟨_, rfl⟩
  have HRR := Stow.mk hR
  rw [hR] at HK HF
  clear h hm hR
  go_enter Tryd.func12, Tryd.ntmps12
  go_wp2_with (go_at_call 19; refine HK.out.mono ?_; rintro e w1 ⟨rfl, v, hH, hP, hO⟩)
  obtain ⟨A, cap, rfl⟩ := hP.form
  have c5 := hH.cell (i := 5) rfl
  have c6 := hH.cell (i := 6) rfl
  have HH := Stow.mk hH
  have HP := Stow.mk hP
  have HO := Stow.mk hO
  have KC := fun W h => ptClone_any A cap R.1 W h (by have := HF.out; omega)
  have HKC := Stow.mk KC
  have hlt1 := hH.lt
  clear hH hP hO KC
  go_wp2_with fail
  go_region_held3 (fun w' => w'.cell? ⟨g, 5, none⟩ = some (.slice A R.1.length cap) ∧ w'.cell? ⟨g, 6, none⟩ = some (.int .i64 (R.2.2 : Nat))) (first | go_keep | exact ⟨hk1, hk2⟩)
    (first | (go_at_call 21; refine (HKC.out _ (SlR.keep (PRow.slr HP.out) (Below.drew (Below.self w1)))).mono ?_; rintro e w2 ⟨v2, rfl, hP2, hB2⟩; have hH2 := HH.out.drew.kept hB2; have hk1 := hH2.cell (i := 5) rfl; have hk2 := hH2.cell (i := 6) rfl))
  obtain ⟨A2, cap2, rfl⟩ := hP2.form
  have hsz1 := HO.out.size
  have HE : Stow (PartsOf g s w (.returned (.tuple #[.slice A2 R.1.length cap2, .int .i64 (R.2.2 : Nat)])) w2) := ⟨by
    unfold PartsOf
    rw [HRR.out]
    refine ⟨_, _, w1.heap.size, rfl, hH2, PRow.kept (PRow.base HP.out hlt) (Below.call (Below.drew (Below.self w1)) hB2), hP2, fun k hk => (World.ownsRow.lt HP.out k hk).2, hlt1, hsz1, ?_⟩
    exact HO.out.trans ((Only.drewN g w1 1).trans (Only.of_below hB2))⟩
  clear HK HF HKC HH HP HO HRR c5 c6 hk1 hk2 hH2 hP2 hB2
  go_wp2_with fail
  go_ret2
  exact HE.out

set_option maxHeartbeats 2000000 in
set_option maxRecDepth 100000 in
theorem fmParts_again (s : List UInt8) (g : Nat) (v : Value) (w : World) (h : Held w g (fmCells s 1 0 1 v ((Fm.compile s).2.2 : Nat))) (hP : PRow w (g + 1) v (Fm.compile s).1) :
    Calls Tryd.prog 12 #[.pointer (some ⟨g, 0, none⟩)] w (PartsOf g s w) := by
  have hmf : ∀ (fn : Fn) (first cap : Array Value) (w : World), (Instr.makeFunc fn first cap).run Tryd.prog w = .ok (.func fn first cap) w := fun _ _ _ _ => rfl
  have HF := Stow.mk (Fm.compile_few s)
  have hlt := h.lt
  obtain ⟨R, hR⟩ : ∃ R, Fm.compile s = R := ⟨_, rfl⟩
  have HRR := Stow.mk hR
  rw [hR] at h hP HF
  obtain ⟨A, cap, rfl⟩ := hP.form
  have c5 := h.cell (i := 5) rfl
  have c6 := h.cell (i := 6) rfl
  have HH := Stow.mk h
  have HP := Stow.mk hP
  have HKA := Stow.mk (once_again g (.func (.func 20) #[.pointer (some ⟨g, 0, none⟩)] #[]) s _ _ w h)
  have KC := fun W h => ptClone_any A cap R.1 W h (by have := HF.out; omega)
  have HKC := Stow.mk KC
  clear h hP KC hR
  go_enter Tryd.func12, Tryd.ntmps12
  go_wp2_with (go_at_call 19; refine HKA.out.mono ?_; rintro e w1 ⟨rfl, rfl⟩)
  go_region_held3 (fun w' => w'.cell? ⟨g, 5, none⟩ = some (.slice A R.1.length cap) ∧ w'.cell? ⟨g, 6, none⟩ = some (.int .i64 (R.2.2 : Nat))) (first | go_keep | exact ⟨hk1, hk2⟩)
    (first | (go_at_call 21; refine (HKC.out _ (SlR.keep (PRow.slr HP.out) (Below.drew (Below.self _)))).mono ?_; rintro e w2 ⟨v2, rfl, hP2, hB2⟩; have hH2 := HH.out.drew.kept hB2; have hk1 := hH2.cell (i := 5) rfl; have hk2 := hH2.cell (i := 6) rfl))
  obtain ⟨A2, cap2, rfl⟩ := hP2.form
  have HE : Stow (PartsOf g s w1 (.returned (.tuple #[.slice A2 R.1.length cap2, .int .i64 (R.2.2 : Nat)])) w2) := ⟨by
    unfold PartsOf
    rw [HRR.out]
    refine ⟨_, _, w1.heap.size, rfl, hH2, PRow.kept HP.out (Below.call (Below.drew (Below.self w1)) hB2), hP2, fun k hk => (World.ownsRow.lt HP.out k hk).2, hlt, Nat.le_refl _, ?_⟩
    exact (Only.drewN g w1 1).trans (Only.of_below hB2)⟩
  clear HKA HF HKC HH HP HRR c5 c6 hk1 hk2 hH2 hP2 hB2
  go_wp2_with fail
  go_ret2
  exact HE.out

set_option maxRecDepth 100000 in
theorem fmParts_nil (w : World) : Calls Tryd.prog 12 #[.pointer none] w fun e w' => e = .returned (.tuple #[.slice none 0 0, .int .i64 1]) ∧ w' = w := by
  go_enter Tryd.func12, Tryd.ntmps12
  go_wp2_with fail
  go_ret2
  exact ⟨rfl, rfl⟩

set_option maxRecDepth 100000 in
theorem fmMade_nil (w : World) : Calls Tryd.prog 11 #[.pointer none] w fun e w' => e = .returned (.int .i64 0) ∧ w' = w := by
  go_enter Tryd.func11, Tryd.ntmps11
  go_wp2_with fail
  go_ret
  exact ⟨rfl, rfl⟩

set_option maxRecDepth 100000 in
theorem fmMade_any (g : Nat) (cs : List Value) (d : Nat) (w : World) (h : Held w g cs) (hd : cs[4]? = some (.int .i64 (d : Int))) (hb : d ≤ 1) : Calls Tryd.prog 11 #[.pointer (some ⟨g, 0, none⟩)] w fun e w' => e = .returned (.int .i64 (d : Int)) ∧ w' = w := by
  have HK := Stow.mk (i64_load ⟨g, 4, none⟩ d w (h.cell hd))
  clear h hd
  go_enter Tryd.func11, Tryd.ntmps11
  go_wp2_with (go_at_call 18; refine HK.out.mono ?_; rintro e w' ⟨rfl, rfl⟩)
  go_ret
  exact ⟨rfl, rfl⟩

set_option maxRecDepth 100000 in
theorem fmNew_any (s : List UInt8) (w : World) : Calls Tryd.prog 10 #[.string (bs s)] w fun e w' => e = .returned (.pointer (some ⟨w.heap.size, 0, none⟩)) ∧ Held w' w.heap.size (fmCells s 0 0 0 (.slice none 0 0) 0) ∧ Below w.heap.size w w' := by
  have HM := Stow.mk (And.intro (Held.made w (fmCells s 0 0 0 (.slice none 0 0) 0) 63) (Below.alloc' (Below.self w) (.cells (fmCells s 0 0 0 (.slice none 0 0) 0).toArray 63)))
  go_enter Tryd.func10, Tryd.ntmps10
  go_wp2_with fail
  go_ret
  exact ⟨rfl, HM.out⟩

end Go.Proofs.YtmknemnpjjcdbaaDoor
