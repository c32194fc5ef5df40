/- Walks of the parser's flush and piece. Conditions: the parser's memory; texts no longer than 2^31; a variable of the library's holds an int. -/
import Derived.Test.YtmknemnpjjcdbaaDoorFmPart
import Derived.Deep.RegionLaw
import Derived.RegionTactic
import Derived.Deep.AppendLies
namespace Go.Proofs.YtmknemnpjjcdbaaDoor
open Go.RowKit
set_option linter.unusedVariables false

theorem brow_cells {w : World} {B : Nat} {e : TypeId} {v : Value} {l : List UInt8} (h : BRow w B e v l) (h0 : 0 < l.length) : ∃ g cap, v = .slice (some ⟨g, 0, none⟩) l.length cap ∧ B ≤ g ∧ g < w.heap.size ∧ ∀ j (hj : j < l.length), w.cell? ⟨g, j, none⟩ = some (.int .u8 (l[j].toNat : Int)) := by
  have h' := h
  unfold BRow at h
  obtain ⟨g, cap, hv, hb, hg⟩ := World.ownsRow.form h h0
  refine ⟨g, cap, hv, hb, hg, fun j hj => ?_⟩
  have := World.ownsRow.cells h (g := g) (by rw [hv]; rfl) j (.int .u8 (l[j].toNat : Int)) (by simp [hj])
  rw [Addr.add_lit, Nat.zero_add] at this
  exact this
theorem fm_conv (w : World) (g cap : Nat) (l : List UInt8) (hc : ∀ j (hj : j < l.length), w.cell? ⟨g, j, none⟩ = some (.int .u8 (l[j].toNat : Int))) :
    (convert 39 9 (.slice (some ⟨g, 0, none⟩) l.length cap)).run Tryd.prog w = .ok (.string (bs l)) w :=
  run_convert_bytes_back w _ _ 5 ⟨g, 0, none⟩ cap l Tryd.underlying39 Tryd.underlying5 Tryd.underlying9 fun j hj => by rw [Addr.add_lit, Nat.zero_add]; exact hc j hj

theorem held_far {w : World} {X g : Nat} {cs : List Value} (h : Held w X cs) (hne : X ≠ g) (i : Nat) (v : Value) : Held (w.setCell ⟨g, i, none⟩ v) X cs :=
  h.grown (Only.set g w i v) (fun e => hne (Option.some.inj e).symm)

set_option maxHeartbeats 1000000 in
set_option maxRecDepth 100000 in
theorem fmFlush_at (g : Nat) (out : List Pt) (text : List UInt8) (ov tv : Value) (w : World) (h1 : Held w g [ov, tv]) (h2 : PRow w (g + 1) ov out) (h3 : BRow w (g + 1) 5 tv text) (h4 : ∀ k, ov.ownBlock = some k → tv.ownBlock ≠ some k) (hn : out.length ≤ 100000) (ht : text.length ≤ 100000) :
    Calls Tryd.prog 15 #[.pointer (some ⟨g, 0, none⟩)] w fun e w' => e = .returned (.tuple #[]) ∧ Psr w' g (Fm.flush out text) [] ∧ Below g w w' ∧ ∀ X cs, Held w X cs → X ≠ g → ov.ownBlock ≠ some X → Held w' X cs := by
  have a0 := h1.cell (i := 0) rfl
  have a1 := h1.cell (i := 1) rfl
  have f0 := h1.free 0
  have f1 := h1.free 1
  have hlt := h1.lt
  have hge : (w.heap.size == g) = false := by simp; omega
  have H1 := Stow.mk h1
  have H2 := Stow.mk h2
  have H3 := Stow.mk h3
  have H4 := Stow.mk h4
  by_cases h0 : text.length = 0
  · obtain rfl := List.eq_nil_of_length_eq_zero h0
    obtain ⟨A, cap, rfl⟩ := own_form h3
    clear h1 h2 h3 h4
    go_enter Tryd.func15, Tryd.ntmps15
    go_wp2_with fail
    first | go_end0 | refine bodyPost_ret (results_none rfl _ _ _) rfl ?_
    exact ⟨rfl, ⟨_, _, H1.out, H2.out, H3.out, H4.out⟩, Below.refl g w, fun X cs h _ _ => h⟩
  · obtain ⟨k, cap, rfl, hk1, hk2, hkc⟩ := brow_cells h3 (by omega)
    obtain ⟨A, c2, rfl⟩ := h2.form
    have hcv := fm_conv w.drew k cap text hkc
    have hti : (0 : Int) < text.length := by omega
    obtain ⟨i0, hi, hz, hsz, hby⟩ := info_parts info_part
    have HI := Stow.mk hi
    have HZ := Stow.mk hz
    have HSZ := Stow.mk hsz
    have HBY := Stow.mk hby
    have HFL : Stow (Fm.flush out text = out ++ [(0, text)]) := ⟨by unfold Fm.flush; rw [if_neg (by intro h; rw [h] at h0; simp at h0)]⟩
    have HD : Stow (Held (w.alloc (.cells #[.int .i64 0, .string (bs text)] 35)).drew g [.slice A out.length c2, .slice (some ⟨k, 0, none⟩) text.length cap]) := ⟨(h1.kept (Below.alloc' (Below.self w) _)).drew⟩
    have HO : Stow ((w.alloc (.cells #[.int .i64 0, .string (bs text)] 35)).drew.ownsRow (g + 1) 35 2 (.slice A out.length c2) out.length (out.flatMap Pt.cells)) := ⟨World.ownsRow.drew (World.ownsRow.alloc h2 _)⟩
    have HX : Stow (∀ j u, ([.int .i64 0, .string (bs text)] : List Value)[j]? = some u → (w.alloc (.cells #[.int .i64 0, .string (bs text)] 35)).drew.cell? ((⟨w.heap.size, 0, none⟩ : Addr).add j) = some u) := ⟨World.news_of_block (cs := #[.int .i64 0, .string (bs text)]) (heap_alloc_new w _)⟩
    have HX1 : Stow (∀ u ∈ ([.int .i64 0, .string (bs text)] : List Value), u.oneCell' = true) := ⟨pt_one (p := (0, text))⟩
    have HN1 : Stow (out.length + 1 ≤ maxLen ∧ (out.length + 1) * 24 ≤ 140737488355328 ∧ g + 1 ≤ (w.alloc (.cells #[.int .i64 0, .string (bs text)] 35)).drew.heap.size) := ⟨by unfold maxLen; omega, by omega, by simp; omega⟩
    have HBG : Stow (Below g w (w.alloc (.cells #[.int .i64 0, .string (bs text)] 35)).drew) := ⟨((Below.refl g w).alloc (by omega) _).drew⟩
    clear h1 h2 h3 h4 hkc hi hz hsz hby
    go_enter Tryd.func15, Tryd.ntmps15
    go_wp2_with fail
    go_region_law (refine step_append_lies _ rfl (.tmp 12) (.tmp 19) 23 rfl (g + 1) 35 i0 _ 2 24 Tryd.underlying23 HI.out HZ.out HSZ.out HBY.out rfl (by decide) _ out.length _ rfl HO.out ⟨w.heap.size, 0, none⟩ 1 1 [.int .i64 0, .string (bs text)] rfl rfl HX.out HX1.out (by decide) HN1.out.1 HN1.out.2.1 HN1.out.2.2 _ rfl ?_; intro g' cap' w' hown hgrow hat hlt'; have HOW := Stow.mk hown; have HGR := Stow.mk hgrow; have ha := HD.out.grown hgrow (own_block HO.out (by omega)); have b0' := ha.cell (i := 0) rfl; have b1' := ha.cell (i := 1) rfl; have f0' := ha.free 0; have f1' := ha.free 1; have HA := Stow.mk ha; clear hown hgrow hat ha)
    all_goals go_wp2_with fail
    all_goals first | go_end0 | refine bodyPost_ret (results_none rfl _ _ _) rfl ?_
    all_goals
      have hp := psr_out HD.out HO.out HGR.out (out' := out ++ [(0, text)]) (by unfold PRow; simpa [Pt.cells] using HOW.out)
      refine ⟨rfl, ?_, ?_, fun X cs hX hXg hXo => ?_⟩
      · rw [HFL.out]
        exact psr_none (hp.1.set 1 _) (own_set hp.2 (by omega) _ _)
      · exact ((HBG.out.grown HGR.out (by simp; omega) (fun k hk => by have := (HO.out.lt k hk).1; omega)).setCell (p := ⟨g, 0, none⟩) (Nat.le_refl _) _).setCell (p := ⟨g, 1, none⟩) (Nat.le_refl _) _
      · exact held_far (held_far ((hX.kept (Below.alloc' (Below.self w) _)).drew.grown HGR.out hXo) hXg _ _) hXg _ _
theorem fmFlush_any (g : Nat) (out : List Pt) (text : List UInt8) (w : World) (h : Psr w g out text) (hn : out.length ≤ 100000) (ht : text.length ≤ 100000) :
    Calls Tryd.prog 15 #[.pointer (some ⟨g, 0, none⟩)] w fun e w' => e = .returned (.tuple #[]) ∧ Psr w' g (Fm.flush out text) [] ∧ Below g w w' := by
  obtain ⟨ov, tv, h1, h2, h3, h4⟩ := h
  refine (fmFlush_at g out text ov tv w h1 h2 h3 h4 hn ht).mono ?_
  rintro e w' ⟨a, b, c, _⟩
  exact ⟨a, b, c⟩

/-- 'append(out, s...)' of a text at the operation. -/
theorem wpList_append_text_lies {P : Program} {ops : Array Oper} {rest : List Oper} {o : Oper} {a : Act} {Q : Exit → Act → World → Prop} {w : World} (hgd : o.guard = none) (sl x : Operand) (t u : TypeId)
    (ho : o.op = Op.call { callee := Callee.builtin Builtin.append, args := #[sl, x], argTypes := #[t, u] })
    (base : Nat) (e : TypeId) (ht : P.underlying t = some (.slice e)) (hu : P.underlying u = some .string) (hinfo : (P.info? e).map (fun i => (i.zero, i.size, i.bytes)) = some (some (.int .u8 0), 1, 1))
    (v : Value) (l : List UInt8) (hs : a.eval sl = v) (hown : BRow w base e v l) (s : ByteArray) (hx : a.eval x = .string s)
    (hlen : l.length + s.size ≤ 140737488355328) (hbase : base ≤ w.heap.size)
    (h : ∀ A cap w', BRow w' base e (.slice A (l.length + s.size) cap) (l ++ s.data.toList) → w.grownBy w' v.ownBlock → ((Value.slice A (l.length + s.size) cap).ownBlock = v.ownBlock ∨ ∀ k, (Value.slice A (l.length + s.size) cap).ownBlock = some k → w.heap.size ≤ k) → wpList P ops Q rest (a.put o.dst (.slice A (l.length + s.size) cap)) w') : wpList P ops Q (o :: rest) a w := by
  obtain ⟨i, hi, hz, hsz, hby⟩ := info_parts hinfo
  refine wpList_plain hgd fun K hK => ?_
  obtain ⟨v', w', hr, h2, h3, h4⟩ := run_append_text_lies (P := P) w base t u o.type e i ht hu hi hz hsz hby v l.length _ hown s (by unfold maxLen; omega) hlen hbase
  have hrow : BRow w' base e v' (l ++ s.data.toList) := by
    unfold BRow
    have e1 : (l ++ s.data.toList).length = l.length + s.size := by rw [List.length_append, Array.length_toList]; rfl
    rw [e1, List.map_append]
    exact h2
  obtain ⟨A, cap, rfl⟩ := own_form h2
  unfold Oper.wp execOp
  simp only [ho, resolve, invoke, builtin, Sem.run_bind, Sem.run_pure, Result.andThen_ok, List.map_toArray, List.map_cons, List.map_nil, hs, hx, hr]
  exact hK _ _ (h A cap w' hrow h3 h4)

set_option maxHeartbeats 1000000 in
set_option maxRecDepth 100000 in
theorem fmPiece_no (g : Nat) (rest : List UInt8) (w : World) (hi : Lib.index rest [37] = -1) (hl : rest.length ≤ 100000) (hm : MaxIs w) :
    Calls Tryd.prog 14 #[.pointer (some ⟨g, 0, none⟩), .string (bs rest)] w fun e w' => e = .returned (.tuple #[.int .i64 0, .bool false]) ∧ w' = w := by
  have HI := Stow.mk hi
  have HM := Stow.mk hm
  clear hi hm
  go_enter Tryd.func14, Tryd.ntmps14
  go_wp2_with fail
  refine (fmIndex_lib rest _ (by omega) HM.out).mono ?_
  rw [HI.out]
  rintro e w1 ⟨rfl, rfl⟩
  go_wp2_with fail
  go_ret2
  exact ⟨rfl, rfl⟩

set_option maxHeartbeats 1000000 in
set_option maxRecDepth 100000 in
theorem fmPiece_zero (g : Nat) (out : List Pt) (text rest : List UInt8) (w : World) (h : Psr w g out text) (hi : Lib.index rest [37] = 0) (hl : rest.length ≤ 100000) (ht : text.length ≤ 100000) (hm : MaxIs w) :
    Calls Tryd.prog 14 #[.pointer (some ⟨g, 0, none⟩), .string (bs rest)] w fun e w' => e = .returned (.tuple #[.int .i64 1, .bool true]) ∧ Psr w' g out (text ++ [37]) ∧ Below g w w' := by
  have HI := Stow.mk hi
  have HM := Stow.mk hm
  obtain ⟨ov, tv, h1, h2, h3, h4⟩ := h
  have H1 := Stow.mk h1
  have H2 := Stow.mk h2
  have H3 := Stow.mk h3
  have H4 := Stow.mk h4
  obtain ⟨A, cap, rfl⟩ := own_form h3
  have a0 := h1.cell (i := 0) rfl
  have a1 := h1.cell (i := 1) rfl
  have f0 := h1.free 0
  have f1 := h1.free 1
  have hlt := h1.lt
  have K1 : Stow (g + 1 ≤ w.heap.size) := ⟨by omega⟩
  have K2 : Stow (text.length + 1 ≤ 140737488355328) := ⟨by omega⟩
  clear hi hm h1 h2 h3 h4
  go_enter Tryd.func14, Tryd.ntmps14
  go_wp2_with fail
  refine (fmIndex_lib rest _ (by omega) HM.out).mono ?_
  rw [HI.out]
  rintro e w1 ⟨rfl, rfl⟩
  go_wp2_with (at_builtin; refine wpList_append_text_lies rfl (.tmp 20) _ 39 9 rfl (g + 1) 5 Tryd.underlying39 Tryd.underlying9 info_byte _ text rfl H3.out ⟨#[37]⟩ rfl K2.out K1.out ?_; intro A2 cap2 w2 hr2 hg2 hl2; have ha := H1.out.grown hg2 (own_block H3.out (by omega)); have b0 := ha.cell (i := 0) rfl; have b1 := ha.cell (i := 1) rfl; have g0 := ha.free 0; have g1 := ha.free 1; have HR := Stow.mk (And.intro hr2 (And.intro hg2 hl2)); clear hr2 hg2 hl2 ha)
  go_ret2
  refine ⟨rfl, psr_text H1.out H2.out H3.out H4.out HR.out.2.1 HR.out.1 HR.out.2.2, ?_⟩
  exact ((Below.refl g _).grown HR.out.2.1 (by omega) (fun k hk => by have := (World.ownsRow.lt H3.out k hk).1; omega)).setCell (p := ⟨g, 1, none⟩) (Nat.le_refl _) _
end Go.Proofs.YtmknemnpjjcdbaaDoor
