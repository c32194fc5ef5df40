/- Walk of the reference's Fresh. Condition: windows as they come of numbers.; Walk of the fixed calls. No condition. -/
import Derived.Test.YtfbhdkkmcfnghaaGreatM35

section
namespace Go.Proofs.YtfbhdkkmcfnghaaGreat
open Go.RowKit
set_option linter.unusedVariables false

theorem row_set {w2 : World} {B g0 c i : Nat} {R : List Wm} (hrow : WRow w2 B (.slice (some ⟨g0, 0, none⟩) R.length c) R) (hi : i < R.length) (q : Wm) :
    WRow (((w2.setCell ⟨g0, i * 3, none⟩ (.int .i64 q.w.n)).setCell ⟨g0, i * 3 + 1, none⟩ (.int .i64 q.w.h)).setCell ⟨g0, i * 3 + 2, none⟩ (.slice q.A q.w.s.length q.cap)) B (.slice (some ⟨g0, 0, none⟩) R.length c) (R.set i q) := by
  have s0 := (World.ownsRow.stored hrow (i * 3) (.int .i64 q.w.n)).1
  have s1 := (World.ownsRow.stored s0 (i * 3 + 1) (.int .i64 q.w.h)).1
  have s2 := (World.ownsRow.stored s1 (i * 3 + 2) (.slice q.A q.w.s.length q.cap)).1
  rw [flat_set hi] at s2
  unfold WRow
  rw [List.length_set]
  exact s2
theorem win_set {w w' : World} {v v' : Value} {R : List Wm} {B i : Nat} (hW : WinR w v R) (hi : i < R.length) (q : Wm) (hb : Below w.heap.size w w') (hrow : WRow w' B v' (R.set i q)) (hq : SlR w' 1 q.v (q.w.s.map ic)) : WinR w' v' (R.set i q) := by
  refine ⟨hrow.slr, fun p hp => ?_, fun e => ?_⟩
  · obtain ⟨j, hj, rfl⟩ := List.getElem_of_mem hp
    rw [List.length_set] at hj
    rw [List.getElem_set]
    split
    · exact hq
    · exact (hW.ints _ (List.getElem_mem hj)).keep hb
  · have := congrArg List.length e
    simp at this
    subst this
    simp at hi
theorem win_flat (R : List Wm) : (R.flatMap Wm.cells).length = R.length * 3 := by
  induction R with
  | nil => rfl
  | cons p t ih => simp only [List.flatMap_cons, List.length_append, ih, List.length_cons, Wm.cells, List.length_nil]; omega
theorem win_cells {w : World} {b off n cap : Nat} {R : List Wm} (h : SlR w 3 (.slice (some ⟨b, off, none⟩) n cap) (R.map Wm.cells)) : ∀ j u, (R.flatMap Wm.cells)[j]? = some u → w.cell? ((⟨b, off, none⟩ : Addr).add j) = some u := by
  intro j u hj
  have hjl : j < R.length * 3 := by
    rcases Nat.lt_or_ge j (R.flatMap Wm.cells).length with h | h
    · rw [win_flat] at h; exact h
    · simp [List.getElem?_eq_none h] at hj
  have hk : j / 3 < R.length := by omega
  have hx : (R.map Wm.cells)[j / 3]? = some (R[j / 3].cells) := by rw [List.getElem?_map, List.getElem?_eq_getElem hk]; rfl
  have hm : j % 3 < 3 := Nat.mod_lt _ (by omega)
  obtain ⟨u', hu'⟩ : ∃ u', (R[j / 3].cells)[j % 3]? = some u' := ⟨(R[j / 3].cells)[j % 3]'hm, List.getElem?_eq_getElem (l := R[j / 3].cells) hm⟩
  have h1 := (h.cells hx).2 (j % 3) u' hu'
  have h2 := flat_at (c := 3) (L := R.map Wm.cells) (fun x hx => by obtain ⟨m, _, rfl⟩ := List.mem_map.1 hx; rfl) (j / 3) _ hx (j % 3) u' hu'
  have e3 : j / 3 * 3 + j % 3 = j := by omega
  rw [e3, ← List.flatMap_def, hj] at h2
  obtain rfl := Option.some.inj h2
  rw [Nat.add_assoc, e3] at h1
  rw [Addr.add_lit]
  exact h1
theorem win_one {R : List Wm} : ∀ u ∈ R.flatMap Wm.cells, u.oneCell' = true := by
  intro u hu
  obtain ⟨p, _, hp⟩ := List.mem_flatMap.1 hu
  simp [Wm.cells] at hp
  rcases hp with rfl | rfl | rfl <;> rfl

/-- A window more, behind windows of one's own row. -/
theorem win_more {w w2 w4 : World} {v : Value} {R : List Wm} {A4 : Option Addr} {cap4 : Nat} {node x : Int} (hW : WinR w v R) (hb4 : Below w.heap.size w w4)
    (hown : w4.ownsRow w.heap.size 113 3 (.slice A4 (R.length + 1) cap4) (R.length + 1) (R.flatMap Wm.cells ++ [.int .i64 node, .int .i64 x, .slice (some ⟨w2.heap.size, 0, none⟩) 1 1]))
    (hI : WnRow w4 w2.heap.size (.slice (some ⟨w2.heap.size, 0, none⟩) 1 1) [x]) : WinR w4 (.slice A4 (R.length + 1) cap4) (R ++ [(⟨⟨node, x, [x]⟩, some ⟨w2.heap.size, 0, none⟩, 1⟩ : Wm)]) := by
  have hrow : WRow w4 w.heap.size (.slice A4 (R.length + 1) cap4) (R ++ [(⟨⟨node, x, [x]⟩, some ⟨w2.heap.size, 0, none⟩, 1⟩ : Wm)]) := by
    unfold WRow
    rw [List.length_append, List.flatMap_append]
    exact hown
  refine ⟨hrow.slr, fun p hp => ?_, fun e => by simp at e⟩
  rcases List.mem_append.1 hp with hp | hp
  · exact (hW.ints p hp).keep hb4
  · simp at hp; subst hp
    exact hI.slr

/-- All blocks are of a kind. -/
def InW (P : Nat → Prop) (v : Value) (R : List Wm) : Prop := (∀ a n c, v = .slice (some a) n c → P a.block) ∧ ∀ p ∈ R, ∀ a, p.A = some a → P a.block
theorem InW.put {P : Nat → Prop} {B i : Nat} {v v' : Value} {R : List Wm} (h : InW P v R) (hP : ∀ k, B ≤ k → P k) (q : Wm) (hv : ∀ a n c, v' = .slice (some a) n c → B ≤ a.block) (hq : ∀ a, q.A = some a → B ≤ a.block) : InW P v' (R.set i q) :=
  ⟨fun a n c e => hP _ (hv a n c e), fun p hp a ha => by
    rcases List.mem_or_eq_of_mem_set hp with hp | rfl
    · exact h.2 p hp a ha
    · exact hP _ (hq a ha)⟩
theorem InW.more {P : Nat → Prop} {B : Nat} {v v' : Value} {R : List Wm} (h : InW P v R) (hP : ∀ k, B ≤ k → P k) (q : Wm) (hv : ∀ a n c, v' = .slice (some a) n c → B ≤ a.block) (hq : ∀ a, q.A = some a → B ≤ a.block) : InW P v' (R ++ [q]) :=
  ⟨fun a n c e => hP _ (hv a n c e), fun p hp a ha => by
    rcases List.mem_append.1 hp with hp | hp
    · exact h.2 p hp a ha
    · obtain rfl : p = q := by simpa using hp
      exact hP _ (hq a ha)⟩
/-- What the reference's Fresh leaves, and where. -/
def FreshIn (w : World) (v : Value) (R : List Wm) (L : List Wi) (node x : Int) (e : Ending) (w' : World) : Prop :=
  ∃ v' R', e = .returned (.tuple #[v', .bool (Dd.fresh L node x).2]) ∧ wis R' = (Dd.fresh L node x).1 ∧ WinR w' v' R' ∧ Below w.heap.size w w' ∧ ∀ P : Nat → Prop, (∀ k, w.heap.size ≤ k → P k) → InW P v R → InW P v' R'


set_option maxHeartbeats 2000000 in
set_option maxRecDepth 100000 in
theorem refFresh_in (node x : Int) (v : Value) (R : List Wm) (w : World) (hW : WinR w v R) (hok : Dd.Ok (wis R)) :
    Calls Tryz.prog 32 #[v, .int .i64 node, .int .i64 x] w (FreshIn w v R (wis R) node x) := by
  have HW := Stow.mk hW
  have HOK := Stow.mk hok
  obtain ⟨A, c, hv, _⟩ := hW.row.form
  rw [List.length_map] at hv
  subst hv
  have hR8 : R.length ≤ 8 := by have := hok.len; simpa using this
  clear hW hok
  by_cases hbad : Dd.bad node x = true
  · have HF := Stow.mk (Dd.fresh_bad (L := wis R) hbad)
    rcases bad_cases hbad with h1 | ⟨h1, h2⟩ | ⟨h1, h2, h3⟩ | ⟨h1, h2, h3, h4⟩
    all_goals
      clear hbad
      go_enter Tryz.func32, Tryz.ntmps32
      go_wp2_with fail
      go_ret2
      exact ⟨.slice A R.length c, R, by rw [HF.out]; rfl, by rw [HF.out], HW.out, Below.self _, fun P h1 h2 => h2⟩
  have hbf : Dd.bad node x = false := by simpa using hbad
  obtain ⟨n0, n8, x0, x1⟩ := Dd.bad_no hbf
  have HBF := Stow.mk hbf
  clear hbad hbf
  obtain ⟨i0, hi, hz, hsz, hby⟩ := info_parts info_window
  have HI0 := Stow.mk hi
  have HZ0 := Stow.mk hz
  have HS0 := Stow.mk hsz
  have HY0 := Stow.mk hby
  clear hi hz hsz hby
  have HN0 : Stow (w.ownsRow w.heap.size 113 3 (.slice none 0 0) 0 []) := ⟨World.ownsRow_nil _ _ _ _⟩
  have K1 : Stow (∀ (gx : Nat), ∀ u ∈ [Value.int .i64 node, .int .i64 x, .slice (some ⟨gx, 0, none⟩) 1 1], u.oneCell' = true) := ⟨by intro gx u hu; simp at hu; rcases hu with rfl | rfl | rfl <;> rfl⟩
  have K2 : Stow ((R.length + 1) * 40 ≤ 140737488355328) := ⟨by omega⟩
  have K3 : Stow (R.length + 1 ≤ maxLen) := ⟨by unfold maxLen; omega⟩
  rcases Nat.eq_zero_or_pos R.length with hr0 | hr0
  · obtain rfl := List.eq_nil_of_length_eq_zero hr0
    have hnil := HW.out.nil rfl
    simp only [List.length_nil, Value.slice.injEq] at hnil
    obtain ⟨rfl, _, rfl⟩ := hnil
    have HF := Stow.mk (Dd.fresh_new (L := wis []) (x := x) HBF.out rfl)
    have HNA : Stow ((w.alloc (.cells #[.int .i64 x] 3)).ownsRow w.heap.size 113 3 (.slice none 0 0) 0 []) := ⟨World.ownsRow_nil _ _ _ _⟩
    have K4 : Stow (w.heap.size ≤ (w.alloc (.cells #[.int .i64 x] 3)).heap.size) := ⟨by simp⟩
    go_enter Tryz.func32, Tryz.ntmps32
    go_wp2_with (at_builtin; refine wpList_append_own_none rfl (.tmp 29) (.tmp 30) 29 rfl w.heap.size 113 i0 3 Tryz.underlying29 HI0.out _ _ _ rfl HN0.out rfl ?_)
    refine (refAt_any node none 0 [] _ HW.out.row).mono ?_
    rw [show Dd.pl (wis []) node = none from rfl]
    rintro e w1 ⟨rfl, rfl⟩
    simp only [plInt]
    go_wp2_with (at_builtin; refine wpList_append_elem_form _ _ _ rfl (.tmp 37) (.tmp 43) 29 rfl w1.heap.size 113 _ 3 40 Tryz.underlying29 info_window _ _ _ HNA.out rfl _ rfl (by simp) rfl (by decide) rfl (K1.out _) K2.out K3.out K4.out ?_; intro A4 cap4 w4 hown4 hg4 hb4 hs4)
    have hlit : WnRow (w1.alloc (.cells #[.int .i64 x] 3)) w1.heap.size (.slice (some ⟨w1.heap.size, 0, none⟩) 1 1) [x] := World.ownsRow_lit w1 #[.int .i64 x] 1 (Nat.le_refl _) (by unfold maxLen; omega) rfl
    have hI4 : WnRow w4 w1.heap.size (.slice (some ⟨w1.heap.size, 0, none⟩) 1 1) [x] := World.ownsRow.kept (World.ownsRow.alloc hlit _) hg4 (.inr (by simp [Value.ownBlock]))
    have hbw : Below w1.heap.size w1 w4 := (Below.alloc' (Below.self w1) _).trans hb4
    go_ret2
    exact ⟨.slice A4 (0 + 1) cap4, _, by rw [HF.out]; rfl, by rw [HF.out]; rfl, win_more (w2 := w1) (R := []) HW.out hbw hown4 hI4, hbw, fun P h1 h2 => InW.more (R := []) h2 h1 _ (fun a n c e => row_new hown4 a n c e) (fun a ha => by cases ha; exact Nat.le_refl _)⟩
  obtain ⟨b, off, rfl, hblt, _⟩ := HW.out.row.open (by simpa using hr0)
  have HNC := Stow.mk (win_cells HW.out.row)
  have HNO := Stow.mk (win_one (R := R))
  have HNF := Stow.mk (win_flat R)
  have K5 : Stow (0 + R.length ≤ maxLen) := ⟨by unfold maxLen; omega⟩
  have K6 : Stow ((0 + R.length) * 40 ≤ 140737488355328) := ⟨by omega⟩
  obtain ⟨o, ho⟩ : ∃ o, Dd.pl (wis R) node = o := ⟨_, rfl⟩
  have HPL := Stow.mk ho
  clear ho
  go_enter Tryz.func32, Tryz.ntmps32
  go_wp2_with (at_builtin; refine wpList_append_own _ rfl (.tmp 29) (.tmp 30) 29 rfl w.heap.size 113 i0 _ 3 40 Tryz.underlying29 HI0.out HZ0.out HS0.out HY0.out rfl (by decide) _ _ _ rfl HN0.out ⟨b, off, none⟩ R.length c (R.flatMap Wm.cells) rfl HNF.out HNC.out HNO.out K5.out K6.out (Nat.le_refl _) ?_; intro v1 w1 hown1 hg1 hn1)
  have hg1' : w.grownBy w1 none := hg1
  have hb1 : Below w.heap.size w w1 := (Below.self w).grown hg1' (Nat.le_refl _) (fun k hk => by cases hk)
  rw [Nat.zero_add, List.nil_append] at hown1
  obtain ⟨g0, c0, rfl, hg0w, hg0lt⟩ := row_form hown1 hr0
  have HR1 : Stow (WRow w1 w.heap.size (.slice (some ⟨g0, 0, none⟩) R.length c0) R) := ⟨hown1⟩
  have HB1 := Stow.mk hb1
  have HW1 := Stow.mk (HW.out.keep hb1)
  clear hown1 hg1 hg1' hn1 hb1
  go_wp2_with fail
  refine (refAt_any node _ c R _ HW1.out.row).mono ?_
  rw [HPL.out]
  rintro e w1' ⟨rfl, rfl⟩
  cases o with
  | none =>
    have HF := Stow.mk (Dd.fresh_new (L := wis R) (x := x) HBF.out HPL.out)
    have HRA := Stow.mk (HR1.out.keep (Below.alloc' (Below.self w1') (.cells #[.int .i64 x] 3)))
    have K4 : Stow (w.heap.size ≤ (w1'.alloc (.cells #[.int .i64 x] 3)).heap.size) := ⟨by have := HB1.out.size; simp; omega⟩
    simp only [plInt]
    go_wp2_with (at_builtin; refine wpList_append_elem_form _ _ _ rfl (.tmp 37) (.tmp 43) 29 rfl w.heap.size 113 _ 3 40 Tryz.underlying29 info_window _ _ _ HRA.out rfl _ rfl (by simp) rfl (by decide) rfl (K1.out _) K2.out K3.out K4.out ?_; intro A4 cap4 w4 hown4 hg4 hb4 hs4)
    have hlit : WnRow (w1'.alloc (.cells #[.int .i64 x] 3)) w1'.heap.size (.slice (some ⟨w1'.heap.size, 0, none⟩) 1 1) [x] := World.ownsRow_lit w1' #[.int .i64 x] 1 (Nat.le_refl _) (by unfold maxLen; omega) rfl
    have hI4 : WnRow w4 w1'.heap.size (.slice (some ⟨w1'.heap.size, 0, none⟩) 1 1) [x] := World.ownsRow.kept (World.ownsRow.alloc hlit _) hg4 (.inr (by simp [Value.ownBlock]; omega))
    have hbw : Below w.heap.size w w4 := (Below.alloc' HB1.out _).trans hb4
    go_ret2
    exact ⟨.slice A4 (R.length + 1) cap4, _, by rw [HF.out]; rfl, by rw [HF.out]; simp, win_more (w2 := w1') HW.out hbw hown4 hI4, hbw, fun P h1 h2 => InW.more h2 h1 _ (fun a n c e => row_new hown4 a n c e) (fun a ha => by cases ha; exact HB1.out.size)⟩
  | some i =>
    obtain ⟨hi, hin⟩ := plR_lt HPL.out
    have hiL : i < (wis R).length := by simpa using hi
    have hLi : (wis R)[i] = R[i].w := by simp
    have HF := Stow.mk (Dd.fresh_at (x := x) HBF.out HPL.out hiL)
    rw [hLi] at HF
    have hokp : Dd.OkW R[i].w := HOK.out.each _ (by rw [← hLi]; exact List.getElem_mem hiL)
    have hsp := win_at HW1.out.row hi
    have hsr := win_at HR1.out.slr hi
    have HIS := Stow.mk (HW1.out.ints _ (List.getElem_mem hi))
    have hii : (i : Int) < R.length := by omega
    have HSET := Stow.mk (fun {w' : World} {v' : Value} {B : Nat} q h1 h2 h3 => win_set (w' := w') (v' := v') (B := B) HW.out hi q h1 h2 h3)
    have HRS := Stow.mk (fun {w2 : World} {B g0 c : Nat} h q => row_set (w2 := w2) (B := B) (g0 := g0) (c := c) h hi q)
    have HPN : Stow (R[i].w.n = node) := ⟨hin⟩
    clear hiL hLi hin
    obtain ⟨p, hp⟩ : ∃ p, R[i] = p := ⟨_, rfl⟩
    have HP := Stow.mk hp
    rw [hp] at hsp hsr HIS HF hokp HPN
    clear hp
    have HOKP := Stow.mk hokp
    have hsl := hokp.len
    have hh0 := hokp.h0
    have hh1 := hokp.h1
    clear hokp
    obtain ⟨⟨n, h, s⟩, PA, pc⟩ := p
    obtain ⟨hltb, q0, q1, q2⟩ := hsp
    obtain ⟨hg0l, r0, r1, r2⟩ := hsr
    simp only [Wm.v, Nat.zero_add] at q0 q1 q2 r0 r1 r2 HIS HF hsl hh0 hh1 HOKP HPN
    obtain rfl : n = node := HPN.out
    have hfr : ∀ k, w1'.frozen? ⟨g0, k, none⟩ = false := fun k => World.ownsRow.frozenAt HR1.out k
    have HCK : Stow (∀ w3, Below w1'.heap.size w1' w3 → (w3.cell? ⟨g0, i * 3, none⟩ = some (.int .i64 n) ∧ w3.cell? ⟨g0, i * 3 + 1, none⟩ = some (.int .i64 h) ∧ w3.cell? ⟨g0, i * 3 + 2, none⟩ = some (.slice PA s.length pc) ∧ ∀ k, w3.frozen? ⟨g0, k, none⟩ = false)) := ⟨fun w3 hb => by
      have hbk := hb.block g0 hg0l
      exact ⟨(World.cell?_of_block (a := ⟨g0, i * 3, none⟩) hbk).trans r0, (World.cell?_of_block (a := ⟨g0, i * 3 + 1, none⟩) hbk).trans r1, (World.cell?_of_block (a := ⟨g0, i * 3 + 2, none⟩) hbk).trans r2, fun k => (World.frozen?_of_block (a := ⟨g0, k, none⟩) hbk).trans (hfr k)⟩⟩
    have HHD : Stow (∀ w3, Below (w1'.alloc (.cells #[.int .i64 n, .int .i64 h, .slice PA s.length pc] 113)).heap.size (w1'.alloc (.cells #[.int .i64 n, .int .i64 h, .slice PA s.length pc] 113)) w3 → Held w3 w1'.heap.size [.int .i64 n, .int .i64 h, .slice PA s.length pc]) := ⟨fun w3 hb => (Held.made w1' [.int .i64 n, .int .i64 h, .slice PA s.length pc] _).kept hb⟩
    simp only [plInt]
    clear r0 r1 r2 hfr
    by_cases hhx : h < x
    · have HST : Stow (Dd.step ⟨n, h, s⟩ x = some ⟨n, x, keepS x s ++ [x]⟩) := ⟨by unfold Dd.step; rw [if_pos hhx]; rfl⟩
      go_wp2_with fail
      refine (refWith_any s PA pc x (x - 128) _ (HIS.out.alloc _) hsl.2 (fun y hy => by have := HOKP.out.le y hy; simp only at this; omega) rfl).mono ?_
      rintro e w3 ⟨g', c', rfl, hg'1, hg'2, hI3, hb3⟩
      have hg'3 : w1'.heap.size < g' := by have := hg'1; simp at this; omega
      have hbw3 : Below w1'.heap.size w1' w3 := Below.call (Below.alloc' (Below.self _) _) hb3
      obtain ⟨r0, r1, r2, rf⟩ := HCK.out w3 hbw3
      have rf0 := rf (i * 3)
      have rf1 := rf (i * 3 + 1)
      have rf2 := rf (i * 3 + 2)
      have HB3 : Stow (Below w.heap.size w w3) := ⟨HB1.out.trans (hbw3.mono HB1.out.size)⟩
      have HROW := Stow.mk (HRS.out (HR1.out.keep hbw3) (⟨⟨n, x, keepS x s ++ [x]⟩, some ⟨g', 0, none⟩, c'⟩ : Wm))
      have HI3 := Stow.mk hI3
      clear rf q0 q1 q2 hI3 hb3 hbw3
      go_wp2_with fail
      go_ret2
      have hbf : ∀ a b c : Value, Below w.heap.size w (((w3.setCell ⟨g0, i * 3, none⟩ a).setCell ⟨g0, i * 3 + 1, none⟩ b).setCell ⟨g0, i * 3 + 2, none⟩ c) := fun a b c => ((HB3.out.setCell (p := ⟨g0, i * 3, none⟩) hg0w a).setCell (p := ⟨g0, i * 3 + 1, none⟩) hg0w b).setCell (p := ⟨g0, i * 3 + 2, none⟩) hg0w c
      have hgg : g' ≠ g0 := by omega
      have HWF := Stow.mk (HSET.out (⟨⟨n, x, keepS x s ++ [x]⟩, some ⟨g', 0, none⟩, c'⟩ : Wm) (hbf _ _ _) HROW.out (((HI3.out.slr.only (Only.set _ _ _ _) hgg).only (Only.set _ _ _ _) hgg).only (Only.set _ _ _ _) hgg))
      refine ⟨.slice (some ⟨g0, 0, none⟩) R.length c0, R.set i (⟨⟨n, x, keepS x s ++ [x]⟩, some ⟨g', 0, none⟩, c'⟩ : Wm), ?_, ?_, ?_, hbf _ _ _, fun P h1 h2 => InW.put h2 h1 _ (fun a n c e => by cases e; exact hg0w) (fun a ha => by cases ha; have := HB1.out.size; simp only; omega)⟩
      · rw [HF.out, HST.out]; rfl
      · rw [HF.out, HST.out, wis_set]
      · simpa using HWF.out
    · have HNX : Stow (x ≤ h) := ⟨by omega⟩
      obtain ⟨f, hf⟩ : ∃ f, s.contains x = f := ⟨_, rfl⟩
      have HFC := Stow.mk hf
      clear hf
      by_cases h128 : 128 ≤ h - x
      · have HST : Stow (Dd.step ⟨n, h, s⟩ x = none) := ⟨by unfold Dd.step; rw [if_neg hhx, if_pos (.inl h128)]⟩
        go_wp2_with fail
        go_ret2
        refine ⟨.slice (some ⟨b, off, none⟩) R.length c, R, ?_, ?_, HW.out.keep (Below.alloc' HB1.out _), Below.alloc' HB1.out _, fun P h1 h2 => h2⟩
        · rw [HF.out, HST.out]; rfl
        · rw [HF.out, HST.out]
      cases f
      rotate_left
      · have HST : Stow (Dd.step ⟨n, h, s⟩ x = none) := ⟨by unfold Dd.step; rw [if_neg hhx, if_pos (.inr (List.contains_iff_mem.1 HFC.out))]⟩
        go_wp2_with fail
        refine (refIn_any s PA pc x _ (HIS.out.alloc _)).mono ?_
        rw [HFC.out]
        rintro e w3 ⟨rfl, rfl⟩
        go_wp2_with fail
        go_ret2
        refine ⟨.slice (some ⟨b, off, none⟩) R.length c, R, ?_, ?_, HW.out.keep (Below.alloc' HB1.out _), Below.alloc' HB1.out _, fun P h1 h2 => h2⟩
        · rw [HF.out, HST.out]; rfl
        · rw [HF.out, HST.out]
      have hxs : x ∉ s := fun hm => by
        have := HFC.out
        rw [List.contains_iff_mem.2 hm] at this
        cases this
      have HST : Stow (Dd.step ⟨n, h, s⟩ x = some ⟨n, h, Dd.ins x s⟩) := ⟨by unfold Dd.step; rw [if_neg hhx, if_neg (by rintro (h | h); exact h128 h; exact hxs h)]; rfl⟩
      have HXS := Stow.mk hxs
      clear hxs
      go_wp2_with fail
      refine (refIn_any s PA pc x _ (HIS.out.alloc _)).mono ?_
      rw [HFC.out]
      rintro e w3 ⟨rfl, rfl⟩
      obtain ⟨W, hWd⟩ : ∃ W, w1'.alloc (.cells #[.int .i64 n, .int .i64 h, .slice PA s.length pc] 113) = W := ⟨_, rfl⟩
      have hwH := Held.made w1' [.int .i64 n, .int .i64 h, .slice PA s.length pc] 113
      have hwI := HIS.out.alloc (.cells #[.int .i64 n, .int .i64 h, .slice PA s.length pc] 113)
      have hwB := Below.alloc' (Below.self w1') (.cells #[.int .i64 n, .int .i64 h, .slice PA s.length pc] 113)
      rw [show (List.toArray [Value.int .i64 n, .int .i64 h, .slice PA s.length pc]) = #[.int .i64 n, .int .i64 h, .slice PA s.length pc] from rfl] at hwH
      rw [hWd] at hwH hwI hwB
      have HWH := Stow.mk hwH
      have HWI := Stow.mk hwI
      have HWB := Stow.mk hwB
      have HASC := Stow.mk HOKP.out.asc
      simp only at HASC
      clear hwH hwI hwB HHD
      rw [hWd]
      go_wp2_with fail
      obtain ⟨sb, so, rfl, hsbl, _⟩ := HWI.out.open (by simp; omega)
      have E1 : Stow (∀ y : Int, ∀ u ∈ [Value.int .i64 y], u.oneCell' = true) := ⟨by intro y u hu; simp at hu; subst hu; rfl⟩
      clear q0 q1 q2
      go_loopw [11, 12, 13] (fun o pu v wr => ∃ (j : Nat) (A' : Option Addr) (c' : Nat), pu = .bool ((s.take j).any (x < ·)) ∧ o = .slice A' (insF x (s.take j)).length c' ∧ v = .int .i64 (j : Int) ∧ j ≤ s.length ∧ WnRow wr W.heap.size o (insF x (s.take j)) ∧ Below W.heap.size W wr) (fun _ _ v _ => s.length - (intOf v).toNat)
      case atStart => exact ⟨0, none, 0, rfl, rfl, rfl, by omega, World.ownsRow_nil _ _ _ _, Below.self _⟩
      case round =>
        obtain ⟨j, A', c', rfl, rfl, rfl, hj, hown, hbr⟩ := hrel
        have hkl : (insF x (s.take j)).length ≤ 257 := Nat.le_trans (insF_len _ _) (by simp; omega)
        have HO := Stow.mk hown
        have HBR := Stow.mk hbr
        have hpc := (HWH.out.kept hbr).cell (i := 2) rfl
        obtain ⟨aj, haj⟩ : ∃ aj, (s.take j).any (x < ·) = aj := ⟨_, rfl⟩
        clear hown
        by_cases hlt : j < s.length
        · have HCY : Stow (∀ w', Below W.heap.size W w' → w'.cell? ⟨w1'.heap.size, 2, none⟩ = some (.slice (some ⟨sb, so, none⟩) s.length pc) ∧ w'.cell? ⟨sb, so + j, none⟩ = some (.int .i64 s[j])) := ⟨fun w' hb => ⟨(HWH.out.kept hb).cell (i := 2) rfl, (ints_at (HWI.out.keep hb) hlt).2⟩⟩
          have HM := Stow.mk (List.getElem_mem hlt)
          have HAN := Stow.mk (fun ha => any_nextW (x := x) (v := x) HASC.out hlt ha)
          have HTK : Stow (s.take (j + 1) = s.take j ++ [s[j]]) := ⟨List.take_succ_eq_append_getElem hlt⟩
          have hji : (j : Int) < s.length := by omega
          have hcy := (HCY.out _ hbr).2
          generalize s[j] = y at *
          have hyx : y ≠ x := fun h => HXS.out (h ▸ HM.out)
          cases aj
          · by_cases hyl : y < x
            · have hd : decide (x < y) = false := by simp; omega
              have HN := Stow.mk (insF_lt haj hyl)
              have HNA : Stow ((s.take (j + 1)).any (x < ·) = false) := ⟨by rw [HTK.out, List.any_append, haj]; simp; omega⟩
              rw [← HTK.out] at HN
              have HAJ := Stow.mk haj
              rw [haj]
              clear haj
              generalize insF x (s.take j) = K at *
              have K2' : Stow ((K.length + 1) * 8 ≤ 140737488355328) := ⟨by omega⟩
              have K3' : Stow (K.length + 1 ≤ maxLen) := ⟨by unfold maxLen; omega⟩
              go_wp2_with (at_builtin; refine wpList_append_elem_form _ _ _ rfl (.tmp 101) (.tmp 107) 105 rfl W.heap.size 3 _ 1 8 Tryz.underlying105 info_intW _ _ _ HO.out rfl _ rfl rfl rfl (by decide) rfl (E1.out _) K2'.out K3'.out HBR.out.size ?_; intro A4 cap4 w4 hown4 hg4 hb4 hs4)
              exact ⟨⟨j + 1, A4, cap4, by rw [HNA.out], by rw [HN.out]; simp, rfl, by omega, by rw [HN.out]; unfold WnRow; simpa using hown4, HBR.out.trans hb4⟩, by simp [intOf]; omega⟩
            · have hyg : x < y := by omega
              have HN := Stow.mk (insF_first haj hyg)
              have HNA : Stow ((s.take (j + 1)).any (x < ·) = true) := ⟨by rw [HTK.out, List.any_append, haj]; simp; omega⟩
              rw [← HTK.out] at HN
              have HAJ := Stow.mk haj
              rw [haj]
              clear haj
              generalize insF x (s.take j) = K at *
              have K2' : Stow ((K.length + 1) * 8 ≤ 140737488355328) := ⟨by omega⟩
              have K3' : Stow (K.length + 1 ≤ maxLen) := ⟨by unfold maxLen; omega⟩
              have K2'' : Stow ((K.length + 1 + 1) * 8 ≤ 140737488355328) := ⟨by omega⟩
              have K3'' : Stow (K.length + 1 + 1 ≤ maxLen) := ⟨by unfold maxLen; omega⟩
              go_wp2_with (at_builtin; first | (refine wpList_append_elem_form _ _ _ rfl (.tmp 97) (.tmp 99) 105 rfl W.heap.size 3 _ 1 8 Tryz.underlying105 info_intW _ _ _ HO.out rfl _ rfl rfl rfl (by decide) rfl (E1.out _) K2'.out K3'.out HBR.out.size ?_; intro A4 cap4 w4 hown4 hg4 hb4 hs4; have hq := HCY.out _ (HBR.out.trans hb4); have hq1 := hq.1; have hq2 := hq.2; clear hq) | (refine wpList_append_elem_form _ _ _ rfl (.tmp 101) (.tmp 107) 105 rfl W.heap.size 3 _ 1 8 Tryz.underlying105 info_intW _ _ _ hown4 rfl _ rfl rfl rfl (by decide) rfl (E1.out _) K2''.out K3''.out (HBR.out.trans hb4).size ?_; intro A5 cap5 w5 hown5 hg5 hb5 hs5))
              exact ⟨⟨j + 1, A5, cap5, by rw [HNA.out], by rw [HN.out]; simp, rfl, by omega, by rw [HN.out]; unfold WnRow; simpa using hown5, (HBR.out.trans hb4).trans hb5⟩, by simp [intOf]; omega⟩
          · have hyg : x < y := HAN.out haj
            have HN := Stow.mk (insF_gt haj hyg)
            have HNA : Stow ((s.take (j + 1)).any (x < ·) = true) := ⟨by rw [HTK.out, List.any_append, haj]; simp⟩
            rw [← HTK.out] at HN
            have HAJ := Stow.mk haj
            rw [haj]
            clear haj
            generalize insF x (s.take j) = K at *
            have K2' : Stow ((K.length + 1) * 8 ≤ 140737488355328) := ⟨by omega⟩
            have K3' : Stow (K.length + 1 ≤ maxLen) := ⟨by unfold maxLen; omega⟩
            go_wp2_with (at_builtin; refine wpList_append_elem_form _ _ _ rfl (.tmp 101) (.tmp 107) 105 rfl W.heap.size 3 _ 1 8 Tryz.underlying105 info_intW _ _ _ HO.out rfl _ rfl rfl rfl (by decide) rfl (E1.out _) K2'.out K3'.out HBR.out.size ?_; intro A4 cap4 w4 hown4 hg4 hb4 hs4)
            exact ⟨⟨j + 1, A4, cap4, by rw [HNA.out], by rw [HN.out]; simp, rfl, by omega, by rw [HN.out]; unfold WnRow; simpa using hown4, HBR.out.trans hb4⟩, by simp [intOf]; omega⟩
        · obtain rfl : j = s.length := by omega
          rw [List.take_length] at *
          have hany : s.any (x < ·) = true := List.any_eq_true.2 ⟨h, HOKP.out.top, by
            have : h ≠ x := fun e => HXS.out (e ▸ HOKP.out.top)
            simp; omega⟩
          have HIE := Stow.mk (insF_end hany)
          have hwr1 : Below w1'.heap.size w1' wr := HWB.out.trans (hbr.mono HWB.out.size)
          obtain ⟨r0, r1, r2, rf⟩ := HCK.out wr hwr1
          have rf0 := rf (i * 3)
          have rf1 := rf (i * 3 + 1)
          have rf2 := rf (i * 3 + 2)
          have hpc1 := (HWH.out.kept hbr).cell (i := 1) rfl
          obtain ⟨g', c'', hv', hg'1, hg'2⟩ := row_form HO.out (by rw [HIE.out]; unfold Dd.ins; simp only [List.length_append, List.length_cons]; omega)
          simp only [Value.slice.injEq] at hv'
          obtain ⟨rfl, _, rfl⟩ := hv'
          have HROW := Stow.mk (HRS.out (HR1.out.keep hwr1) (⟨⟨n, h, Dd.ins x s⟩, some ⟨g', 0, none⟩, c'⟩ : Wm))
          have HI3 : Stow (SlR wr 1 (.slice (some ⟨g', 0, none⟩) (Dd.ins x s).length c') ((Dd.ins x s).map ic)) := ⟨by have := HO.out.slr; rw [HIE.out] at this; exact this⟩
          have hgg : g' ≠ g0 := by have := HWB.out.size; omega
          have HB3 : Stow (Below w.heap.size w wr) := ⟨HB1.out.trans (hwr1.mono HB1.out.size)⟩
          rw [hany, HIE.out]
          clear haj hany rf hbr hkl
          go_wp2_with fail
          go_ret2
          have hbf : ∀ a b c : Value, Below w.heap.size w (((wr.setCell ⟨g0, i * 3, none⟩ a).setCell ⟨g0, i * 3 + 1, none⟩ b).setCell ⟨g0, i * 3 + 2, none⟩ c) := fun a b c => ((HB3.out.setCell (p := ⟨g0, i * 3, none⟩) hg0w a).setCell (p := ⟨g0, i * 3 + 1, none⟩) hg0w b).setCell (p := ⟨g0, i * 3 + 2, none⟩) hg0w c
          have HWF := Stow.mk (HSET.out (⟨⟨n, h, Dd.ins x s⟩, some ⟨g', 0, none⟩, c'⟩ : Wm) (hbf _ _ _) HROW.out (((HI3.out.only (Only.set _ _ _ _) hgg).only (Only.set _ _ _ _) hgg).only (Only.set _ _ _ _) hgg))
          refine ⟨.slice (some ⟨g0, 0, none⟩) R.length c0, R.set i (⟨⟨n, h, Dd.ins x s⟩, some ⟨g', 0, none⟩, c'⟩ : Wm), ?_, ?_, ?_, hbf _ _ _, fun P h1 h2 => InW.put h2 h1 _ (fun a n c e => by cases e; exact hg0w) (fun a ha => by cases ha; have := HB1.out.size; have := HWB.out.size; simp only; omega)⟩
          · rw [HF.out, HST.out]; rfl
          · rw [HF.out, HST.out, wis_set]
          · simpa using HWF.out
theorem refFresh_any (node x : Int) (v : Value) (R : List Wm) (w : World) (hW : WinR w v R) (hok : Dd.Ok (wis R)) :
    Calls Tryz.prog 32 #[v, .int .i64 node, .int .i64 x] w (FreshOf w (wis R) node x) :=
  (refFresh_in node x v R w hW hok).mono fun e w' ⟨v', R', h1, h2, h3, h4, _⟩ => ⟨v', R', h1, h2, h3, h4⟩
end Go.Proofs.YtfbhdkkmcfnghaaGreat
end

section
namespace Go.Proofs.YtfbhdkkmcfnghaaGreat
open Go.RowKit Go.Lib
set_option linter.unusedVariables false

/-- The contract at windows that are given. -/
theorem ddFresh_to {D D' : List Wi} {b : Bool} {node x : Int} {v : Value} {R : List Wm} {w : World} (hW : WinR w v R) (hR : wis R = D) (hok : Dd.Ok D) (hf : Dd.fresh D node x = (D', b)) :
    Calls Tryz.prog 52 #[v, .int .i64 node, .int .i64 x] w fun e w' => ∃ v' R', e = .returned (.tuple #[v', .bool b]) ∧ wis R' = D' ∧ WinR w' v' R' ∧ Dd.Ok D' ∧ Below w.heap.size w w' := by
  subst hR
  refine (ddFresh_any node x v R w hW hok).mono ?_
  rintro e w' ⟨v', R', rfl, h1, h2, h3, _⟩
  have hk := hok.fresh (node := node) (x := x)
  rw [hf] at h1 hk
  exact ⟨v', R', by rw [hf], h1, h2, hk, h3⟩
theorem ddFresh_new {D D' : List Wi} {b : Bool} {node x : Int} {v : Value} {R : List Wm} {w : World} (hW : WinR w v R) (hR : wis R = D) (hok : Dd.Ok D) (hf : Dd.fresh D node x = (D', b)) :
    Calls Tryz.prog 52 #[v, .int .i64 node, .int .i64 x] w fun e w' => ∃ v' R', e = .returned (.tuple #[v', .bool b]) ∧ wis R' = D' ∧ WinR w' v' R' ∧ Dd.Ok D' ∧ Below w.heap.size w w' ∧ NewW w.heap.size v' R' := by
  subst hR
  refine (ddFresh_any node x v R w hW hok).mono ?_
  rintro e w' ⟨v', R', rfl, h1, h2, h3, h4⟩
  have hk := hok.fresh (node := node) (x := x)
  rw [hf] at h1 hk
  exact ⟨v', R', by rw [hf], h1, h2, hk, h3, h4⟩
theorem refFresh_to {D D' : List Wi} {b : Bool} {node x : Int} {v : Value} {R : List Wm} {w : World} (hW : WinR w v R) (hR : wis R = D) (hok : Dd.Ok D) (hf : Dd.fresh D node x = (D', b)) :
    Calls Tryz.prog 32 #[v, .int .i64 node, .int .i64 x] w fun e w' => ∃ v' R', e = .returned (.tuple #[v', .bool b]) ∧ wis R' = D' ∧ WinR w' v' R' ∧ Dd.Ok D' ∧ Below w.heap.size w w' := by
  subst hR
  refine (refFresh_any node x v R w hW hok).mono ?_
  rintro e w' ⟨v', R', rfl, h1, h2, h3⟩
  have hk := hok.fresh (node := node) (x := x)
  rw [hf] at h1 hk
  exact ⟨v', R', by rw [hf], h1, h2, hk, h3⟩
theorem f29_1 : Dd.fresh [] 1 5 = ([⟨1, 5, [5]⟩], true) := rfl
theorem f29_2 : Dd.fresh [⟨1, 5, [5]⟩] 1 3 = ([⟨1, 5, [3, 5]⟩], true) := rfl
theorem f29_3 : Dd.fresh [⟨1, 5, [3, 5]⟩] 1 5 = ([⟨1, 5, [3, 5]⟩], false) := rfl
theorem f29_4 : Dd.fresh [⟨1, 5, [3, 5]⟩] 1 200 = ([⟨1, 200, [200]⟩], true) := rfl
theorem f29_5 : Dd.fresh [⟨1, 200, [200]⟩] 1 72 = ([⟨1, 200, [200]⟩], false) := rfl

end Go.Proofs.YtfbhdkkmcfnghaaGreat
end
