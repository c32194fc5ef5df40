/- Walks of dedup.Has and copied. Condition: windows as they come of numbers. -/
import Derived.Test.YtbcokngjcgldpaaDdMem
import Derived.Test.YtbcokngjcgldpaaShelfD
namespace Go.Proofs.Ytbcokngjcgldpaa
open Go.RowKit Go.Lib
set_option linter.unusedVariables false

theorem ints_at {w : World} {b off n cap : Nat} {s : List Int} (h : SlR w 1 (.slice (some ⟨b, off, none⟩) n cap) (s.map ic)) {j : Nat} (hj : j < s.length) : b < w.heap.size ∧ w.cell? ⟨b, off + j, none⟩ = some (.int .i64 s[j]) := by
  have hi : (s.map ic)[j]? = some (ic s[j]) := by rw [List.getElem?_map, List.getElem?_eq_getElem hj]; rfl
  obtain ⟨hb, hc⟩ := h.cells hi
  have := hc 0 _ rfl
  rw [Nat.mul_one, Nat.add_zero] at this
  exact ⟨hb, this⟩

theorem ddContains_any (s : List Int) (A : Option Addr) (cap : Nat) (x : Int) (w : World) (hS : SlR w 1 (.slice A s.length cap) (s.map ic)) (hn : 0 < s.length) (h9 : s.length ≤ 128) :
    Calls Try.prog 67 #[.slice A s.length cap, .int .i64 x] w fun e w' => e = .returned (.bool (s.contains x)) ∧ w' = w := by
  obtain ⟨b, off, rfl, hb, _⟩ := hS.open (by simpa using hn)
  have h := Try.slices_Contains_f67 (Value.int .i64) (fun x y => x == y) (EqlAt.int _ _ _) b off s.length cap s x w (Nat.le_refl _) (by omega) (fun j hj => by
    rw [getElem!_pos s j hj]
    exact (ints_at hS hj).2)
  refine h.mono ?_
  rintro e w' ⟨rfl, hb'⟩
  refine ⟨?_, hb'⟩
  rw [List.take_of_length_le (Nat.le_refl _), List.contains_eq_any_beq]

theorem Dd.has_at {R : List Wm} {node x : Int} {i : Nat} (hp : Dd.pl (wis R) node = some i) (hi : i < R.length) : Dd.has (wis R) node x = R[i].w.s.contains x := by
  unfold Dd.has
  rw [hp]
  simp [List.getElem?_map, List.getElem?_eq_getElem hi]
theorem Dd.has_no {R : List Wm} {node x : Int} (hp : Dd.pl (wis R) node = none) : Dd.has (wis R) node x = false := by
  unfold Dd.has
  rw [hp]
theorem plR_lt {R : List Wm} {node : Int} {i : Nat} (h : Dd.pl (wis R) node = some i) : ∃ hi : i < R.length, R[i].w.n = node := by
  obtain ⟨hi, h1, _⟩ := Dd.pl_some h
  have hi' : i < R.length := by simpa using hi
  exact ⟨hi', by simpa using h1⟩

set_option maxHeartbeats 400000 in
set_option maxRecDepth 100000 in
theorem ddHas_any (node x : Int) (v : Value) (R : List Wm) (w : World) (hW : WinR w v R) (hok : Dd.Ok (wis R)) :
    Calls Try.prog 25 #[v, .int .i64 node, .int .i64 x] w fun e w' => e = .returned (.bool (Dd.has (wis R) node x)) ∧ Below w.heap.size w w' := by
  obtain ⟨A, cap, rfl, _⟩ := hW.row.form
  simp only [List.length_map] at *
  have HW := Stow.mk hW
  have HOK := Stow.mk hok
  clear hW hok
  obtain ⟨o, ho⟩ : ∃ o, Dd.pl (wis R) node = o := ⟨_, rfl⟩
  have HO := Stow.mk ho
  clear ho
  go_enter Try.func25, Try.ntmps25
  go_wp2_with fail
  refine (ddFind_any node A cap R _ HW.out.row).mono ?_
  rw [HO.out]
  rintro e w1 ⟨rfl, hb1⟩
  have HB1 := Stow.mk hb1
  clear hb1
  cases o with
  | none =>
    simp only [plInt]
    go_wp2_with fail
    go_ret
    exact ⟨by rw [Dd.has_no HO.out]; rfl, HB1.out⟩
  | some i =>
    obtain ⟨hi, hn⟩ := plR_lt HO.out
    have HH := Stow.mk (Dd.has_at (x := x) HO.out hi)
    have hlen := HW.out.row.len
    simp only [List.length_map] at hlen
    have hmem : R[i] ∈ R := List.getElem_mem hi
    have hsl := (HOK.out.each _ (List.mem_map.2 ⟨_, hmem, rfl⟩)).len
    have HI := Stow.mk ((HW.out.ints _ hmem).keep HB1.out)
    obtain ⟨b, off, rfl, hblt, _⟩ := HW.out.row.open (by simp; omega)
    have hsp := win_at (HW.out.row.keep HB1.out) hi
    clear hn hmem
    obtain ⟨p, hp⟩ : ∃ p, R[i] = p := ⟨_, rfl⟩
    rw [hp] at hsp HH HI hsl
    clear hp
    obtain ⟨⟨n, h, s⟩, PA, pc⟩ := p
    obtain ⟨hltb, q0, q1, q2⟩ := hsp
    simp only [Wm.v] at q2 HH HI hsl
    have hii : (i : Int) < R.length := by omega
    simp only [plInt]
    clear q0 q1
    go_wp2_with fail
    refine (ddContains_any s PA pc x _ HI.out hsl.1 hsl.2).mono ?_
    generalize s.contains x = cc at *
    rintro e w2 ⟨rfl, rfl⟩
    go_wp2_with fail
    go_ret
    exact ⟨by rw [HH.out]; rfl, HB1.out⟩

/-- Ints, cloned. -/
theorem ddCloneI_any (s : List Int) (A : Option Addr) (cap : Nat) (w : World) (hS : SlR w 1 (.slice A s.length cap) (s.map ic)) (hn : 0 < s.length) (h9 : s.length ≤ 128) :
    Calls Try.prog 94 #[.slice A s.length cap] w fun e w' => ∃ g cap', e = .returned (.slice (some ⟨g, 0, none⟩) s.length cap') ∧ w.heap.size ≤ g ∧ g < w'.heap.size ∧ IRow w' w.heap.size (.slice (some ⟨g, 0, none⟩) s.length cap') s ∧ Below w.heap.size w w' := by
  obtain ⟨b, off, rfl, hb, _⟩ := hS.open (by simpa using hn)
  obtain ⟨i0, hi, hz, hsz, hby⟩ := info_parts info_int
  refine (Try.slices_Clone i0 _ 1 8 hi hz hsz hby rfl (by decide) (fun w => Try.sizeOf3 w) b off s.length cap (s.map (Value.int .i64)) w (by simp) (by unfold maxLen; omega) (by omega) (fun j u hj => ?_) (fun u hu => ?_)).mono ?_
  · rw [List.getElem?_map] at hj
    obtain ⟨y, hy, rfl⟩ := Option.map_eq_some_iff.1 hj
    obtain ⟨hj', rfl⟩ := List.getElem?_eq_some_iff.1 hy
    exact (ints_at hS hj').2
  · obtain ⟨y, _, rfl⟩ := List.mem_map.1 hu
    rfl
  · rintro e w' ⟨v', rfl, ho, hne, hbl⟩
    rcases ho.2 with ⟨h1, h2⟩ | ⟨g, cap', cur, rfl, hg, hg2, _⟩
    · exact absurd h1 hne
    · exact ⟨g, cap', rfl, hg, (Array.getElem?_eq_some_iff.1 hg2).1, ho, hbl⟩
/-- Windows, cloned: the same numbers. -/
theorem ddCloneW_any (R : List Wm) (A : Option Addr) (cap : Nat) (w : World) (hS : SlR w 3 (.slice A R.length cap) (R.map Wm.cells)) (hn : 0 < R.length) (h9 : R.length ≤ 8) :
    Calls Try.prog 93 #[.slice A R.length cap] w fun e w' => ∃ g cap', e = .returned (.slice (some ⟨g, 0, none⟩) R.length cap') ∧ w.heap.size ≤ g ∧ g < w'.heap.size ∧ WRow w' w.heap.size (.slice (some ⟨g, 0, none⟩) R.length cap') R ∧ Below w.heap.size w w' := by
  obtain ⟨b, off, rfl, hb, hc⟩ := hS.open (by simpa using hn)
  obtain ⟨i0, hi, hz, hsz, hby⟩ := info_parts info_window
  have hfl : (R.flatMap Wm.cells).length = R.length * 3 := by
    clear hS hc hn h9
    induction R with
    | nil => rfl
    | cons p t ih => simp only [List.flatMap_cons, List.length_append, ih, List.length_cons, Wm.cells, List.length_nil]; omega
  refine (AnyE.slices_Clone Try.laysClW i0 _ 3 40 hi hz hsz hby rfl (by decide) (fun w => Try.sizeOf52 w) b off R.length cap (R.flatMap Wm.cells) w hfl (by unfold maxLen; omega) (by omega) (fun j u hj => ?_) (fun u hu => ?_)).mono ?_
  · have hjl : j < R.length * 3 := by
      rcases Nat.lt_or_ge j (R.flatMap Wm.cells).length with h | h
      · omega
      · simp [List.getElem?_eq_none h] at hj
    have hk : j / 3 < R.length := by omega
    have hx : (R.map Wm.cells)[j / 3]? = some (R[j / 3].cells) := by rw [List.getElem?_map, List.getElem?_eq_getElem hk]; rfl
    have hm : j % 3 < 3 := Nat.mod_lt _ (by omega)
    obtain ⟨u', hu'⟩ : ∃ u', (R[j / 3].cells)[j % 3]? = some u' := ⟨(R[j / 3].cells)[j % 3]'hm, List.getElem?_eq_getElem (l := R[j / 3].cells) hm⟩
    have h1 := hc (j / 3) _ hx (j % 3) u' hu'
    have h2 := flat_at (c := 3) (L := R.map Wm.cells) (fun x hx => by obtain ⟨m, _, rfl⟩ := List.mem_map.1 hx; rfl) (j / 3) _ hx (j % 3) u' hu'
    have e3 : j / 3 * 3 + j % 3 = j := by omega
    rw [e3, ← List.flatMap_def, hj] at h2
    obtain rfl := Option.some.inj h2
    rw [Nat.add_assoc, e3] at h1
    exact h1
  · obtain ⟨p, _, hp⟩ := List.mem_flatMap.1 hu
    simp [Wm.cells] at hp
    rcases hp with rfl | rfl | rfl <;> rfl
  · rintro e w' ⟨v', rfl, ho, hne, hbl⟩
    rcases ho.2 with ⟨h1, h2⟩ | ⟨g, cap', cur, rfl, hg, hg2, _⟩
    · exact absurd h1 hne
    · exact ⟨g, cap', rfl, hg, (Array.getElem?_eq_some_iff.1 hg2).1, ho, hbl⟩

theorem IRow.base {w : World} {B B' : Nat} {v : Value} {s : List Int} (h : IRow w B' v s) (hle : B ≤ B') : IRow w B v s := by
  refine ⟨h.1, ?_⟩
  rcases h.2 with h | ⟨g, cap, cur, hv, hb, r⟩
  · exact .inl h
  · exact .inr ⟨g, cap, cur, hv, by omega, r⟩
/-- The state of the copying: the first windows have rows of their own. -/
structure CpR (w : World) (B g cap : Nat) (R Q : List Wm) (j : Nat) : Prop where
  len : Q.length = j
  same : Q.map Wm.w = (R.take j).map Wm.w
  row : w.ownsRow B 52 3 (.slice (some ⟨g, 0, none⟩) R.length cap) R.length ((Q ++ R.drop j).flatMap Wm.cells)
  ints : ∀ p ∈ Q, IRow w B p.v p.w.s
  off : ∀ p ∈ Q, ∃ k, p.v.ownBlock = some k ∧ k ≠ g ∧ k < w.heap.size
  apart : Q.Pairwise fun p q => p.v.ownBlock ≠ q.v.ownBlock
theorem CpR.keep {w w' : World} {B g cap j : Nat} {R Q : List Wm} (h : CpR w B g cap R Q j) (hb : Below w.heap.size w w') : CpR w' B g cap R Q j :=
  ⟨h.len, h.same, own_kept h.row hb, fun p hp => (h.ints p hp).keep hb, fun p hp => by obtain ⟨k, a, b, c⟩ := h.off p hp; exact ⟨k, a, b, Nat.lt_of_lt_of_le c hb.size⟩, h.apart⟩
theorem CpR.next {w : World} {B g cap j gi ci : Nat} {R Q : List Wm} {p : Wm} (h : CpR w B g cap R Q j) (hj : j < R.length) (hp : R[j] = p) (hI : IRow w B (.slice (some ⟨gi, 0, none⟩) p.w.s.length ci) p.w.s) (hgi : gi ≠ g) (hlt : gi < w.heap.size) (hnew : ∀ q ∈ Q, q.v.ownBlock ≠ some gi) :
    CpR (w.setCell ⟨g, j * 3 + 2, none⟩ (.slice (some ⟨gi, 0, none⟩) p.w.s.length ci)) B g cap R (Q ++ [⟨p.w, some ⟨gi, 0, none⟩, ci⟩]) (j + 1) := by
  have ho : Only g w (w.setCell ⟨g, j * 3 + 2, none⟩ (.slice (some ⟨gi, 0, none⟩) p.w.s.length ci)) := Only.set g w _ _
  have hs := (World.ownsRow.stored h.row (j * 3 + 2) (.slice (some ⟨gi, 0, none⟩) p.w.s.length ci)).1
  have hq : (Q.flatMap Wm.cells).length = j * 3 := by
    rw [← h.len]
    clear h hs ho hnew
    induction Q with
    | nil => rfl
    | cons p t ih => simp only [List.flatMap_cons, List.length_append, ih, List.length_cons, Wm.cells, List.length_nil]; omega
  refine ⟨by simp [h.len], ?_, ?_, ?_, ?_, ?_⟩
  · rw [List.map_append, h.same, List.take_succ_eq_append_getElem hj, List.map_append, hp]; rfl
  · have e : (Q ++ R.drop j).flatMap Wm.cells = Q.flatMap Wm.cells ++ (.int .i64 p.w.n :: .int .i64 p.w.h :: .slice p.A p.w.s.length p.cap :: (R.drop (j + 1)).flatMap Wm.cells) := by
      rw [List.drop_eq_getElem_cons hj, hp, List.flatMap_append, List.flatMap_cons]; rfl
    rw [e, List.set_append_right _ _ (by omega), hq, show j * 3 + 2 - j * 3 = 2 by omega] at hs
    have e2 : ((Q ++ [(⟨p.w, some ⟨gi, 0, none⟩, ci⟩ : Wm)]) ++ R.drop (j + 1)).flatMap Wm.cells = Q.flatMap Wm.cells ++ (.int .i64 p.w.n :: .int .i64 p.w.h :: .slice (some ⟨gi, 0, none⟩) p.w.s.length ci :: (R.drop (j + 1)).flatMap Wm.cells) := by
      rw [List.append_assoc, List.flatMap_append, List.flatMap_append]
      simp [Wm.cells]
    rw [e2]
    exact hs
  · intro q hq
    rcases List.mem_append.1 hq with hq | hq
    · obtain ⟨k, a, b, _⟩ := h.off q hq
      exact (h.ints q hq).only ho (by rw [a]; simpa using b)
    · simp at hq; subst hq
      exact hI.only ho (by simp [Value.ownBlock]; exact hgi)
  · intro q hq
    rcases List.mem_append.1 hq with hq | hq
    · obtain ⟨k, a, b, c⟩ := h.off q hq
      exact ⟨k, a, b, by simpa using c⟩
    · simp at hq; subst hq
      exact ⟨gi, rfl, hgi, by simpa using hlt⟩
  · rw [List.pairwise_append]
    refine ⟨h.apart, by simp, fun a ha b hb => ?_⟩
    simp at hb; subst hb
    exact hnew a ha

set_option maxHeartbeats 1000000 in
set_option maxRecDepth 100000 in
theorem ddCopied_any (v : Value) (R : List Wm) (w : World) (hW : WinR w v R) (hok : Dd.Ok (wis R)) :
    Calls Try.prog 61 #[v] w fun e w' => ∃ v' R', e = .returned v' ∧ wis R' = wis R ∧ OwnW w' w.heap.size v' R' ∧ Below w.heap.size w w' := by
  have HW := Stow.mk hW
  have HOK := Stow.mk hok
  have hR8 : R.length ≤ 8 := by have := hok.len; simpa using this
  clear hW hok
  rcases Nat.eq_zero_or_pos R.length with h0 | h0
  · obtain rfl := List.eq_nil_of_length_eq_zero h0
    obtain rfl := HW.out.nil rfl
    go_enter Try.func61, Try.ntmps61
    go_wp2_with fail
    refine (AnyE.slices_Clone_nil Try.laysClW 0 0 _).mono ?_
    rintro e w1 ⟨rfl, rfl⟩
    go_wp2_with fail
    go_loopw [10] (fun v wr => v = .int .i64 0 ∧ wr = w1) (fun _ _ => 0)
    case atStart => exact ⟨rfl, rfl⟩
    case round =>
      obtain ⟨rfl, rfl⟩ := hrel
      go_wp2_with fail
      go_ret
      exact ⟨_, [], rfl, rfl, ⟨⟨rfl, .inl ⟨rfl, rfl⟩⟩, by simp, by simp, by simp, fun _ => rfl⟩, Below.self _⟩
  obtain ⟨A, cap, rfl, _⟩ := HW.out.row.form
  simp only [List.length_map] at *
  go_enter Try.func61, Try.ntmps61
  go_wp2_with fail
  refine (ddCloneW_any R A cap _ HW.out.row h0 hR8).mono ?_
  rintro e w1 ⟨g, c1, rfl, hg, hglt, hrow, hb1⟩
  have HB1 := Stow.mk hb1
  have H0 : Stow (CpR w1 w.heap.size g c1 R [] 0) := ⟨⟨rfl, rfl, hrow, by simp, by simp, by simp⟩⟩
  clear hrow hb1
  go_wp2_with fail
  go_loopw [10] (fun v wr => ∃ (j : Nat) (Q : List Wm), v = .int .i64 (j : Int) ∧ j ≤ R.length ∧ CpR wr w.heap.size g c1 R Q j ∧ w1.heap.size ≤ wr.heap.size ∧ Below w.heap.size w wr) (fun v _ => R.length - (intOf v).toNat)
  case atStart => exact ⟨0, [], rfl, by omega, H0.out, Nat.le_refl _, HB1.out⟩
  case round =>
    obtain ⟨j, Q, rfl, hj, hQ, hsz, hbr⟩ := hrel
    by_cases hlt : j < R.length
    · have HQ := Stow.mk hQ
      have HBR := Stow.mk hbr
      have hmem : R[j] ∈ R := List.getElem_mem hlt
      have hsl := (HOK.out.each _ (List.mem_map.2 ⟨_, hmem, rfl⟩)).len
      have HI := Stow.mk ((HW.out.ints _ hmem).keep hbr)
      have hrl : (Q ++ R.drop j).length = R.length := by rw [List.length_append, hQ.len, List.length_drop]; omega
      have hpj : (Q ++ R.drop j)[j]'(by omega) = R[j] := by
        rw [List.getElem_append_right (by rw [hQ.len]; omega)]
        simp [hQ.len]
      have hS2 : SlR wr 3 (.slice (some ⟨g, 0, none⟩) R.length c1) ((Q ++ R.drop j).map Wm.cells) := by
        refine SlR.of_own hQ.row (by rw [List.length_map]; exact hrl) fun i x hi k u hu => ?_
        rw [List.flatMap_def]
        exact flat_at (c := 3) (fun x hx => by obtain ⟨m, _, rfl⟩ := List.mem_map.1 hx; rfl) i x hi k u hu
      have hsp := win_at (R := Q ++ R.drop j) hS2 (k := j) (by omega)
      rw [hpj] at hsp
      obtain ⟨p, hp⟩ : ∃ p, R[j] = p := ⟨_, rfl⟩
      rw [hp] at hsp HI hsl
      have HPJ := Stow.mk hp
      have hfr : ∀ k, wr.frozen? ⟨g, k, none⟩ = false := fun k => World.ownsRow.frozenAt hQ.row k
      clear hp hpj hrl hS2 hmem hQ hbr
      obtain ⟨⟨n, h, s⟩, PA, pc⟩ := p
      obtain ⟨hltb, q0, q1, q2⟩ := hsp
      simp only [Wm.v, Nat.zero_add] at q0 q1 q2 HI hsl
      have hji : (j : Int) < R.length := by omega
      have hgne : (wr.heap.size == g) = false := by simp; omega
      go_wp2_with fail
      refine (ddCloneI_any s PA pc _ (HI.out.alloc _) hsl.1 hsl.2).mono ?_
      rintro e w2 ⟨gi, ci, rfl, hgi, hgil, hIr, hb2⟩
      have hgi' : wr.heap.size + 1 ≤ gi := by simpa using hgi
      have HB2 : Stow (Below wr.heap.size wr w2) := ⟨Below.call (Below.alloc' (Below.self _) _) hb2⟩
      have HQ2 := Stow.mk (HQ.out.keep HB2.out)
      have d2 : w2.cell? ⟨g, j * 3 + 2, none⟩ = some (.slice PA s.length pc) := (HB2.out.cell (p := ⟨g, j * 3 + 2, none⟩) hltb).trans q2
      have f2 : w2.frozen? ⟨g, j * 3 + 2, none⟩ = false := World.ownsRow.frozenAt HQ2.out.row _
      have hltb2 : g < w2.heap.size := Nat.lt_of_lt_of_le hltb HB2.out.size
      have HIR : Stow (IRow w2 w.heap.size (.slice (some ⟨gi, 0, none⟩) s.length ci) s) := ⟨hIr.base (by have := HBR.out.size; simp; omega)⟩
      have HNX := Stow.mk (HQ2.out.next hlt HPJ.out HIR.out (by omega) hgil (fun q hq => by
        obtain ⟨k, a, b, c⟩ := HQ.out.off q hq
        rw [a]; simp; omega))
      clear q0 q1 q2 hb2 hIr hfr
      go_wp2_with fail
      refine ⟨⟨j + 1, _, rfl, by omega, HNX.out, ?_, ?_⟩, by simp [intOf]; omega⟩
      · have := HB2.out.size
        simp; omega
      · exact (HBR.out.trans (HB2.out.mono HBR.out.size)).setCell (p := ⟨g, j * 3 + 2, none⟩) hg _
    · obtain rfl : j = R.length := by omega
      go_wp2_with fail
      go_ret
      refine ⟨_, Q, rfl, ?_, ?_, hbr⟩
      · have := hQ.same
        rwa [List.take_length] at this
      · have hr := hQ.row
        rw [List.drop_length, List.append_nil] at hr
        have hql := hQ.len
        have hrow : WRow wr w.heap.size (.slice (some ⟨g, 0, none⟩) R.length c1) Q := by
          unfold WRow
          rw [hql]
          exact hr
        exact ⟨hrow, hQ.ints, fun p hp => by obtain ⟨k, a, b, _⟩ := hQ.off p hp; rw [a]; simp [Value.ownBlock]; exact b, hQ.apart, fun h => by subst h; simp at hql; omega⟩
end Go.Proofs.Ytbcokngjcgldpaa
