/- Walk of the parser's piece where there is one. Conditions: the parser's memory; texts no longer than 2^31; a variable of the library's holds an int. -/
import Derived.Test.YtmknemnpjjcdbaaDoorFmPsr
namespace Go.Proofs.YtmknemnpjjcdbaaDoor
open Go.RowKit
set_option linter.unusedVariables false

theorem psr_push {W w' : World} {g g' n cap : Nat} {out out' : List Pt} {text : List UInt8} {ov tv : Value} (h1 : Held W g [ov, tv]) (h2 : PRow W (g + 1) ov out) (h3 : BRow W (g + 1) 5 tv text) (h4 : ∀ k, ov.ownBlock = some k → tv.ownBlock ≠ some k)
    (hg : W.grownBy w' ov.ownBlock) (hr : PRow w' (g + 1) (.slice (some ⟨g', 0, none⟩) n cap) out') (hat : ov.ownBlock = some g' ∨ g' = W.heap.size) : Psr (w'.setCell ⟨g, 0, none⟩ (.slice (some ⟨g', 0, none⟩) n cap)) g out' text := by
  have hp := psr_out h1 h2 hg hr
  have a3 : BRow w' (g + 1) 5 tv text := own_apart h3 hg (fun k hk e => h4 k e hk)
  refine ⟨_, tv, hp.1, hp.2, own_set a3 (by omega) _ _, fun k hk e => ?_⟩
  simp [Value.ownBlock] at hk
  subst hk
  rcases hat with hat | hat
  · exact h4 _ hat e
  · have := (World.ownsRow.lt h3 _ e).2
    omega
theorem flush_len (out : List Pt) (text : List UInt8) : (Fm.flush out text).length ≤ out.length + 1 := by
  unfold Fm.flush
  split <;> simp

set_option maxHeartbeats 2000000 in
set_option maxRecDepth 100000 in
theorem fmPiece_some (g : Nat) (out : List Pt) (text rest : List UInt8) (i : Nat) (w : World) (h : Psr w g out text) (hi : Lib.index rest [37] = i) (h0 : 0 < i) (hil : i ≤ rest.length) (hl : rest.length ≤ 100000) (hn : out.length ≤ 10000) (ht : text.length ≤ 100000) (hm : MaxIs w) :
    Calls Tryd.prog 14 #[.pointer (some ⟨g, 0, none⟩), .string (bs rest)] w fun e w' => e = .returned (.tuple #[.int .i64 ((i : Int) + 1), .bool (Fm.part (rest.take i)).isSome]) ∧ ((Fm.part (rest.take i) = none → Psr w' g out text) ∧ ∀ p, Fm.part (rest.take i) = some p → Psr w' g (Fm.flush out text ++ [p]) []) ∧ Below g w w' := by
  have HI := Stow.mk hi
  have HM := Stow.mk hm
  obtain ⟨ov, tv, h1, h2, h3, h4⟩ := h
  have H1 := Stow.mk h1
  have H2 := Stow.mk h2
  have H3 := Stow.mk h3
  have H4 := Stow.mk h4
  have hlt := h1.lt
  have K := fun W => fmPart_any (rest.take i) W (by simp; omega)
  obtain ⟨px, hpx⟩ : ∃ px, Fm.part (rest.take i) = px := ⟨_, rfl⟩
  have HRW := Stow.mk (fun p h => Fm.raw_some (s := rest.take i) (p := p) h)
  obtain ⟨rx, hrx⟩ : ∃ rx, Fm.raw (rest.take i) = rx := ⟨_, rfl⟩
  rw [hpx, hrx] at K HRW
  rw [hpx]
  have HK := Stow.mk K
  have hin : (0 : Int) ≤ i ∧ (i : Int) ≤ rest.length := ⟨by omega, by omega⟩
  have hm1 : ((i : Int) == -1) = false := by rw [beq_eq_false_iff_ne]; omega
  have hz0 : ((i : Int) == 0) = false := by rw [beq_eq_false_iff_ne]; omega
  clear hi hm h1 h2 h3 h4 K hpx hrx
  obtain ⟨r1, r2⟩ := rx
  simp only at HK
  cases px with
  | none =>
    simp only [Option.isSome_none] at HK ⊢
    go_enter Tryd.func14, Tryd.ntmps14
    go_wp2_with fail
    refine (fmIndex_lib rest _ (by omega) HM.out).mono ?_
    rw [HI.out]
    rintro e w1 ⟨rfl, rfl⟩
    go_wp2_with fail
    refine (HK.out _).mono ?_
    rintro e w2 ⟨rfl, hb2⟩
    go_wp2_with fail
    go_ret2
    have hb : Below w1.heap.size w1 (w2.alloc (.cells #[.int .i64 r1, .string (bs r2)] 35)) := hb2.alloc hb2.size _
    exact ⟨rfl, ⟨fun _ => Psr.keep ⟨ov, tv, H1.out, H2.out, H3.out, H4.out⟩ hb, fun p hp => by cases hp⟩, hb.mono (by omega)⟩
  | some p =>
    have hrp := HRW.out p rfl
    simp only [Option.isSome_some] at HK ⊢
    subst hrp
    have HFL : Stow ((Fm.flush out text).length ≤ 10001) := ⟨by have := flush_len out text; omega⟩
    obtain ⟨O, hO⟩ : ∃ O, Fm.flush out text = O := ⟨_, rfl⟩
    have KF := fun W a b c => fmFlush_at g out text ov tv W a b c H4.out (by omega) ht
    rw [hO] at HFL KF
    rw [hO]
    have HKF := Stow.mk KF
    have hol := HFL.out
    clear KF hO HRW
    go_enter Tryd.func14, Tryd.ntmps14
    go_wp2_with fail
    refine (fmIndex_lib rest _ (by omega) HM.out).mono ?_
    rw [HI.out]
    rintro e w1 ⟨rfl, rfl⟩
    go_wp2_with fail
    refine (HK.out _).mono ?_
    rintro e w2 ⟨rfl, hb2⟩
    have hs2 := hb2.size
    have hb3 : Below w1.heap.size w1 (w2.alloc (.cells #[.int .i64 r1, .string (bs r2)] 35)) := hb2.alloc hb2.size _
    have hX := Held.made w2 [.int .i64 r1, .string (bs r2)] 35
    go_wp2_with fail
    refine (HKF.out _ (H1.out.kept hb3) (H2.out.kept hb3) (own_kept H3.out hb3)).mono ?_
    rintro e w4 ⟨rfl, hps, hb4, hfr⟩
    have hX4 := hfr _ _ hX (by omega) (fun e => by have := (World.ownsRow.lt H2.out _ e).2; omega)
    obtain ⟨ov4, tv4, g1, g2, g3, g4⟩ := hps
    obtain ⟨A4, c4, rfl⟩ := g2.form
    have x0 := hX4.cell (i := 0) rfl
    have x1 := hX4.cell (i := 1) rfl
    have a0 := g1.cell (i := 0) rfl
    have a1 := g1.cell (i := 1) rfl
    have f0 := g1.free 0
    have f1 := g1.free 1
    have hlt4 := g1.lt
    have hge : (w4.heap.size == g) = false := by simp; omega
    have hltx := hX4.lt
    have hgx : (w4.heap.size == w2.heap.size) = false := by simp; omega
    obtain ⟨i0, hi, hz, hsz, hby⟩ := info_parts info_part
    have HI0 := Stow.mk hi
    have HZ := Stow.mk hz
    have HSZ := Stow.mk hsz
    have HBY := Stow.mk hby
    have HD : Stow (Held (w4.alloc (.cells #[.int .i64 r1, .string (bs r2)] 35)).drew g [.slice A4 O.length c4, tv4]) := ⟨(g1.kept (Below.alloc' (Below.self w4) _)).drew⟩
    have HO : Stow ((w4.alloc (.cells #[.int .i64 r1, .string (bs r2)] 35)).drew.ownsRow (g + 1) 35 2 (.slice A4 O.length c4) O.length (O.flatMap Pt.cells)) := ⟨World.ownsRow.drew (World.ownsRow.alloc g2 _)⟩
    have HT : Stow (BRow (w4.alloc (.cells #[.int .i64 r1, .string (bs r2)] 35)).drew (g + 1) 5 tv4 []) := ⟨World.ownsRow.drew (World.ownsRow.alloc g3 _)⟩
    have HXX : Stow (∀ j u, ([.int .i64 r1, .string (bs r2)] : List Value)[j]? = some u → (w4.alloc (.cells #[.int .i64 r1, .string (bs r2)] 35)).drew.cell? ((⟨w4.heap.size, 0, none⟩ : Addr).add j) = some u) := ⟨World.news_of_block (cs := #[.int .i64 r1, .string (bs r2)]) (heap_alloc_new w4 _)⟩
    have HX1 : Stow (∀ u ∈ ([.int .i64 r1, .string (bs r2)] : List Value), u.oneCell' = true) := ⟨pt_one (p := (r1, r2))⟩
    have HN1 : Stow (O.length + 1 ≤ maxLen ∧ (O.length + 1) * 24 ≤ 140737488355328 ∧ g + 1 ≤ (w4.alloc (.cells #[.int .i64 r1, .string (bs r2)] 35)).drew.heap.size) := ⟨by unfold maxLen; omega, by omega, by simp; omega⟩
    have HBG : Stow (Below g w1 (w4.alloc (.cells #[.int .i64 r1, .string (bs r2)] 35)).drew) := ⟨(((hb3.mono (by omega)).trans hb4).alloc (by omega) _).drew⟩
    have HG4 := Stow.mk g4
    clear g1 g2 g3 g4 hX4 hX hfr hb4 hb3 hb2 hi hz hsz hby
    go_wp2_with fail
    go_region_law (refine step_append_lies _ rfl (.tmp 38) (.tmp 40) 23 rfl (g + 1) 35 i0 _ 2 24 Tryd.underlying23 HI0.out HZ.out HSZ.out HBY.out rfl (by decide) _ O.length _ rfl HO.out ⟨w4.heap.size, 0, none⟩ 1 1 [.int .i64 r1, .string (bs r2)] rfl rfl HXX.out HX1.out (by decide) HN1.out.1 HN1.out.2.1 HN1.out.2.2 _ rfl ?_; intro g' cap' w' hown hgrow hat hlt'; have HOW := Stow.mk hown; have HGR := Stow.mk hgrow; have HAT := Stow.mk hat; have ha := HD.out.grown hgrow (own_block HO.out (by omega)); have b0' := ha.cell (i := 0) rfl; have b1' := ha.cell (i := 1) rfl; have f0' := ha.free 0; have f1' := ha.free 1; clear hown hgrow hat ha)
    all_goals go_wp2_with fail
    all_goals go_ret2
    all_goals
      refine ⟨rfl, ⟨fun hp => (by cases hp), fun q hq => ?_⟩, ?_⟩
      · obtain rfl := Option.some.inj hq
        exact psr_push HD.out HO.out HT.out HG4.out HGR.out (out' := O ++ [(r1, r2)]) (by unfold PRow; simpa [Pt.cells] using HOW.out) HAT.out
      · exact (HBG.out.grown HGR.out (by simp; omega) (fun k hk => by have := (HO.out.lt k hk).1; omega)).setCell (p := ⟨g, 0, none⟩) (Nat.le_refl _) _
end Go.Proofs.YtmknemnpjjcdbaaDoor
