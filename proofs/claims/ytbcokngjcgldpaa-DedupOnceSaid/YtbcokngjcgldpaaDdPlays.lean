/- Walk of DedupPlays. Condition: a slice of pairs. -/
import Derived.Test.YtbcokngjcgldpaaDdKnown
import Derived.Test.YtbcokngjcgldpaaDdData
import Derived.Deep.RegionHeld3
namespace Go.Proofs.Ytbcokngjcgldpaa
open Go.RowKit Go.Lib
set_option linter.unusedVariables false

namespace Dd
/-- The windows after all moves. -/
def run (M : List Mv) : List Wi := M.foldl (fun L m => (fresh L m.1 m.2).1) []
theorem run_succ {M : List Mv} {j : Nat} (h : j < M.length) : run (M.take (j + 1)) = (fresh (run (M.take j)) M[j].1 M[j].2).1 := by
  unfold run
  rw [List.take_succ_eq_append_getElem h, List.foldl_append]
  rfl
theorem run_ok (M : List Mv) : Ok (run M) := by
  unfold run
  suffices ∀ L, Ok L → Ok (M.foldl (fun L m => (fresh L m.1 m.2).1) L) from this [] Ok.nil
  induction M with
  | nil => exact fun L h => h
  | cons m t ih => exact fun L h => ih _ h.fresh
end Dd

theorem WinR.drew {w : World} {v : Value} {R : List Wm} (h : WinR w v R) : WinR w.drew v R := h.keep (Below.drew (Below.self w))

set_option maxHeartbeats 1000000 in
set_option maxRecDepth 100000 in
theorem plays29 (M : List Mv) (A : Option Addr) (cap : Nat) (node seq : Int) (w : World) (hS : SlR w 2 (.slice A M.length cap) (M.map Mv.cells)) :
    Calls Try.prog 4 #[.slice A M.length cap, .int .i64 node, .int .i64 seq] w fun e w' => e = .returned (.bool true) ∧ Below w.heap.size w w' := by
  have HS := Stow.mk hS
  have hlen := hS.len
  simp only [List.length_map] at hlen
  clear hS
  by_cases h3 : 300 < M.length
  · have h3' : (300 : Int) < M.length := by omega
    go_enter Try.func4, Try.ntmps4
    go_wp2_with fail
    refine (known29_any _).mono ?_
    rintro e wk ⟨rfl, hbk⟩
    go_wp2_with fail
    go_ret
    exact ⟨rfl, hbk⟩
  have h3' : (M.length : Int) ≤ 300 := by omega
  go_enter Try.func4, Try.ntmps4
  go_wp2_with fail
  go_loopw [7, 8, 9] (fun l x v wr => ∃ (j : Nat) (R R' : List Wm), v = .int .i64 (j : Int) ∧ j ≤ M.length ∧ WinR wr l R ∧ WinR wr x R' ∧ wis R = Dd.run (M.take j) ∧ wis R' = Dd.run (M.take j) ∧ Below w.heap.size w wr) (fun _ _ v _ => M.length - (intOf v).toNat)
  case atStart => exact ⟨0, [], [], rfl, by omega, WinR.none _, WinR.none _, rfl, rfl, Below.self _⟩
  case round =>
    obtain ⟨j, R, R', rfl, hj, hW, hW', e, e', hbr⟩ := hrel
    have HL := Stow.mk hW
    have HX := Stow.mk hW'
    have HE := Stow.mk e
    have HE' := Stow.mk e'
    have HBR := Stow.mk hbr
    clear hW hW' e e' hbr
    by_cases hlt : j < M.length
    · have HR := Stow.mk (Dd.run_succ hlt)
      have HOK := Stow.mk (Dd.run_ok (M.take j))
      obtain ⟨b, off, rfl, hblt, _⟩ := HS.out.open (by simp; omega)
      have HP : Stow (∀ w', Below w.heap.size w w' → _) := ⟨fun w' hb => pair_at (HS.out.keep hb) hlt⟩
      obtain ⟨hb0, hc0, hc1⟩ := HP.out _ HBR.out
      obtain ⟨m, hm⟩ : ∃ m, M[j] = m := ⟨_, rfl⟩
      rw [hm] at HR hc0 hc1
      simp only [hm] at HP
      clear hm
      obtain ⟨m1, m2⟩ := m
      simp only at HR hc0 hc1 HP
      generalize Dd.run (M.take j) = L at *
      obtain ⟨r, hr⟩ : ∃ r, Dd.fresh L m1 m2 = r := ⟨_, rfl⟩
      rw [hr] at HR
      obtain ⟨r1, r2⟩ := r
      simp only at HR
      have HFR := Stow.mk hr
      clear hr
      have hji : (j : Int) < M.length := by omega
      go_wp2_with fail
      go_region_held3 (fun w' => w'.cell? ⟨b, off + j * 2, none⟩ = some (.int .i64 m1) ∧ w'.cell? ⟨b, off + j * 2 + 1, none⟩ = some (.int .i64 m2)) (first | go_keep | exact ⟨hk1, hk2⟩)
        (first | (go_at_call 22; refine (ddFresh_to HL.out.drew HE.out HOK.out HFR.out).mono ?_; rintro e w1 ⟨v1, R1, rfl, e1, hW1, ok1, hb1⟩; have hB1 : Below w.heap.size w w1 := HBR.out.trans ((Below.call (Below.drew (Below.self wr)) hb1).mono HBR.out.size); obtain ⟨_, hk1, hk2⟩ := HP.out _ hB1))
      have HB1 := Stow.mk hB1
      have H1 := Stow.mk (And.intro e1 (And.intro hW1 ok1))
      have HX1 := Stow.mk (HX.out.keep (Below.call (Below.drew (Below.self wr)) hb1))
      have hc0 := hk1
      have hc1 := hk2
      clear hk1 hk2 e1 hW1 ok1 hb1 hB1
      go_wp2_with fail
      go_region_held3 (fun w' => w'.cell? ⟨b, off + j * 2, none⟩ = some (.int .i64 m1) ∧ w'.cell? ⟨b, off + j * 2 + 1, none⟩ = some (.int .i64 m2)) (first | go_keep | exact ⟨hk1, hk2⟩)
        (first | (go_at_call 23; refine (refFresh_to HX1.out.drew HE'.out HOK.out HFR.out).mono ?_; rintro e w2 ⟨v2, R2, rfl, e2, hW2, ok2, hb2⟩; have hB2 : Below w.heap.size w w2 := HB1.out.trans ((Below.call (Below.drew (Below.self w1)) hb2).mono HB1.out.size); obtain ⟨_, hk1, hk2⟩ := HP.out _ hB2))
      have HB2 := Stow.mk hB2
      have H2 := Stow.mk (And.intro e2 (And.intro hW2 ok2))
      have HX2 := Stow.mk (H1.out.2.1.keep (Below.call (Below.drew (Below.self w1)) hb2))
      clear hk1 hk2 e2 hW2 ok2 hb2 hB2
      have hbb : (r2 != r2) = false := by simp
      go_wp2_with fail
      refine (refSame_any v1 v2 R1 R2 _ HX2.out H2.out.2.1 (H1.out.1.trans H2.out.1.symm)).mono ?_
      rintro e w3 ⟨rfl, hb3⟩
      go_wp2_with fail
      exact ⟨⟨j + 1, R1, R2, rfl, by omega, HX2.out.keep hb3, H2.out.2.1.keep hb3, by rw [HR.out]; exact H1.out.1, by rw [HR.out]; exact H2.out.1, HB2.out.trans (hb3.mono HB2.out.size)⟩, by simp [intOf]; omega⟩
    · obtain rfl : j = M.length := by omega
      rw [List.take_length] at *
      have HOK := Stow.mk (Dd.run_ok M)
      go_wp2_with fail
      refine (ddHas_to HL.out HE.out HOK.out rfl).mono ?_
      rintro e w1 ⟨rfl, hb1⟩
      have HX1 := Stow.mk (HX.out.keep hb1)
      generalize hh : Dd.has (Dd.run M) node seq = h
      have HH := Stow.mk hh
      clear hh
      have hhh : (h == h) = true := by simp
      go_wp2_with fail
      refine (refHas_any node seq _ R' _ HX1.out).mono ?_
      rw [HE'.out, HH.out]
      rintro e w2 ⟨rfl, rfl⟩
      go_wp2_with fail
      refine (known29_any _).mono ?_
      rintro e w3 ⟨rfl, hb3⟩
      go_wp2_with fail
      go_ret
      exact ⟨rfl, (HBR.out.trans (hb1.mono HBR.out.size)).trans (hb3.mono (Nat.le_trans HBR.out.size hb1.size))⟩

theorem plays29_at (v : Value) (node seq : Int) (w : World) (hv : Cells.pSlice w 2 [Cells.pInt .i64, Cells.pInt .i64] v) :
    Calls Try.prog 4 #[v, .int .i64 node, .int .i64 seq] w fun e w' => e = .returned (.bool true) ∧ Below w.heap.size w w' := by
  obtain ⟨M, A, cap, rfl, hS⟩ := pairs_of hv
  exact plays29 M A cap node seq w hS
end Go.Proofs.Ytbcokngjcgldpaa
