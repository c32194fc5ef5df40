/- Walk of the reference's Read of an operation's line. Condition: a line that is not too long. -/
import Derived.Test.YtbnaicgomabigaaDoorPgRefWrite
import Derived.Test.YtbnaicgomabigaaDoorPgReadFn
import Derived.Deep.RegionHeld3
namespace Go.Proofs.YtbnaicgomabigaaDoor
open Go.RowKit
set_option linter.unusedVariables false

theorem refread_results (W : World) (g : Nat) (a b c d : Value) (ok : Bool) (tmps : Array Value) (hH : Held W g [a, b, c, d]) (h2 : tmps[2]?.getD undef = .pointer (some ⟨g, 0, none⟩)) (h3 : tmps[3]?.getD undef = .bool ok) :
    (results Tryd.f17 tmps).run Tryd.prog W = .ok (.tuple #[.agg #[a, b, c, d], .bool ok]) W := by
  have c0 := hH.cell (i := 0) rfl
  have c1 := hH.cell (i := 1) rfl
  have c2 := hH.cell (i := 2) rfl
  have c3 := hH.cell (i := 3) rfl
  simp [results, Tryd.results17, go_sem, h2, h3, c0, c1, c2, c3]

namespace Pg
def refN (rest : List UInt8) (j : Nat) : Int := (rest.take j).foldl (fun n b => 10 * n + b.toNat - 48) 0
theorem refN_zero (rest : List UInt8) : refN rest 0 = 0 := by simp [refN]
theorem refN_next {rest : List UInt8} {j : Nat} (h : j < rest.length) : refN rest (j + 1) = 10 * refN rest j + (rest[j].toNat : Int) - 48 := by
  unfold refN
  rw [List.take_succ_eq_append_getElem h, List.foldl_append]
  rfl
theorem refN_bound (rest : List UInt8) : ∀ j, j ≤ 3 → -100000 ≤ refN rest j ∧ refN rest j ≤ 100000
  | 0, _ => by rw [refN_zero]; omega
  | 1, _ => by
    by_cases h : 0 < rest.length
    · rw [refN_next h, refN_zero]; have := UInt8.toNat_lt rest[0]; omega
    · have : rest = [] := List.eq_nil_of_length_eq_zero (by omega)
      subst this; simp [refN]
  | 2, _ => by
    by_cases h : 1 < rest.length
    · rw [refN_next h, refN_next (show 0 < rest.length by omega), refN_zero]; have := UInt8.toNat_lt rest[0]; have := UInt8.toNat_lt rest[1]; omega
    · have e : refN rest 2 = refN rest 1 := by unfold refN; rw [List.take_of_length_le (by omega), List.take_of_length_le (by omega)]
      have := refN_bound rest 1 (by omega)
      rw [e]; exact this
  | 3, _ => by
    by_cases h : 2 < rest.length
    · rw [refN_next h, refN_next (show 1 < rest.length by omega), refN_next (show 0 < rest.length by omega), refN_zero]; have := UInt8.toNat_lt rest[0]; have := UInt8.toNat_lt rest[1]; have := UInt8.toNat_lt rest[2]; omega
    · have e : refN rest 3 = refN rest 2 := by unfold refN; rw [List.take_of_length_le (by omega), List.take_of_length_le (by omega)]
      have := refN_bound rest 2 (by omega)
      rw [e]; exact this
theorem refN_all {rest : List UInt8} {j : Nat} (h : j = 3 ∨ j = rest.length) (hj : j ≤ 3) : refN rest j = refNum rest := by
  unfold refN refNum
  rcases h with rfl | rfl
  · rfl
  · rw [List.take_of_length_le (Nat.le_refl _), List.take_of_length_le hj]
theorem refNum_of (rest : List UInt8) : NumOf rest (refNum rest) := fun M h0 h1 e => by rw [e]; exact refNum_itoa h0 h1
end Pg


set_option maxHeartbeats 4000000 in
set_option maxRecDepth 100000 in
theorem pgRefRead_any (l : List UInt8) (w : World) (hl : l.length < 2147483647) :
    Calls Tryd.prog 17 #[.string (bs l)] w fun e w' => e = .returned (.tuple #[((Pg.read l).getD Pg.zero).val, .bool (Pg.read l).isSome]) ∧ Below w.heap.size w w' := by
  obtain ⟨c1, hc1⟩ : ∃ c, (Pg.cut l).1 = c := ⟨_, rfl⟩
  obtain ⟨rest, hrest⟩ : ∃ c, (Pg.cut l).2 = c := ⟨_, rfl⟩
  have hrl : rest.length ≤ l.length := by rw [← hrest]; exact (Pg.cut_len l).2
  have HC1 := Stow.mk hc1
  have HREST := Stow.mk hrest
  clear hc1 hrest
  have HH : Stow (∀ w1, Below (w.alloc (.cells #[.int .i64 0, .string ⟨#[]⟩, .string ⟨#[]⟩, .int .i64 0] 23)).heap.size (w.alloc (.cells #[.int .i64 0, .string ⟨#[]⟩, .string ⟨#[]⟩, .int .i64 0] 23)) w1 → Held w1 w.heap.size [.int .i64 0, .string ⟨#[]⟩, .string ⟨#[]⟩, .int .i64 0]) := ⟨fun w1 h => (Held.made w [.int .i64 0, .string ⟨#[]⟩, .string ⟨#[]⟩, .int .i64 0] _).kept h⟩
  go_enter Tryd.func17, Tryd.ntmps17
  go_wp2_with fail
  refine (pgRefCut_any l _ (by omega)).mono ?_
  rw [HC1.out, HREST.out]
  rintro e w1 ⟨rfl, hb1⟩
  have HB1 := Stow.mk (Below.call (Below.alloc' (Below.self w) _) hb1)
  have HH1 := Stow.mk (HH.out w1 hb1)
  clear hb1
  go_wp2_with fail
  refine (pgWords_any _).mono ?_
  rintro e w2 ⟨g, rfl, hg, hgw, hcw, hb2⟩
  have HB2 := Stow.mk (Below.call HB1.out hb2)
  have HH2 := Stow.mk (HH1.out.kept hb2)
  have HG : Stow (g < w2.heap.size ∧ ∀ m : Nat, m ≤ 7 → w2.cell? ⟨g, m, none⟩ = some (.string (bs (Pg.wordN m)))) := ⟨⟨hg, hcw⟩⟩
  clear hb2 hg hcw
  go_wp2_with fail
  go_loopw [7] (fun v wr => ∃ i : Nat, v = .int .i64 (i : Int) ∧ 1 ≤ i ∧ i ≤ 8 ∧ Stow (Pg.Missed l (i - 1)) ∧ Stow (Held wr w.heap.size [.int .i64 0, .string ⟨#[]⟩, .string ⟨#[]⟩, .int .i64 0]) ∧ Stow (g < wr.heap.size ∧ ∀ m : Nat, m ≤ 7 → wr.cell? ⟨g, m, none⟩ = some (.string (bs (Pg.wordN m)))) ∧ Below w.heap.size w wr) (fun v _ => 8 - (intOf v).toNat)
  case atStart => exact ⟨1, rfl, by omega, by omega, ⟨Pg.Missed.zero l⟩, HH2, HG, HB2.out⟩
  case round =>
    obtain ⟨i, rfl, hi0, hi, HMS, HHR, HGR, hbr⟩ := hrel
    have HBR := Stow.mk hbr
    have hHl := HHR.out.lt
    have hgl := HGR.out.1
    have hne : (wr.heap.size == w.heap.size) = false := by simp; omega
    have hne2 : (wr.heap.size == g) = false := by simp; omega
    clear hbr
    by_cases hlt : i < 8
    · have hii : (i : Int) < 8 := by omega
      have hcell := HGR.out.2 i (by omega)
      obtain ⟨wd, hwd⟩ : ∃ x, Pg.word i = x := ⟨_, rfl⟩
      rw [show Pg.wordN i = wd by unfold Pg.wordN; rw [if_neg (by omega), hwd]] at hcell
      have HWD := Stow.mk hwd
      clear hwd
      have HNX : Stow (¬ Pg.hit l (i : Int) → Pg.Missed l i) := ⟨fun h => by
        have := HMS.out.next (by rw [show (((i - 1 : Nat) : Int) + 1) = (i : Int) by omega]; exact h)
        rwa [show i - 1 + 1 = i by omega] at this⟩
      by_cases hw : wd = c1
      · subst hw
        have hh := Pg.parseN_hit (line := l) (k := (i : Int)) (N := Pg.refNum rest) (by rw [HWD.out, HC1.out]) (by omega) (by omega) (by rw [HREST.out]; exact Pg.refNum_of rest)
        rw [HREST.out] at hh
        have hrh : Pg.hit l (i : Int) → Pg.read l = some (Pg.parseN (i : Int) rest (Pg.refNum rest)) := fun h => by
          rw [hh.2 h, Pg.read_hit (by omega) (by omega) h, HREST.out]
        have hh1 := hh.1
        clear hh
        by_cases h7 : i = 7
        · have e : Pg.parseN (i : Int) rest (Pg.refNum rest) = ⟨(i : Int), [], [], Pg.refNum rest⟩ := by rw [h7]; rfl
          rw [e] at hh1 hrh
          have hnb : -100000 ≤ Pg.refNum rest ∧ Pg.refNum rest ≤ 100000 := Pg.refN_bound rest 3 (by omega)
          have HALL : Stow (∀ j, j ≤ 3 → (j = 3 ∨ j = rest.length) → Pg.refN rest j = Pg.refNum rest) := ⟨fun j h3 h => Pg.refN_all h h3⟩
          obtain ⟨NN, hNN⟩ : ∃ x, Pg.refNum rest = x := ⟨_, rfl⟩
          simp only [hNN] at hh1 hrh hnb HALL
          obtain ⟨hnb1, hnb2⟩ := hnb
          have HHT := Stow.mk hh1
          have HRH := Stow.mk hrh
          clear hh1 hrh e hNN
          have q7 : ((i : Int) == 7) = true := by rw [beq_iff_eq]; omega
          have q3 : ((i : Int) == 3) = false := by rw [beq_eq_false_iff_ne]; omega
          have q6 : ((i : Int) == 6) = false := by rw [beq_eq_false_iff_ne]; omega
          clear h7
          have hO0 : Stow (Held (wr.alloc (.cells #[.int .i64 (i : Int), .string ⟨#[]⟩, .string ⟨#[]⟩, .int .i64 0] 23)) wr.heap.size [.int .i64 (i : Int), .string ⟨#[]⟩, .string ⟨#[]⟩, .int .i64 (Pg.refN rest 0)]) := ⟨by rw [Pg.refN_zero]; exact Held.made wr [.int .i64 (i : Int), .string ⟨#[]⟩, .string ⟨#[]⟩, .int .i64 0] _⟩
          have HBW0 : Stow (Below wr.heap.size wr (wr.alloc (.cells #[.int .i64 (i : Int), .string ⟨#[]⟩, .string ⟨#[]⟩, .int .i64 0] 23))) := ⟨Below.alloc' (Below.self _) _⟩
          go_wp2_with fail
          go_loopw [9] (fun v wx => ∃ j : Nat, v = .int .i64 (j : Int) ∧ j ≤ 3 ∧ j ≤ rest.length ∧ Stow (Held wx wr.heap.size [.int .i64 (i : Int), .string ⟨#[]⟩, .string ⟨#[]⟩, .int .i64 (Pg.refN rest j)]) ∧ Stow (Below wr.heap.size wr wx)) (fun v _ => 3 - (intOf v).toNat)
          case atStart => exact ⟨0, rfl, by omega, by omega, hO0, HBW0⟩
          case round =>
            obtain ⟨j, rfl, hj3, hjl, HOE, HBW⟩ := hrel
            have c0 := HOE.out.cell (i := 0) rfl
            have c1 := HOE.out.cell (i := 1) rfl
            have c2 := HOE.out.cell (i := 2) rfl
            have c3 := HOE.out.cell (i := 3) rfl
            have f3 := HOE.out.free 3
            by_cases hjn : j < 3 ∧ j < rest.length
            · obtain ⟨g3, gl⟩ := hjn
              have hb := Pg.refN_bound rest j (by omega)
              have hlb : j < (bs rest).size := gl
              have hNX := Pg.refN_next gl
              obtain ⟨u, hu⟩ : ∃ u, (rest[j]'hlb).toNat = u := ⟨_, rfl⟩
              have hu2 : u < 256 := by rw [← hu]; exact UInt8.toNat_lt _
              rw [show (rest[j]'gl).toNat = u from hu] at hNX
              obtain ⟨M, hM⟩ : ∃ M, Pg.refN rest j = M := ⟨_, rfl⟩
              rw [hM] at hb hNX c3
              obtain ⟨hb1, hb2⟩ := hb
              have HM2 := Stow.mk hNX
              have HMM := Stow.mk hM
              clear hNX hM
              have gi : (j : Int) < rest.length := by omega
              have gi3 : (j : Int) < 3 := by omega
              have w1 : IntKind.i64.wrap (10 * M) = 10 * M := IntWalk.i64_in _ (by omega)
              have w2 : IntKind.i64.wrap (10 * M + (u : Int)) = 10 * M + (u : Int) := IntWalk.i64_in _ (by omega)
              have w3 : IntKind.i64.wrap (10 * M + (u : Int) - 48) = 10 * M + (u : Int) - 48 := IntWalk.i64_in _ (by omega)
              go_wp2_with fail
              go_region
              go_wp2_with fail
              have hset := HOE.out.set 3 (.int .i64 (10 * M + (u : Int) - 48))
              exact ⟨⟨j + 1, rfl, by omega, by omega, ⟨by rw [HM2.out]; exact hset⟩, ⟨((HBW.out.setCell (p := ⟨_, 3, none⟩) (Nat.le_refl _) _).drew)⟩⟩, by simp [intOf]; omega⟩
            · have hend : j = 3 ∨ j = rest.length := by omega
              rw [HALL.out j hj3 hend] at HOE c3
              have gi : (decide ((j : Int) < rest.length) && decide ((j : Int) < 3)) = false := by simp; omega
              by_cases gl : j < rest.length
              · have gi : (j : Int) < rest.length := by omega
                have gi3 : decide ((j : Int) < 3) = false := by simp; omega
                go_wp2_with fail
                have HZE := Stow.mk (HHR.out.kept HBW.out)
                have HBE := Stow.mk (Below.trans HBR.out (HBW.out.mono HBR.out.size))
                have HGE := Stow.mk (And.intro (Nat.lt_of_lt_of_le HGR.out.1 HBW.out.size) (fun (m : Nat) (hm : m ≤ 7) => (HBW.out.cell (p := ⟨g, m, none⟩) HGR.out.1).trans (HGR.out.2 m hm)))
                obtain ⟨cc, hcc⟩ : ∃ c, Pg.check ⟨(i : Int), [], [], NN⟩ = c := ⟨_, rfl⟩
                obtain ⟨tt, htt⟩ : ∃ c, Pg.write ⟨(i : Int), [], [], NN⟩ = c := ⟨_, rfl⟩
                have HCC := Stow.mk hcc
                have HTT := Stow.mk htt
                have HPW : Stow (∀ W1, Calls Tryd.prog 15 #[.agg #[.int .i64 (i : Int), .string ⟨#[]⟩, .string ⟨#[]⟩, .int .i64 NN]] W1 fun e w' => e = .returned (.tuple #[.string (bs tt), .int .i64 (cc : Nat)]) ∧ Below W1.heap.size W1 w') := ⟨fun W1 => by
                  have := pgRefWrite_any ⟨(i : Int), [], [], NN⟩ W1 (by simp only; first | omega | simp) (by simp only; first | omega | simp) (by simp only; omega) (by simp only; omega)
                  rw [hcc, htt] at this
                  exact this⟩
                clear hcc htt
                refine (HPW.out _).mono ?_
                rintro e W2 ⟨rfl, hb2⟩
                have hO2 := HOE.out.kept hb2
                have hH2 := HZE.out.kept hb2
                have HO2 := Stow.mk hO2
                have HHW2 := Stow.mk hH2
                have HB2' : Stow (Below w.heap.size w W2) := ⟨HBE.out.trans (hb2.mono HBE.out.size)⟩
                have HG2 : Stow (g < W2.heap.size ∧ ∀ m : Nat, m ≤ 7 → W2.cell? ⟨g, m, none⟩ = some (.string (bs (Pg.wordN m)))) := ⟨⟨Nat.lt_of_lt_of_le HGE.out.1 hb2.size, fun m hm => (hb2.cell (p := ⟨g, m, none⟩) HGE.out.1).trans (HGE.out.2 m hm)⟩⟩
                clear hb2
                by_cases hc0 : cc = 0
                rotate_left
                · have hci : ((cc : Int) == 0) = false := by rw [beq_eq_false_iff_ne]; omega
                  have HMN : Stow (Pg.Missed l i) := ⟨HNX.out fun h => by
                    have := (HHT.out.2 h).1
                    rw [HCC.out] at this
                    exact hc0 this⟩
                  clear hO2 hH2
                  go_wp2_with fail
                  exact ⟨⟨i + 1, rfl, by omega, by omega, by simpa using HMN, HHW2, HG2, HB2'.out⟩, by simp [intOf]; omega⟩
                subst hc0
                have HTX : Stow (tt = Pg.text ⟨(i : Int), [], [], NN⟩) := ⟨by rw [← HTT.out]; unfold Pg.write; rw [if_pos HCC.out]⟩
                by_cases ht : tt = l
                rotate_left
                · have hti : (tt == l) = false := by rw [beq_eq_false_iff_ne]; exact ht
                  have HMN : Stow (Pg.Missed l i) := ⟨HNX.out fun h => by
                    have := (HHT.out.2 h).2
                    rw [← HTX.out] at this
                    exact ht this⟩
                  clear hO2 hH2
                  go_wp2_with fail
                  exact ⟨⟨i + 1, rfl, by omega, by omega, by simpa using HMN, HHW2, HG2, HB2'.out⟩, by simp [intOf]; omega⟩
                subst ht
                have HRD : Stow (Pg.read tt = some ⟨(i : Int), [], [], NN⟩) := ⟨HRH.out (HHT.out.1 ⟨HCC.out, HTX.out.symm⟩)⟩
                have c0 := hO2.cell (i := 0) rfl
                have c1 := hO2.cell (i := 1) rfl
                have c2 := hO2.cell (i := 2) rfl
                have c3 := hO2.cell (i := 3) rfl
                have a0 := hH2.cell (i := 0) rfl
                have a1 := hH2.cell (i := 1) rfl
                have a2 := hH2.cell (i := 2) rfl
                have a3 := hH2.cell (i := 3) rfl
                have f0 := hH2.free 0
                have f1 := hH2.free 1
                have f2 := hH2.free 2
                have f3 := hH2.free 3
                clear hO2 hH2
                go_wp2_with fail
                refine bodyPost_ret (refread_results _ w.heap.size (.int .i64 (i : Int)) (.string ⟨#[]⟩) (.string ⟨#[]⟩) (.int .i64 NN) true _ ((((HHW2.out.set 0 _).set 1 _).set 2 _).set 3 _) rfl rfl) rfl ?_
                exact ⟨by rw [HRD.out]; rfl, (((HB2'.out.setCell (p := ⟨w.heap.size, 0, none⟩) (Nat.le_refl _) _).setCell (p := ⟨w.heap.size, 1, none⟩) (Nat.le_refl _) _).setCell (p := ⟨w.heap.size, 2, none⟩) (Nat.le_refl _) _).setCell (p := ⟨w.heap.size, 3, none⟩) (Nat.le_refl _) _⟩
              · have gi : decide ((j : Int) < rest.length) = false := by simp; omega
                have gi4 : ¬ j < rest.length := gl
                go_wp2_with fail
                have HZE := Stow.mk (HHR.out.kept HBW.out)
                have HBE := Stow.mk (Below.trans HBR.out (HBW.out.mono HBR.out.size))
                have HGE := Stow.mk (And.intro (Nat.lt_of_lt_of_le HGR.out.1 HBW.out.size) (fun (m : Nat) (hm : m ≤ 7) => (HBW.out.cell (p := ⟨g, m, none⟩) HGR.out.1).trans (HGR.out.2 m hm)))
                obtain ⟨cc, hcc⟩ : ∃ c, Pg.check ⟨(i : Int), [], [], NN⟩ = c := ⟨_, rfl⟩
                obtain ⟨tt, htt⟩ : ∃ c, Pg.write ⟨(i : Int), [], [], NN⟩ = c := ⟨_, rfl⟩
                have HCC := Stow.mk hcc
                have HTT := Stow.mk htt
                have HPW : Stow (∀ W1, Calls Tryd.prog 15 #[.agg #[.int .i64 (i : Int), .string ⟨#[]⟩, .string ⟨#[]⟩, .int .i64 NN]] W1 fun e w' => e = .returned (.tuple #[.string (bs tt), .int .i64 (cc : Nat)]) ∧ Below W1.heap.size W1 w') := ⟨fun W1 => by
                  have := pgRefWrite_any ⟨(i : Int), [], [], NN⟩ W1 (by simp only; first | omega | simp) (by simp only; first | omega | simp) (by simp only; omega) (by simp only; omega)
                  rw [hcc, htt] at this
                  exact this⟩
                clear hcc htt
                refine (HPW.out _).mono ?_
                rintro e W2 ⟨rfl, hb2⟩
                have hO2 := HOE.out.kept hb2
                have hH2 := HZE.out.kept hb2
                have HO2 := Stow.mk hO2
                have HHW2 := Stow.mk hH2
                have HB2' : Stow (Below w.heap.size w W2) := ⟨HBE.out.trans (hb2.mono HBE.out.size)⟩
                have HG2 : Stow (g < W2.heap.size ∧ ∀ m : Nat, m ≤ 7 → W2.cell? ⟨g, m, none⟩ = some (.string (bs (Pg.wordN m)))) := ⟨⟨Nat.lt_of_lt_of_le HGE.out.1 hb2.size, fun m hm => (hb2.cell (p := ⟨g, m, none⟩) HGE.out.1).trans (HGE.out.2 m hm)⟩⟩
                clear hb2
                by_cases hc0 : cc = 0
                rotate_left
                · have hci : ((cc : Int) == 0) = false := by rw [beq_eq_false_iff_ne]; omega
                  have HMN : Stow (Pg.Missed l i) := ⟨HNX.out fun h => by
                    have := (HHT.out.2 h).1
                    rw [HCC.out] at this
                    exact hc0 this⟩
                  clear hO2 hH2
                  go_wp2_with fail
                  exact ⟨⟨i + 1, rfl, by omega, by omega, by simpa using HMN, HHW2, HG2, HB2'.out⟩, by simp [intOf]; omega⟩
                subst hc0
                have HTX : Stow (tt = Pg.text ⟨(i : Int), [], [], NN⟩) := ⟨by rw [← HTT.out]; unfold Pg.write; rw [if_pos HCC.out]⟩
                by_cases ht : tt = l
                rotate_left
                · have hti : (tt == l) = false := by rw [beq_eq_false_iff_ne]; exact ht
                  have HMN : Stow (Pg.Missed l i) := ⟨HNX.out fun h => by
                    have := (HHT.out.2 h).2
                    rw [← HTX.out] at this
                    exact ht this⟩
                  clear hO2 hH2
                  go_wp2_with fail
                  exact ⟨⟨i + 1, rfl, by omega, by omega, by simpa using HMN, HHW2, HG2, HB2'.out⟩, by simp [intOf]; omega⟩
                subst ht
                have HRD : Stow (Pg.read tt = some ⟨(i : Int), [], [], NN⟩) := ⟨HRH.out (HHT.out.1 ⟨HCC.out, HTX.out.symm⟩)⟩
                have c0 := hO2.cell (i := 0) rfl
                have c1 := hO2.cell (i := 1) rfl
                have c2 := hO2.cell (i := 2) rfl
                have c3 := hO2.cell (i := 3) rfl
                have a0 := hH2.cell (i := 0) rfl
                have a1 := hH2.cell (i := 1) rfl
                have a2 := hH2.cell (i := 2) rfl
                have a3 := hH2.cell (i := 3) rfl
                have f0 := hH2.free 0
                have f1 := hH2.free 1
                have f2 := hH2.free 2
                have f3 := hH2.free 3
                clear hO2 hH2
                go_wp2_with fail
                refine bodyPost_ret (refread_results _ w.heap.size (.int .i64 (i : Int)) (.string ⟨#[]⟩) (.string ⟨#[]⟩) (.int .i64 NN) true _ ((((HHW2.out.set 0 _).set 1 _).set 2 _).set 3 _) rfl rfl) rfl ?_
                exact ⟨by rw [HRD.out]; rfl, (((HB2'.out.setCell (p := ⟨w.heap.size, 0, none⟩) (Nat.le_refl _) _).setCell (p := ⟨w.heap.size, 1, none⟩) (Nat.le_refl _) _).setCell (p := ⟨w.heap.size, 2, none⟩) (Nat.le_refl _) _).setCell (p := ⟨w.heap.size, 3, none⟩) (Nat.le_refl _) _⟩
        by_cases h36 : i = 3 ∨ i = 6
        · have e : Pg.parseN (i : Int) rest (Pg.refNum rest) = ⟨(i : Int), (Pg.cut rest).1, (Pg.cut rest).2, 0⟩ := by rw [Pg.parseN_ne (by omega)]; unfold Pg.parse; rw [if_neg (by omega), if_pos (by omega)]
          rw [e] at hh1 hrh
          have HHT := Stow.mk hh1
          have HRH := Stow.mk hrh
          have hcl := Pg.cut_len rest
          have HCUT := fun W => pgRefCut_any rest W (by omega)
          obtain ⟨xa, hxa⟩ : ∃ x, (Pg.cut rest).1 = x := ⟨_, rfl⟩
          obtain ⟨xb, hxb⟩ : ∃ x, (Pg.cut rest).2 = x := ⟨_, rfl⟩
          rw [hxa, hxb] at HHT HRH hcl
          simp only [hxa, hxb] at HCUT
          have HCT := Stow.mk HCUT
          obtain ⟨hcl1, hcl2⟩ := hcl
          clear hh1 hrh e hxa hxb HCUT
          have q7 : ((i : Int) == 7) = false := by rw [beq_eq_false_iff_ne]; omega
          have q36 : ((i : Int) == 3) = true ∨ (((i : Int) == 3) = false ∧ ((i : Int) == 6) = true) := by
            rcases h36 with h | h
            · left; rw [beq_iff_eq]; omega
            · right; exact ⟨by rw [beq_eq_false_iff_ne]; omega, by rw [beq_iff_eq]; omega⟩
          clear h36
          rcases q36 with q3 | ⟨q3, q6⟩
          all_goals
            go_wp2_with fail
            refine (HCT.out _).mono ?_
            rintro e W ⟨rfl, hbW⟩
            have hOW := (Held.made wr [.int .i64 (i : Int), .string ⟨#[]⟩, .string ⟨#[]⟩, .int .i64 0] 23).kept hbW
            have c1 := hOW.cell (i := 1) rfl
            have c2 := hOW.cell (i := 2) rfl
            have c0 := hOW.cell (i := 0) rfl
            have c3 := hOW.cell (i := 3) rfl
            have f1 := hOW.free 1
            have f2 := hOW.free 2
            have HOE : Stow (Held ((W.setCell ⟨wr.heap.size, 1, none⟩ (.string (bs xa))).setCell ⟨wr.heap.size, 2, none⟩ (.string (bs xb))) wr.heap.size [.int .i64 (i : Int), .string (bs xa), .string (bs xb), .int .i64 0]) := ⟨(hOW.set 1 _).set 2 _⟩
            have HBW : Stow (Below wr.heap.size wr ((W.setCell ⟨wr.heap.size, 1, none⟩ (.string (bs xa))).setCell ⟨wr.heap.size, 2, none⟩ (.string (bs xb)))) := ⟨((Below.call (Below.alloc' (Below.self _) _) hbW).setCell (p := ⟨wr.heap.size, 1, none⟩) (Nat.le_refl _) _).setCell (p := ⟨wr.heap.size, 2, none⟩) (Nat.le_refl _) _⟩
            clear hOW hbW
            go_wp2_with fail
            have HZE := Stow.mk (HHR.out.kept HBW.out)
            have HBE := Stow.mk (Below.trans HBR.out (HBW.out.mono HBR.out.size))
            have HGE := Stow.mk (And.intro (Nat.lt_of_lt_of_le HGR.out.1 HBW.out.size) (fun (m : Nat) (hm : m ≤ 7) => (HBW.out.cell (p := ⟨g, m, none⟩) HGR.out.1).trans (HGR.out.2 m hm)))
            obtain ⟨cc, hcc⟩ : ∃ c, Pg.check ⟨(i : Int), xa, xb, 0⟩ = c := ⟨_, rfl⟩
            obtain ⟨tt, htt⟩ : ∃ c, Pg.write ⟨(i : Int), xa, xb, 0⟩ = c := ⟨_, rfl⟩
            have HCC := Stow.mk hcc
            have HTT := Stow.mk htt
            have HPW : Stow (∀ W1, Calls Tryd.prog 15 #[.agg #[.int .i64 (i : Int), .string (bs xa), .string (bs xb), .int .i64 0]] W1 fun e w' => e = .returned (.tuple #[.string (bs tt), .int .i64 (cc : Nat)]) ∧ Below W1.heap.size W1 w') := ⟨fun W1 => by
              have := pgRefWrite_any ⟨(i : Int), xa, xb, 0⟩ W1 (by simp only; first | omega | simp) (by simp only; first | omega | simp) (by simp only; omega) (by simp only; omega)
              rw [hcc, htt] at this
              exact this⟩
            clear hcc htt
            refine (HPW.out _).mono ?_
            rintro e W2 ⟨rfl, hb2⟩
            have hO2 := HOE.out.kept hb2
            have hH2 := HZE.out.kept hb2
            have HO2 := Stow.mk hO2
            have HHW2 := Stow.mk hH2
            have HB2' : Stow (Below w.heap.size w W2) := ⟨HBE.out.trans (hb2.mono HBE.out.size)⟩
            have HG2 : Stow (g < W2.heap.size ∧ ∀ m : Nat, m ≤ 7 → W2.cell? ⟨g, m, none⟩ = some (.string (bs (Pg.wordN m)))) := ⟨⟨Nat.lt_of_lt_of_le HGE.out.1 hb2.size, fun m hm => (hb2.cell (p := ⟨g, m, none⟩) HGE.out.1).trans (HGE.out.2 m hm)⟩⟩
            clear hb2
            by_cases hc0 : cc = 0
            rotate_left
            · have hci : ((cc : Int) == 0) = false := by rw [beq_eq_false_iff_ne]; omega
              have HMN : Stow (Pg.Missed l i) := ⟨HNX.out fun h => by
                have := (HHT.out.2 h).1
                rw [HCC.out] at this
                exact hc0 this⟩
              clear hO2 hH2
              go_wp2_with fail
              exact ⟨⟨i + 1, rfl, by omega, by omega, by simpa using HMN, HHW2, HG2, HB2'.out⟩, by simp [intOf]; omega⟩
            subst hc0
            have HTX : Stow (tt = Pg.text ⟨(i : Int), xa, xb, 0⟩) := ⟨by rw [← HTT.out]; unfold Pg.write; rw [if_pos HCC.out]⟩
            by_cases ht : tt = l
            rotate_left
            · have hti : (tt == l) = false := by rw [beq_eq_false_iff_ne]; exact ht
              have HMN : Stow (Pg.Missed l i) := ⟨HNX.out fun h => by
                have := (HHT.out.2 h).2
                rw [← HTX.out] at this
                exact ht this⟩
              clear hO2 hH2
              go_wp2_with fail
              exact ⟨⟨i + 1, rfl, by omega, by omega, by simpa using HMN, HHW2, HG2, HB2'.out⟩, by simp [intOf]; omega⟩
            subst ht
            have HRD : Stow (Pg.read tt = some ⟨(i : Int), xa, xb, 0⟩) := ⟨HRH.out (HHT.out.1 ⟨HCC.out, HTX.out.symm⟩)⟩
            have c0 := hO2.cell (i := 0) rfl
            have c1 := hO2.cell (i := 1) rfl
            have c2 := hO2.cell (i := 2) rfl
            have c3 := hO2.cell (i := 3) rfl
            have a0 := hH2.cell (i := 0) rfl
            have a1 := hH2.cell (i := 1) rfl
            have a2 := hH2.cell (i := 2) rfl
            have a3 := hH2.cell (i := 3) rfl
            have f0 := hH2.free 0
            have f1 := hH2.free 1
            have f2 := hH2.free 2
            have f3 := hH2.free 3
            clear hO2 hH2
            go_wp2_with fail
            refine bodyPost_ret (refread_results _ w.heap.size (.int .i64 (i : Int)) (.string (bs xa)) (.string (bs xb)) (.int .i64 0) true _ ((((HHW2.out.set 0 _).set 1 _).set 2 _).set 3 _) rfl rfl) rfl ?_
            exact ⟨by rw [HRD.out]; rfl, (((HB2'.out.setCell (p := ⟨w.heap.size, 0, none⟩) (Nat.le_refl _) _).setCell (p := ⟨w.heap.size, 1, none⟩) (Nat.le_refl _) _).setCell (p := ⟨w.heap.size, 2, none⟩) (Nat.le_refl _) _).setCell (p := ⟨w.heap.size, 3, none⟩) (Nat.le_refl _) _⟩
        · have e : Pg.parseN (i : Int) rest (Pg.refNum rest) = ⟨(i : Int), rest, [], 0⟩ := by rw [Pg.parseN_ne (by omega)]; unfold Pg.parse; rw [if_neg (by omega), if_neg (by omega)]
          rw [e] at hh1 hrh
          have HHT := Stow.mk hh1
          have HRH := Stow.mk hrh
          clear hh1 hrh e
          have q7 : ((i : Int) == 7) = false := by rw [beq_eq_false_iff_ne]; omega
          have q3 : ((i : Int) == 3) = false := by rw [beq_eq_false_iff_ne]; omega
          have q6 : ((i : Int) == 6) = false := by rw [beq_eq_false_iff_ne]; omega
          have HOE : Stow (Held (wr.alloc (.cells #[.int .i64 (i : Int), .string (bs rest), .string ⟨#[]⟩, .int .i64 0] 23)) wr.heap.size [.int .i64 (i : Int), .string (bs rest), .string ⟨#[]⟩, .int .i64 0]) := ⟨Held.made wr [.int .i64 (i : Int), .string (bs rest), .string ⟨#[]⟩, .int .i64 0] _⟩
          have HBW : Stow (Below wr.heap.size wr (wr.alloc (.cells #[.int .i64 (i : Int), .string (bs rest), .string ⟨#[]⟩, .int .i64 0] 23))) := ⟨Below.alloc' (Below.self _) _⟩
          go_wp2_with fail
          have HZE := Stow.mk (HHR.out.kept HBW.out)
          have HBE := Stow.mk (Below.trans HBR.out (HBW.out.mono HBR.out.size))
          have HGE := Stow.mk (And.intro (Nat.lt_of_lt_of_le HGR.out.1 HBW.out.size) (fun (m : Nat) (hm : m ≤ 7) => (HBW.out.cell (p := ⟨g, m, none⟩) HGR.out.1).trans (HGR.out.2 m hm)))
          obtain ⟨cc, hcc⟩ : ∃ c, Pg.check ⟨(i : Int), rest, [], 0⟩ = c := ⟨_, rfl⟩
          obtain ⟨tt, htt⟩ : ∃ c, Pg.write ⟨(i : Int), rest, [], 0⟩ = c := ⟨_, rfl⟩
          have HCC := Stow.mk hcc
          have HTT := Stow.mk htt
          have HPW : Stow (∀ W1, Calls Tryd.prog 15 #[.agg #[.int .i64 (i : Int), .string (bs rest), .string ⟨#[]⟩, .int .i64 0]] W1 fun e w' => e = .returned (.tuple #[.string (bs tt), .int .i64 (cc : Nat)]) ∧ Below W1.heap.size W1 w') := ⟨fun W1 => by
            have := pgRefWrite_any ⟨(i : Int), rest, [], 0⟩ W1 (by simp only; first | omega | simp) (by simp only; first | omega | simp) (by simp only; omega) (by simp only; omega)
            rw [hcc, htt] at this
            exact this⟩
          clear hcc htt
          refine (HPW.out _).mono ?_
          rintro e W2 ⟨rfl, hb2⟩
          have hO2 := HOE.out.kept hb2
          have hH2 := HZE.out.kept hb2
          have HO2 := Stow.mk hO2
          have HHW2 := Stow.mk hH2
          have HB2' : Stow (Below w.heap.size w W2) := ⟨HBE.out.trans (hb2.mono HBE.out.size)⟩
          have HG2 : Stow (g < W2.heap.size ∧ ∀ m : Nat, m ≤ 7 → W2.cell? ⟨g, m, none⟩ = some (.string (bs (Pg.wordN m)))) := ⟨⟨Nat.lt_of_lt_of_le HGE.out.1 hb2.size, fun m hm => (hb2.cell (p := ⟨g, m, none⟩) HGE.out.1).trans (HGE.out.2 m hm)⟩⟩
          clear hb2
          by_cases hc0 : cc = 0
          rotate_left
          · have hci : ((cc : Int) == 0) = false := by rw [beq_eq_false_iff_ne]; omega
            have HMN : Stow (Pg.Missed l i) := ⟨HNX.out fun h => by
              have := (HHT.out.2 h).1
              rw [HCC.out] at this
              exact hc0 this⟩
            clear hO2 hH2
            go_wp2_with fail
            exact ⟨⟨i + 1, rfl, by omega, by omega, by simpa using HMN, HHW2, HG2, HB2'.out⟩, by simp [intOf]; omega⟩
          subst hc0
          have HTX : Stow (tt = Pg.text ⟨(i : Int), rest, [], 0⟩) := ⟨by rw [← HTT.out]; unfold Pg.write; rw [if_pos HCC.out]⟩
          by_cases ht : tt = l
          rotate_left
          · have hti : (tt == l) = false := by rw [beq_eq_false_iff_ne]; exact ht
            have HMN : Stow (Pg.Missed l i) := ⟨HNX.out fun h => by
              have := (HHT.out.2 h).2
              rw [← HTX.out] at this
              exact ht this⟩
            clear hO2 hH2
            go_wp2_with fail
            exact ⟨⟨i + 1, rfl, by omega, by omega, by simpa using HMN, HHW2, HG2, HB2'.out⟩, by simp [intOf]; omega⟩
          subst ht
          have HRD : Stow (Pg.read tt = some ⟨(i : Int), rest, [], 0⟩) := ⟨HRH.out (HHT.out.1 ⟨HCC.out, HTX.out.symm⟩)⟩
          have c0 := hO2.cell (i := 0) rfl
          have c1 := hO2.cell (i := 1) rfl
          have c2 := hO2.cell (i := 2) rfl
          have c3 := hO2.cell (i := 3) rfl
          have a0 := hH2.cell (i := 0) rfl
          have a1 := hH2.cell (i := 1) rfl
          have a2 := hH2.cell (i := 2) rfl
          have a3 := hH2.cell (i := 3) rfl
          have f0 := hH2.free 0
          have f1 := hH2.free 1
          have f2 := hH2.free 2
          have f3 := hH2.free 3
          clear hO2 hH2
          go_wp2_with fail
          refine bodyPost_ret (refread_results _ w.heap.size (.int .i64 (i : Int)) (.string (bs rest)) (.string ⟨#[]⟩) (.int .i64 0) true _ ((((HHW2.out.set 0 _).set 1 _).set 2 _).set 3 _) rfl rfl) rfl ?_
          exact ⟨by rw [HRD.out]; rfl, (((HB2'.out.setCell (p := ⟨w.heap.size, 0, none⟩) (Nat.le_refl _) _).setCell (p := ⟨w.heap.size, 1, none⟩) (Nat.le_refl _) _).setCell (p := ⟨w.heap.size, 2, none⟩) (Nat.le_refl _) _).setCell (p := ⟨w.heap.size, 3, none⟩) (Nat.le_refl _) _⟩
      · have hbb : (wd == c1) = false := by rw [beq_eq_false_iff_ne]; exact hw
        have HMN : Stow (Pg.Missed l i) := ⟨HNX.out (Pg.not_hit (by rw [HWD.out, HC1.out]; exact hw))⟩
        go_wp2_with fail
        exact ⟨⟨i + 1, rfl, by omega, by omega, by simpa using HMN, HHR, HGR, HBR.out⟩, by simp [intOf]; omega⟩
    · obtain rfl : i = 8 := by omega
      have HRN : Stow (Pg.read l = none) := ⟨HMS.out.none⟩
      have a0 := HHR.out.cell (i := 0) rfl
      have a1 := HHR.out.cell (i := 1) rfl
      have a2 := HHR.out.cell (i := 2) rfl
      have a3 := HHR.out.cell (i := 3) rfl
      have f0 := HHR.out.free 0
      have f1 := HHR.out.free 1
      have f2 := HHR.out.free 2
      have f3 := HHR.out.free 3
      go_wp2_with fail
      refine bodyPost_ret (refread_results _ w.heap.size (.int .i64 0) (.string ⟨#[]⟩) (.string ⟨#[]⟩) (.int .i64 0) false _ ((((HHR.out.set 0 _).set 1 _).set 2 _).set 3 _) rfl rfl) rfl ?_
      exact ⟨by rw [HRN.out]; rfl, (((HBR.out.setCell (p := ⟨w.heap.size, 0, none⟩) (Nat.le_refl _) _).setCell (p := ⟨w.heap.size, 1, none⟩) (Nat.le_refl _) _).setCell (p := ⟨w.heap.size, 2, none⟩) (Nat.le_refl _) _).setCell (p := ⟨w.heap.size, 3, none⟩) (Nat.le_refl _) _⟩
end Go.Proofs.YtbnaicgomabigaaDoor
