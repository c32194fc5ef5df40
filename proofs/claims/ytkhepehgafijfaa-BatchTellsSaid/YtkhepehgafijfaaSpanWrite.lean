/- Walk of spanrec.Write. Condition: a span's fields fit their types. -/
import Derived.Test.YtkhepehgafijfaaSpanSpec
import Derived.Test.YtkhepehgafijfaaOctet
import Derived.Test.YtkhepehgafijfaaVarintText
namespace Go.Proofs.Ytkhepehgafijfaa
open Go.RowKit

set_option maxHeartbeats 1000000 in
set_option maxRecDepth 100000 in
theorem write_any (s : Sp) (w : World) (hs : s.fits) : Calls Try.prog 24 #[s.val] w fun e w' => e = .returned (.tuple #[.string (bs (write s).1), .int .i64 (write s).2]) ∧ Below w.heap.size w w' := by
  have hs0 := Lib.hid hs
  by_cases hc : check s = 0
  · have HW : Hid (write s = (spanBytes s, 0)) := Lib.hid (by simp [write, hc])
    obtain ⟨-, -, hn, c1, c2, c3, c4, c5, c6, c7, c8, c9, c10⟩ := check_zero hc
    have HC := Lib.hid hc; clear hc
    obtain ⟨hi, lo, id, up, name, st, sq, kd, sh, t0, t1⟩ := s
    simp only at hn c1 c2 c3 c4 c5 c6 c7 c8 c9 c10
    obtain ⟨h1, h2, h3, h4, h5⟩ := hs
    obtain ⟨a, rfl⟩ := Int.eq_ofNat_of_zero_le c1
    obtain ⟨b, rfl⟩ := Int.eq_ofNat_of_zero_le c3
    obtain ⟨c, rfl⟩ := Int.eq_ofNat_of_zero_le c5
    obtain ⟨d, rfl⟩ := Int.eq_ofNat_of_zero_le c7
    obtain ⟨f, rfl⟩ : ∃ f : Nat, t1 = (d : Int) + f := ⟨(t1 - d).toNat, by omega⟩
    have hnl : name.length ≤ 32 := by simp [nameOk] at hn; omega
    clear hn
    have hf1 := flatMap_len (f := Oc.digs 256 8) (c := 8) (fun n => by rw [Oc.digs_len]; omega) [hi, lo, id, up]
    have hf2 := flatMap_len (f := Vr.put) (c := 10) (fun n => (put_len n).2) [a, b, c, sh.toNat, d, f]
    have HF1 := Lib.hid hf1
    have HF2 := Lib.hid hf2
    clear hf1 hf2
    have htl : (Vr.text name).length ≤ 42 := by have := put_len name.length; simp [Vr.text]; omega
    simp only [Sp.val]
    go_enter Try.func24, Try.ntmps24
    go_wp2_with fail
    refine (check_any ⟨hi, lo, id, up, name, a, b, c, sh, d, d + f⟩ _ hs0.out).mono ?_
    rw [HC.out]
    rintro e w1 ⟨rfl, hb1⟩
    obtain ⟨hc1, hz1⟩ := bcell hb1
    have hsz1 : w.heap.size < w1.heap.size := by have := hb1.size; simp at this; omega
    go_wp2_with fail
    go_loopw [5, 30] (fun o v wr => ∃ j : Nat, v = .int .i64 j ∧ j ≤ 4 ∧ o = .string (bs (([hi, lo, id, up].take j).flatMap (Oc.digs 256 8))) ∧ Row .u64 wr w1.heap.size [hi, lo, id, up] ∧ Below w1.heap.size w1 wr ∧ w1.heap.size < wr.heap.size)
      (fun _ v _ => 4 - (intOf v).toNat)
    case atStart => exact ⟨0, rfl, by omega, rfl, Row.made .u64 w1 [hi, lo, id, up] 42, (Below.refl _ _).alloc (Nat.le_refl _) _, by simp⟩
    case round =>
      obtain ⟨j, rfl, hj, rfl, hrow, hbr, hsz⟩ := hrel
      by_cases hlt : j < 4
      · have hcell := hrow j hlt
        have HN := Lib.hid (flatMap_next (f := Oc.digs 256 8) (L := [hi, lo, id, up]) (j := j) hlt)
        have hlj : (([hi, lo, id, up].take j).flatMap (Oc.digs 256 8)).length ≤ 32 := flatMap_len (f := Oc.digs 256 8) (c := 8) (fun n => by rw [Oc.digs_len]; omega) [hi, lo, id, up] j
        have hn64 : [hi, lo, id, up].getD j 0 < 18446744073709551616 := by
          match j, hlt with
          | 0, _ => exact h1
          | 1, _ => exact h2
          | 2, _ => exact h3
          | 3, _ => exact h4
        generalize [hi, lo, id, up].getD j 0 = n at hcell HN hn64
        generalize ([hi, lo, id, up].take j).flatMap (Oc.digs 256 8) = acc at HN hlj
        have hdl := Oc.digs_len 256 8 n
        have hdl2 : (Oc.digs 256 8 n).length ≤ 8 := by omega
        clear hdl
        go_wp2_with fail
        refine (octPut8_any _ n rfl _ hn64).mono ?_
        rintro e w2 ⟨rfl, hb2⟩
        go_wp2_with fail
        exact ⟨⟨j + 1, rfl, by omega, by rw [HN.out], hrow.kept hb2 hsz, hbr.trans (hb2.mono hbr.size), Nat.lt_of_lt_of_le hsz hb2.size⟩, by simp [intOf]; omega⟩
      · obtain rfl : j = 4 := by omega
        obtain ⟨hcr, hzr⟩ := bcell hbr
        have hle : (([hi, lo, id, up].take 4).flatMap (Oc.digs 256 8)).length ≤ 32 := HF1.out 4
        obtain ⟨pre, hpre⟩ : ∃ pre, ([hi, lo, id, up].take 4).flatMap (Oc.digs 256 8) = pre := ⟨_, rfl⟩
        have HP := Lib.hid hpre
        rw [hpre] at hle ⊢
        clear hpre hrow
        have hszr : w.heap.size < wr.heap.size := by omega
        cases sh
        · go_wp2_with fail
          refine (text_any name _ (by omega)).mono ?_
          rintro e w2 ⟨rfl, hb2⟩
          obtain ⟨hc2, hz2⟩ := bcell hb2
          have hsz2 := hb2.size
          go_wp2_with fail
          go_loopw [5, 66] (fun o v wx => ∃ j : Nat, v = .int .i64 j ∧ j ≤ 6 ∧ o = .string (bs (pre ++ (Vr.text name ++ ([a, b, c, 0, d, f].take j).flatMap Vr.put))) ∧ Row .i64 wx w2.heap.size [a, b, c, 0, d, f] ∧ Below w2.heap.size w2 wx ∧ w2.heap.size < wx.heap.size)
            (fun _ v _ => 6 - (intOf v).toNat)
          case atStart =>
            refine ⟨0, rfl, by omega, by simp, ?_, (Below.refl _ _).alloc (Nat.le_refl _) _, by simp⟩
            rw [show ((d : Int) + f - d) = f by omega]
            exact Row.made .i64 w2 [a, b, c, 0, d, f] 3
          case round =>
            obtain ⟨j, rfl, hj2, rfl, hrow2, hbx, hsx⟩ := hrel
            by_cases hlt2 : j < 6
            · have hcell := hrow2 j hlt2
              have HN := Lib.hid (flatMap_next (f := Vr.put) (L := [a, b, c, 0, d, f]) (j := j) hlt2)
              have hlj : (([a, b, c, 0, d, f].take j).flatMap Vr.put).length ≤ 60 := flatMap_len (f := Vr.put) (c := 10) (fun n => (put_len n).2) [a, b, c, 0, d, f] j
              have hn64 : [a, b, c, 0, d, f].getD j 0 ≤ 1099511627776 := by
                match j, hlt2 with
                | 0, _ => simp; omega
                | 1, _ => simp; omega
                | 2, _ => simp; omega
                | 3, _ => simp
                | 4, _ => simp; omega
                | 5, _ => simp; omega
              generalize [a, b, c, 0, d, f].getD j 0 = n at hcell HN hn64
              generalize ([a, b, c, 0, d, f].take j).flatMap Vr.put = acc at HN hlj
              have hpl := (put_len n).2
              go_wp2_with fail
              refine (put_any _ n (by omega) _ (by omega)).mono ?_
              rintro e w3 ⟨rfl, hb3⟩
              go_wp2_with fail
              exact ⟨⟨j + 1, rfl, by omega, by rw [HN.out], hrow2.kept hb3 hsx, hbx.trans (hb3.mono hbx.size), Nat.lt_of_lt_of_le hsx hb3.size⟩, by simp [intOf]; omega⟩
            · obtain rfl : j = 6 := by omega
              go_wp2_with fail
              go_ret2
              refine ⟨?_, ((Below.refl _ _).alloc (Nat.le_refl _) _).trans ((hb1.mono (by simp)).trans ((hbr.mono (by omega)).trans ((hb2.mono (by omega)).trans (hbx.mono (by omega)))))⟩
              rw [HW.out]
              show Ending.returned (.tuple #[.string (bs _), .int .i64 0]) = _
              rw [← HP.out]
              have e : ((d : Int) + f - d).toNat = f := by omega
              simp only [spanBytes, e]
              simp [List.flatMap_cons]
        · go_wp2_with fail
          refine (text_any name _ (by omega)).mono ?_
          rintro e w2 ⟨rfl, hb2⟩
          obtain ⟨hc2, hz2⟩ := bcell hb2
          have hsz2 := hb2.size
          go_wp2_with fail
          go_loopw [5, 66] (fun o v wx => ∃ j : Nat, v = .int .i64 j ∧ j ≤ 6 ∧ o = .string (bs (pre ++ (Vr.text name ++ ([a, b, c, 1, d, f].take j).flatMap Vr.put))) ∧ Row .i64 wx w2.heap.size [a, b, c, 1, d, f] ∧ Below w2.heap.size w2 wx ∧ w2.heap.size < wx.heap.size)
            (fun _ v _ => 6 - (intOf v).toNat)
          case atStart =>
            refine ⟨0, rfl, by omega, by simp, ?_, (Below.refl _ _).alloc (Nat.le_refl _) _, by simp⟩
            rw [show ((d : Int) + f - d) = f by omega]
            exact Row.made .i64 w2 [a, b, c, 1, d, f] 3
          case round =>
            obtain ⟨j, rfl, hj2, rfl, hrow2, hbx, hsx⟩ := hrel
            by_cases hlt2 : j < 6
            · have hcell := hrow2 j hlt2
              have HN := Lib.hid (flatMap_next (f := Vr.put) (L := [a, b, c, 1, d, f]) (j := j) hlt2)
              have hlj : (([a, b, c, 1, d, f].take j).flatMap Vr.put).length ≤ 60 := flatMap_len (f := Vr.put) (c := 10) (fun n => (put_len n).2) [a, b, c, 1, d, f] j
              have hn64 : [a, b, c, 1, d, f].getD j 0 ≤ 1099511627776 := by
                match j, hlt2 with
                | 0, _ => simp; omega
                | 1, _ => simp; omega
                | 2, _ => simp; omega
                | 3, _ => simp
                | 4, _ => simp; omega
                | 5, _ => simp; omega
              generalize [a, b, c, 1, d, f].getD j 0 = n at hcell HN hn64
              generalize ([a, b, c, 1, d, f].take j).flatMap Vr.put = acc at HN hlj
              have hpl := (put_len n).2
              go_wp2_with fail
              refine (put_any _ n (by omega) _ (by omega)).mono ?_
              rintro e w3 ⟨rfl, hb3⟩
              go_wp2_with fail
              exact ⟨⟨j + 1, rfl, by omega, by rw [HN.out], hrow2.kept hb3 hsx, hbx.trans (hb3.mono hbx.size), Nat.lt_of_lt_of_le hsx hb3.size⟩, by simp [intOf]; omega⟩
            · obtain rfl : j = 6 := by omega
              go_wp2_with fail
              go_ret2
              refine ⟨?_, ((Below.refl _ _).alloc (Nat.le_refl _) _).trans ((hb1.mono (by simp)).trans ((hbr.mono (by omega)).trans ((hb2.mono (by omega)).trans (hbx.mono (by omega)))))⟩
              rw [HW.out]
              show Ending.returned (.tuple #[.string (bs _), .int .i64 0]) = _
              rw [← HP.out]
              have e : ((d : Int) + f - d).toNat = f := by omega
              simp only [spanBytes, e]
              simp [List.flatMap_cons]
  · obtain ⟨c0, hc0⟩ : ∃ c0, check s = c0 := ⟨_, rfl⟩
    have HW : Hid (write s = ([], c0)) := Lib.hid (by simp [write, hc0]; omega)
    rw [hc0] at hc
    have HC := Lib.hid hc0
    have hne : (((c0 : Nat) : Int) != 0) = true := by simp; omega
    clear hc0
    obtain ⟨hi, lo, id, up, name, st, sq, kd, sh, t0, t1⟩ := s
    simp only [Sp.val]
    go_enter Try.func24, Try.ntmps24
    go_wp2_with fail
    refine (check_any ⟨hi, lo, id, up, name, st, sq, kd, sh, t0, t1⟩ _ hs0.out).mono ?_
    rw [HC.out]
    rintro e w1 ⟨rfl, hb1⟩
    go_wp2_with fail
    go_ret2
    exact ⟨by rw [HW.out]; rfl, ((Below.refl _ _).alloc (Nat.le_refl _) _).trans (hb1.mono (by simp))⟩
end Go.Proofs.Ytkhepehgafijfaa
