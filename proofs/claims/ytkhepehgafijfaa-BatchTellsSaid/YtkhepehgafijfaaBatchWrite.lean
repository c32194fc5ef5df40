/- Walks of batch's Write and Ack, and of the reference's Check, Write and Ack. Conditions: fields fit their types. -/
import Derived.Test.YtkhepehgafijfaaBatchCheck
import Derived.Test.YtkhepehgafijfaaSpanWrite
import Derived.Test.YtkhepehgafijfaaSpanRefWrite
namespace Go.Proofs.Ytkhepehgafijfaa
open Go.RowKit
set_option linter.unusedVariables false

theorem bs_nil : (⟨#[]⟩ : ByteArray) = bs [] := rfl

set_option maxHeartbeats 1000000 in
set_option maxRecDepth 100000 in
theorem refBtCheck_any (x y : Int) (A : Option Addr) (cap : Nat) (L : List Sp) (w : World) (hS : SlR w 11 (.slice A L.length cap) (L.map Sp.cells)) (hf : ∀ s ∈ L, s.fits) :
    Calls Try.prog 14 #[.agg #[.int .i64 x, .int .i64 y, .slice A L.length cap]] w fun e w' => e = .returned (.int .i64 (btCheck x y L : Nat)) ∧ Below w.heap.size w w' := by
  have HS := Stow.mk hS
  have HF := Stow.mk hf
  have hlen := hS.len
  simp only [List.length_map] at hlen
  clear hS hf
  obtain ⟨p, hp⟩ : ∃ p, placeB x y = p := ⟨_, rfl⟩
  have HP := Stow.mk hp
  clear hp
  cases p
  · have HC : Stow (btCheck x y L = 12) := ⟨by simp [btCheck, HP.out]⟩
    go_enter Try.func14, Try.ntmps14
    go_wp2_with fail
    refine (refPlace_any x y _).mono ?_
    rw [HP.out]
    rintro e w' ⟨rfl, rfl⟩
    go_wp2_with fail
    go_ret
    refine ⟨by rw [HC.out]; rfl, ?_⟩
    (repeat (first | exact Below.self _ | refine Below.alloc' ?_ _ | refine Below.drew ?_ | refine Below.drewN' ?_ _ | (refine Below.call ?_ (by assumption))))
  by_cases h0 : L.length = 0
  · have HC : Stow (btCheck x y L = 9) := ⟨by simp [btCheck, HP.out, h0]⟩
    go_enter Try.func14, Try.ntmps14
    go_wp2_with fail
    refine (refPlace_any x y _).mono ?_
    rw [HP.out]
    rintro e w' ⟨rfl, rfl⟩
    go_wp2_with fail
    go_ret
    refine ⟨by rw [HC.out]; rfl, ?_⟩
    (repeat (first | exact Below.self _ | refine Below.alloc' ?_ _ | refine Below.drew ?_ | refine Below.drewN' ?_ _ | (refine Below.call ?_ (by assumption))))
  have h0i : ((L.length : Int) == 0) = false := by simpa using h0
  by_cases h16 : 16 < L.length
  · have HC : Stow (btCheck x y L = 8) := ⟨by simp [btCheck, HP.out, h0, h16]⟩
    go_enter Try.func14, Try.ntmps14
    go_wp2_with fail
    refine (refPlace_any x y _).mono ?_
    rw [HP.out]
    rintro e w' ⟨rfl, rfl⟩
    go_wp2_with fail
    go_ret
    refine ⟨by rw [HC.out]; rfl, ?_⟩
    (repeat (first | exact Below.self _ | refine Below.alloc' ?_ _ | refine Below.drew ?_ | refine Below.drewN' ?_ _ | (refine Below.call ?_ (by assumption))))
  have HC : Stow (btCheck x y L = firstBad L) := ⟨by unfold btCheck; rw [if_neg (by simp [HP.out]), if_neg h0, if_neg h16]⟩
  have h16d : decide (16 < L.length) = false := by simpa using h16
  obtain ⟨b, off, rfl, hblt, _⟩ := HS.out.open (by simp; omega)
  clear h0
  go_enter Try.func14, Try.ntmps14
  go_wp2_with fail
  refine (refPlace_any x y _).mono ?_
  rw [HP.out]
  rintro e w' ⟨rfl, rfl⟩
  go_wp2_with fail
  go_loopw [3, 4] (fun v _ wr => ∃ j : Nat, v = .int .i64 j ∧ j ≤ L.length ∧ Stow (∀ s ∈ L.take j, check s = 0) ∧ Below w.heap.size w wr ∧ Held wr w.heap.size [.int .i64 x, .int .i64 y, .slice (some ⟨b, off, none⟩) L.length cap]) (fun v _ _ => L.length - (intOf v).toNat)
  case atStart => exact ⟨0, rfl, by omega, ⟨by simp⟩, Below.alloc' (Below.self _) _, Held.made w [.int .i64 x, .int .i64 y, .slice (some ⟨b, off, none⟩) L.length cap] _⟩
  case round =>
    obtain ⟨j, rfl, hj, HJ, hbr, hH⟩ := hrel
    have hh2 := hH.cell (i := 2) rfl
    by_cases hlt : j < L.length
    · have hsp := span_at (HS.out.keep hbr) hlt
      have hsf := Stow.mk (HF.out L[j] (List.getElem_mem hlt))
      obtain ⟨s, hs⟩ : ∃ s, L[j] = s := ⟨_, rfl⟩
      have HSJ := Stow.mk hs
      rw [hs] at hsp hsf
      clear hs
      obtain ⟨c, hc⟩ : ∃ c, check s = c := ⟨_, rfl⟩
      have HCS := Stow.mk hc
      clear hc
      obtain ⟨hi, lo, id, up, name, st, sq, kd, sh, t0, t1⟩ := s
      obtain ⟨hltb, q0, q1, q2, q3, q4, q5, q6, q7, q8, q9, q10⟩ := hsp
      simp only at q0 q1 q2 q3 q4 q5 q6 q7 q8 q9 q10
      go_wp2_with fail
      clear q0 q1 q2 q3 q4 q5 q6 q7 q8 q9 q10
      refine (refCheck_any ⟨hi, lo, id, up, name, st, sq, kd, sh, t0, t1⟩ _ hsf.out).mono ?_
      rw [HCS.out]
      rintro e w3 ⟨rfl, hb3⟩
      by_cases hc0 : c = 0
      · subst hc0
        go_wp2_with fail
        refine ⟨⟨j + 1, rfl, by omega, ⟨take_all_succ hlt HJ.out (by rw [HSJ.out, HCS.out])⟩, Below.call hbr hb3, hH.kept hb3⟩, by simp [intOf]; omega⟩
      · have hcn : ((c : Int) != 0) = true := by simp; omega
        go_wp2_with fail
        go_ret
        refine ⟨?_, Below.call hbr hb3⟩
        rw [HC.out, firstBad_at hlt HJ.out (by rw [HSJ.out, HCS.out]; exact hc0), HSJ.out, HCS.out]
        rfl
    · obtain rfl : j = L.length := by omega
      go_wp2_with fail
      go_ret
      refine ⟨?_, hbr⟩
      have := HJ.out
      rw [List.take_length] at this
      rw [HC.out, firstBad_zero.2 this]
      rfl

theorem flatMap_nextS {f : Sp → List UInt8} {L : List Sp} {j : Nat} (h : j < L.length) : (L.take (j + 1)).flatMap f = (L.take j).flatMap f ++ f L[j] := by
  rw [List.take_succ_eq_append_getElem h, List.flatMap_append]
  simp
theorem span_len {s : Sp} (h : check s = 0) : (spanBytes s).length ≤ 134 := by
  have hn := (check_zero h).2.2.1
  have h4 := fun n => (put_len n).2
  simp only [nameOk, Bool.and_eq_true, decide_eq_true_eq] at hn
  simp only [spanBytes, List.length_append, Oc.digs_len, Vr.text]
  have a1 := h4 s.name.length
  have a2 := h4 s.st.toNat
  have a3 := h4 s.sq.toNat
  have a4 := h4 s.kd.toNat
  have a5 := h4 s.sh.toNat
  have a6 := h4 s.t0.toNat
  have a7 := h4 (s.t1 - s.t0).toNat
  omega
theorem spans_len {L : List Sp} (h : ∀ s ∈ L, check s = 0) : (L.flatMap spanBytes).length ≤ 134 * L.length := by
  induction L with
  | nil => simp
  | cons s t ih =>
    have h1 := span_len (h s (by simp))
    have h2 := ih fun x hx => h x (by simp [hx])
    simp only [List.flatMap_cons, List.length_append, List.length_cons]; omega

theorem btCheck_good {x y : Int} {L : List Sp} (h : btCheck x y L = 0) : placeB x y = true ∧ 0 < L.length ∧ L.length ≤ 16 ∧ ∀ s ∈ L, check s = 0 := by
  unfold btCheck at h
  split at h
  · omega
  · split at h
    · omega
    · split at h
      · omega
      · rename_i h1 h2 h3
        exact ⟨by simpa using h1, by omega, by omega, firstBad_zero.1 h⟩

set_option maxHeartbeats 1000000 in
set_option maxRecDepth 100000 in
theorem btWrite_any (x y : Int) (A : Option Addr) (cap : Nat) (L : List Sp) (w : World) (hS : SlR w 11 (.slice A L.length cap) (L.map Sp.cells)) (hf : ∀ s ∈ L, s.fits) :
    Calls Try.prog 9 #[.agg #[.int .i64 x, .int .i64 y, .slice A L.length cap]] w fun e w' => e = .returned (.tuple #[.string (bs (btWrite x y L).1), .int .i64 ((btWrite x y L).2 : Nat)]) ∧ Below w.heap.size w w' := by
  have HS := Stow.mk hS
  have HF := Stow.mk hf
  have hlen := hS.len
  simp only [List.length_map] at hlen
  clear hS hf
  obtain ⟨c, hc⟩ : ∃ c, btCheck x y L = c := ⟨_, rfl⟩
  by_cases hc0 : c = 0
  rotate_left
  · have HW : Stow (btWrite x y L = ([], c)) := ⟨by unfold btWrite; rw [hc, if_neg hc0]⟩
    have HC := Stow.mk hc
    have hcn : ((c : Int) != 0) = true := by simp; omega
    clear hc
    go_enter Try.func9, Try.ntmps9
    go_wp2_with fail
    refine (btCheck_any x y A cap L _ (HS.out.alloc _) HF.out).mono ?_
    rw [HC.out]
    rintro e w1 ⟨rfl, hb1⟩
    go_wp2_with fail
    go_ret2
    refine ⟨by rw [HW.out]; rfl, ?_⟩
    (repeat (first | exact Below.self _ | refine Below.alloc' ?_ _ | refine Below.drew ?_ | refine Below.drewN' ?_ _ | (refine Below.call ?_ (by assumption))))
  subst hc0
  have HW : Stow (btWrite x y L = (seal_ (btBody x y L), 0)) := ⟨by unfold btWrite; rw [hc, if_pos rfl]⟩
  obtain ⟨hpl, hl0, hl16, hck⟩ := btCheck_good hc
  have HC := Stow.mk hc
  have HCK := Stow.mk hck
  have hsl := spans_len hck
  have HSL := Stow.mk hsl
  clear hc hck hsl
  obtain ⟨hx0, hx8, hy0, hy1⟩ := placeB_true hpl
  clear hpl
  obtain ⟨a, rfl⟩ := Int.eq_ofNat_of_zero_le hx0
  obtain ⟨d, rfl⟩ := Int.eq_ofNat_of_zero_le hy0
  obtain ⟨b, off, rfl, hblt, _⟩ := HS.out.open (by simp; omega)
  have lh : (⟨#[80, 66, 1]⟩ : ByteArray) = bs [80, 66, 1] := rfl
  go_enter Try.func9, Try.ntmps9
  go_wp2_with fail
  refine (btCheck_any a d (some ⟨b, off, none⟩) cap L _ (HS.out.alloc _) HF.out).mono ?_
  rw [HC.out]
  rintro e w1 ⟨rfl, hb1⟩
  obtain ⟨hc1, hz1⟩ := bcell hb1
  have hs1 : w.heap.size < w1.heap.size := by have := hb1.size; simp at this; omega
  go_wp2_with fail
  refine (numbers_any w1.heap.size 3 [a, d, L.length] _ (by simp) (Row.made .i64 w1 [a, d, L.length] _) (by simp) (by simp; omega)).mono ?_
  rintro e w2 ⟨rfl, hb2⟩
  obtain ⟨hc2, hz2⟩ := bcell hb2
  have hs2 : w1.heap.size < w2.heap.size := by have := hb2.size; simp at this; omega
  have hpre : ([a, d, L.length].flatMap Vr.put).length ≤ 30 := by
    have := flatMap_len (f := Vr.put) (c := 10) (fun n => (put_len n).2) [a, d, L.length] 3
    simpa using this
  obtain ⟨pre, hpre2⟩ : ∃ pre, [a, d, L.length].flatMap Vr.put = pre := ⟨_, rfl⟩
  have HPRE := Stow.mk hpre2
  rw [hpre2] at hpre ⊢
  clear hpre2
  have hs2w : w.heap.size < w2.heap.size := by omega
  go_wp2_with fail
  go_loopw [5, 7, 8, 9, 28] (fun o _ _ _ v wr => ∃ j : Nat, v = .int .i64 j ∧ j ≤ L.length ∧ o = .string (bs (80 :: 66 :: 1 :: (pre ++ (L.take j).flatMap spanBytes))) ∧ Below w.heap.size w wr) (fun _ _ _ _ v _ => L.length - (intOf v).toNat)
  case atStart => exact ⟨0, rfl, by omega, by simp, Below.call (Below.alloc' (Below.call (Below.alloc' (Below.self _) _) hb1) _) hb2⟩
  case round =>
    obtain ⟨j, rfl, hj, rfl, hbr⟩ := hrel
    by_cases hlt : j < L.length
    · have hsp := span_at (HS.out.keep hbr) hlt
      have hsf := Stow.mk (HF.out L[j] (List.getElem_mem hlt))
      have HN := Stow.mk (flatMap_nextS (f := spanBytes) hlt)
      have hck := HCK.out L[j] (List.getElem_mem hlt)
      have hlj := spans_len (L := L.take j) fun s hs => HCK.out s (List.mem_of_mem_take hs)
      have hlj2 : ((L.take j).flatMap spanBytes).length ≤ 2144 := by simp only [List.length_take] at hlj; omega
      clear hlj
      have hsl := span_len hck
      have hwg := write_good hck
      obtain ⟨s, hs⟩ : ∃ s, L[j] = s := ⟨_, rfl⟩
      rw [hs] at hsp hsf HN hsl hwg
      have HWG := Stow.mk hwg
      clear hs hck hwg
      obtain ⟨sb, hsb⟩ : ∃ sb, spanBytes s = sb := ⟨_, rfl⟩
      rw [hsb] at HN hsl HWG
      clear hsb
      generalize (L.take j).flatMap spanBytes = acc at HN hlj2
      obtain ⟨hi, lo, id, up, name, st, sq, kd, sh, t0, t1⟩ := s
      obtain ⟨hltb, q0, q1, q2, q3, q4, q5, q6, q7, q8, q9, q10⟩ := hsp
      simp only at q0 q1 q2 q3 q4 q5 q6 q7 q8 q9 q10
      go_wp2_with fail
      clear q0 q1 q2 q3 q4 q5 q6 q7 q8 q9 q10
      refine (write_any ⟨hi, lo, id, up, name, st, sq, kd, sh, t0, t1⟩ _ hsf.out).mono ?_
      rw [HWG.out]
      rintro e w3 ⟨rfl, hb3⟩
      go_wp2_with fail
      exact ⟨⟨j + 1, rfl, by omega, by rw [HN.out], Below.call (Below.alloc' hbr _) hb3⟩, by simp [intOf]; omega⟩
    · obtain rfl : j = L.length := by omega
      have hle := HSL.out
      rw [List.take_length]
      have hle2 : (L.flatMap spanBytes).length ≤ 2144 := by omega
      clear hle
      obtain ⟨all, hall⟩ : ∃ all, L.flatMap spanBytes = all := ⟨_, rfl⟩
      have HALL := Stow.mk hall
      rw [hall] at hle2 ⊢
      clear hall
      go_wp2_with fail
      refine (crcSeal_any (80 :: 66 :: 1 :: (pre ++ all)) _ (by simp; omega)).mono ?_
      rintro e w4 ⟨rfl, hb4⟩
      go_wp2_with fail
      go_ret2
      refine ⟨?_, Below.call hbr hb4⟩
      rw [HW.out, btBody]
      simp only [Int.toNat_natCast]
      rw [HPRE.out, HALL.out]
      rfl

set_option maxHeartbeats 1000000 in
set_option maxRecDepth 100000 in
theorem refBtWrite_any (x y : Int) (A : Option Addr) (cap : Nat) (L : List Sp) (w : World) (hS : SlR w 11 (.slice A L.length cap) (L.map Sp.cells)) (hf : ∀ s ∈ L, s.fits) :
    Calls Try.prog 10 #[.agg #[.int .i64 x, .int .i64 y, .slice A L.length cap]] w fun e w' => e = .returned (.tuple #[.string (bs (btWrite x y L).1), .int .i64 ((btWrite x y L).2 : Nat)]) ∧ Below w.heap.size w w' := by
  have HS := Stow.mk hS
  have HF := Stow.mk hf
  have hlen := hS.len
  simp only [List.length_map] at hlen
  clear hS hf
  obtain ⟨c, hc⟩ : ∃ c, btCheck x y L = c := ⟨_, rfl⟩
  by_cases hc0 : c = 0
  rotate_left
  · have HW : Stow (btWrite x y L = ([], c)) := ⟨by unfold btWrite; rw [hc, if_neg hc0]⟩
    have HC := Stow.mk hc
    have hcn : ((c : Int) != 0) = true := by simp; omega
    clear hc
    go_enter Try.func10, Try.ntmps10
    go_wp2_with fail
    refine (refBtCheck_any x y A cap L _ (HS.out.alloc _) HF.out).mono ?_
    rw [HC.out]
    rintro e w1 ⟨rfl, hb1⟩
    obtain ⟨hc1, hz1⟩ := bcell hb1
    have hs1 : w.heap.size < w1.heap.size := by have := hb1.size; simp at this; omega
    go_wp2_with fail
    refine (refBtCheck_any x y A cap L _ ((HS.out.alloc _).keep hb1) HF.out).mono ?_
    rw [HC.out]
    rintro e w2 ⟨rfl, hb2⟩
    go_wp2_with fail
    go_ret2
    refine ⟨by rw [HW.out]; rfl, ?_⟩
    (repeat (first | exact Below.self _ | refine Below.alloc' ?_ _ | refine Below.drew ?_ | refine Below.drewN' ?_ _ | (refine Below.call ?_ (by assumption))))
  subst hc0
  have HW : Stow (btWrite x y L = (seal_ (btBody x y L), 0)) := ⟨by unfold btWrite; rw [hc, if_pos rfl]⟩
  obtain ⟨hpl, hl0, hl16, hck⟩ := btCheck_good hc
  have HC := Stow.mk hc
  have HCK := Stow.mk hck
  have hsl := spans_len hck
  have HSL := Stow.mk hsl
  clear hc hck hsl
  obtain ⟨hx0, hx8, hy0, hy1⟩ := placeB_true hpl
  clear hpl
  obtain ⟨a, rfl⟩ := Int.eq_ofNat_of_zero_le hx0
  obtain ⟨d, rfl⟩ := Int.eq_ofNat_of_zero_le hy0
  obtain ⟨b, off, rfl, hblt, _⟩ := HS.out.open (by simp; omega)
  have lh : (⟨#[80, 66, 1]⟩ : ByteArray) = bs [80, 66, 1] := rfl
  have ea : IntKind.u64.wrap (a : Int) = a := wrap_u64_nat a (by omega)
  have ed : IntKind.u64.wrap (d : Int) = d := wrap_u64_nat d (by omega)
  have el : IntKind.u64.wrap (L.length : Int) = L.length := wrap_u64_nat _ (by omega)
  have p1 := (put_len a).2
  have p2 := (put_len d).2
  have p3 := (put_len L.length).2
  have hpre : ([a, d, L.length].flatMap Vr.put).length ≤ 30 := by
    have := flatMap_len (f := Vr.put) (c := 10) (fun n => (put_len n).2) [a, d, L.length] 3
    simpa using this
  obtain ⟨pre, hpre2⟩ : ∃ pre, [a, d, L.length].flatMap Vr.put = pre := ⟨_, rfl⟩
  have HPRE := Stow.mk hpre2
  rw [hpre2] at hpre
  have hpre3 : Vr.put a ++ (Vr.put d ++ Vr.put L.length) = pre := by rw [← hpre2]; simp
  have HPRE3 := Stow.mk hpre3
  clear hpre2 hpre3
  have hHeld := Held.made w [.int .i64 (a : Int), .int .i64 (d : Int), .slice (some ⟨b, off, none⟩) L.length cap] 24
  go_enter Try.func10, Try.ntmps10
  go_wp2_with fail
  refine (refBtCheck_any a d (some ⟨b, off, none⟩) cap L _ (HS.out.alloc _) HF.out).mono ?_
  rw [HC.out]
  rintro e w1 ⟨rfl, hb1⟩
  have hH1 := hHeld.kept hb1
  have hs1 := hH1.lt
  have g0 : ∀ x : Later w1.heap.size w1, x.1.cell? ⟨w.heap.size, 0, none⟩ = some (.int .i64 (a : Int)) := fun x => x.cell (hH1.cell (i := 0) rfl) hs1
  have g1 : ∀ x : Later w1.heap.size w1, x.1.cell? ⟨w.heap.size, 1, none⟩ = some (.int .i64 (d : Int)) := fun x => x.cell (hH1.cell (i := 1) rfl) hs1
  have g2 : ∀ x : Later w1.heap.size w1, x.1.cell? ⟨w.heap.size, 2, none⟩ = some (.slice (some ⟨b, off, none⟩) L.length cap) := fun x => x.cell (hH1.cell (i := 2) rfl) hs1
  go_wp2_with fail
  refine wp_region_later w1.heap.size (by kernel_rfl) (by kernel_rfl) ?_
  repeat (go_big_quiet_step ((go_at_call 26; exact Calls.later (Nat.le_refl _) (refPut_small _ _ rfl _ (by omega)))))
  refine wpQuiet_nil ?_
  rintro ⟨wx, hbx⟩
  clear g0 g1 g2
  go_wp2_with fail
  rw [HPRE3.out]
  go_loopw [4, 5, 6, 7] (fun o v _ _ wr => ∃ j : Nat, v = .int .i64 j ∧ j ≤ L.length ∧ o = .string (bs (80 :: 66 :: 1 :: (pre ++ (L.take j).flatMap spanBytes))) ∧ Below w.heap.size w wr ∧ Held wr w.heap.size [.int .i64 a, .int .i64 d, .slice (some ⟨b, off, none⟩) L.length cap]) (fun _ v _ _ _ => L.length - (intOf v).toNat)
  case atStart => exact ⟨0, rfl, by omega, by simp, Below.call (Below.call (Below.alloc' (Below.self _) _) hb1) hbx, (hHeld.kept hb1).kept hbx⟩
  case round =>
    obtain ⟨j, rfl, hj, rfl, hbr, hH⟩ := hrel
    have hh2 := hH.cell (i := 2) rfl
    by_cases hlt : j < L.length
    · have hsp := span_at (HS.out.keep hbr) hlt
      have hsf := Stow.mk (HF.out L[j] (List.getElem_mem hlt))
      have HN := Stow.mk (flatMap_nextS (f := spanBytes) hlt)
      have hck := HCK.out L[j] (List.getElem_mem hlt)
      have hlj := spans_len (L := L.take j) fun s hs => HCK.out s (List.mem_of_mem_take hs)
      have hlj2 : ((L.take j).flatMap spanBytes).length ≤ 2144 := by simp only [List.length_take] at hlj; omega
      clear hlj
      have hsl := span_len hck
      have hwg := write_good hck
      obtain ⟨s, hs⟩ : ∃ s, L[j] = s := ⟨_, rfl⟩
      rw [hs] at hsp hsf HN hsl hwg
      have HWG := Stow.mk hwg
      clear hs hck hwg
      obtain ⟨sb, hsb⟩ : ∃ sb, spanBytes s = sb := ⟨_, rfl⟩
      rw [hsb] at HN hsl HWG
      clear hsb
      generalize (L.take j).flatMap spanBytes = acc at HN hlj2
      obtain ⟨hi, lo, id, up, name, st, sq, kd, sh, t0, t1⟩ := s
      obtain ⟨hltb, q0, q1, q2, q3, q4, q5, q6, q7, q8, q9, q10⟩ := hsp
      simp only at q0 q1 q2 q3 q4 q5 q6 q7 q8 q9 q10
      go_wp2_with fail
      clear q0 q1 q2 q3 q4 q5 q6 q7 q8 q9 q10
      refine (refWrite_any ⟨hi, lo, id, up, name, st, sq, kd, sh, t0, t1⟩ _ hsf.out).mono ?_
      rw [HWG.out]
      rintro e w3 ⟨rfl, hb3⟩
      go_wp2_with fail
      exact ⟨⟨j + 1, rfl, by omega, by rw [HN.out], Below.call hbr hb3, hH.kept hb3⟩, by simp [intOf]; omega⟩
    · obtain rfl : j = L.length := by omega
      have hle := HSL.out
      rw [List.take_length]
      have hle2 : (L.flatMap spanBytes).length ≤ 2144 := by omega
      clear hle
      obtain ⟨all, hall⟩ : ∃ all, L.flatMap spanBytes = all := ⟨_, rfl⟩
      have HALL := Stow.mk hall
      rw [hall] at hle2 ⊢
      clear hall
      go_wp2_with fail
      refine (refCrcSeal_any (80 :: 66 :: 1 :: (pre ++ all)) _ (by simp; omega)).mono ?_
      rintro e w4 ⟨rfl, hb4⟩
      go_wp2_with fail
      go_ret2
      refine ⟨?_, Below.call hbr hb4⟩
      rw [HW.out, btBody]
      simp only [Int.toNat_natCast]
      rw [HPRE.out, HALL.out]
      rfl

set_option maxHeartbeats 400000 in
set_option maxRecDepth 100000 in
theorem btAck_any (x y : Int) (w : World) :
    Calls Try.prog 11 #[.int .i64 x, .int .i64 y] w fun e w' => e = .returned (.tuple #[.string (bs (btAck x y).1), .int .i64 ((btAck x y).2 : Nat)]) ∧ Below w.heap.size w w' := by
  obtain ⟨p, hp⟩ : ∃ p, placeB x y = p := ⟨_, rfl⟩
  have HP := Stow.mk hp
  cases p
  · have HW : Stow (btAck x y = ([], 12)) := ⟨by unfold btAck; rw [hp]; rfl⟩
    clear hp
    go_enter Try.func11, Try.ntmps11
    go_wp2_with fail
    refine (place_any x y _).mono ?_
    rw [HP.out]
    rintro e w' ⟨rfl, rfl⟩
    go_wp2_with fail
    go_ret2
    exact ⟨by rw [HW.out]; rfl, Below.self _⟩
  · have HW : Stow (btAck x y = (seal_ ([80, 65, 1] ++ [x.toNat, y.toNat].flatMap Vr.put), 0)) := ⟨by unfold btAck; rw [hp]; rfl⟩
    obtain ⟨hx0, hx8, hy0, hy1⟩ := placeB_true hp
    clear hp
    obtain ⟨a, rfl⟩ := Int.eq_ofNat_of_zero_le hx0
    obtain ⟨d, rfl⟩ := Int.eq_ofNat_of_zero_le hy0
    have lh : (⟨#[80, 65, 1]⟩ : ByteArray) = bs [80, 65, 1] := rfl
    have hpre : ([a, d].flatMap Vr.put).length ≤ 20 := by
      have := flatMap_len (f := Vr.put) (c := 10) (fun n => (put_len n).2) [a, d] 2
      simpa using this
    obtain ⟨pre, hpre2⟩ : ∃ pre, [a, d].flatMap Vr.put = pre := ⟨_, rfl⟩
    have HPRE := Stow.mk hpre2
    rw [hpre2] at hpre
    clear hpre2
    go_enter Try.func11, Try.ntmps11
    go_wp2_with fail
    refine (place_any a d _).mono ?_
    rw [HP.out]
    rintro e w' ⟨rfl, rfl⟩
    go_wp2_with fail
    refine (numbers_any w'.heap.size 2 [a, d] _ (by simp) (Row.made .i64 w' [a, d] _) (by simp) (by simp; omega)).mono ?_
    rw [HPRE.out]
    rintro e w2 ⟨rfl, hb2⟩
    go_wp2_with fail
    refine (crcSeal_any (80 :: 65 :: 1 :: pre) _ (by simp <;> omega)).mono ?_
    rintro e w4 ⟨rfl, hb4⟩
    go_wp2_with fail
    go_ret2
    refine ⟨by rw [HW.out]; simp only [Int.toNat_natCast]; rw [HPRE.out]; rfl, ?_⟩
    (repeat (first | exact Below.self _ | refine Below.alloc' ?_ _ | refine Below.drew ?_ | refine Below.drewN' ?_ _ | (refine Below.call ?_ (by assumption))))

set_option maxHeartbeats 400000 in
set_option maxRecDepth 100000 in
theorem refBtAck_any (x y : Int) (w : World) :
    Calls Try.prog 12 #[.int .i64 x, .int .i64 y] w fun e w' => e = .returned (.tuple #[.string (bs (btAck x y).1), .int .i64 ((btAck x y).2 : Nat)]) ∧ Below w.heap.size w w' := by
  obtain ⟨p, hp⟩ : ∃ p, placeB x y = p := ⟨_, rfl⟩
  have HP := Stow.mk hp
  cases p
  · have HW : Stow (btAck x y = ([], 12)) := ⟨by unfold btAck; rw [hp]; rfl⟩
    clear hp
    go_enter Try.func12, Try.ntmps12
    go_wp2_with fail
    refine (refPlace_any x y _).mono ?_
    rw [HP.out]
    rintro e w' ⟨rfl, rfl⟩
    go_wp2_with fail
    go_ret2
    exact ⟨by rw [HW.out]; rfl, Below.self _⟩
  · have HW : Stow (btAck x y = (seal_ ([80, 65, 1] ++ [x.toNat, y.toNat].flatMap Vr.put), 0)) := ⟨by unfold btAck; rw [hp]; rfl⟩
    obtain ⟨hx0, hx8, hy0, hy1⟩ := placeB_true hp
    clear hp
    obtain ⟨a, rfl⟩ := Int.eq_ofNat_of_zero_le hx0
    obtain ⟨d, rfl⟩ := Int.eq_ofNat_of_zero_le hy0
    have lh : (⟨#[80, 65, 1]⟩ : ByteArray) = bs [80, 65, 1] := rfl
    have p1 := (put_len a).2
    have p2 := (put_len d).2
    have ea : IntKind.u64.wrap (a : Int) = a := wrap_u64_nat a (by omega)
    have ed : IntKind.u64.wrap (d : Int) = d := wrap_u64_nat d (by omega)
    have HW2 : Stow ([a, d].flatMap Vr.put = Vr.put a ++ Vr.put d) := ⟨by simp⟩
    go_enter Try.func12, Try.ntmps12
    go_wp2_with fail
    refine (refPlace_any a d _).mono ?_
    rw [HP.out]
    rintro e w' ⟨rfl, rfl⟩
    go_wp2_with fail
    refine (refPut_small _ a rfl _ (by omega)).mono ?_
    rintro e w1 ⟨rfl, hb1⟩
    go_wp2_with fail
    refine (refPut_small _ d rfl _ (by omega)).mono ?_
    rintro e w2 ⟨rfl, hb2⟩
    go_wp2_with fail
    refine (refCrcSeal_any (80 :: 65 :: 1 :: (Vr.put a ++ Vr.put d)) _ (by simp; omega)).mono ?_
    rintro e w4 ⟨rfl, hb4⟩
    go_wp2_with fail
    go_ret2
    refine ⟨by rw [HW.out]; simp only [Int.toNat_natCast]; rw [HW2.out]; rfl, ?_⟩
    (repeat (first | exact Below.self _ | refine Below.alloc' ?_ _ | refine Below.drew ?_ | refine Below.drewN' ?_ _ | (refine Below.call ?_ (by assumption))))

end Go.Proofs.Ytkhepehgafijfaa
