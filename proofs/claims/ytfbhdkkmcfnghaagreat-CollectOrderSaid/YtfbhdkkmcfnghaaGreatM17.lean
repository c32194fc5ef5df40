/- Walks of batch's Write and Ack, and of the reference's Check, Write and Ack. Conditions: fields fit their types.; What is read of bytes from any place on is written as those bytes, in plain Lean. No condition. -/
import Derived.Test.YtfbhdkkmcfnghaaGreatM16
import Derived.Test.YtfbhdkkmcfnghaaGreatM14

section
namespace Go.Proofs.YtfbhdkkmcfnghaaGreat
open Go.RowKit
set_option linter.unusedVariables false

theorem bs_nil : (⟨#[]⟩ : ByteArray) = bs [] := rfl

set_option maxHeartbeats 1000000 in
set_option maxRecDepth 100000 in
theorem refBtCheck_any (x y : Int) (A : Option Addr) (cap : Nat) (L : List Sp) (w : World) (hS : SlR w 11 (.slice A L.length cap) (L.map Sp.cells)) (hf : ∀ s ∈ L, s.fits) :
    Calls Tryz.prog 43 #[.agg #[.int .i64 x, .int .i64 y, .slice A L.length cap]] w fun e w' => e = .returned (.int .i64 (btCheck x y L : Nat)) ∧ Below w.heap.size w w' := by
  have HS := Stow.mk hS
  have HF := Stow.mk hf
  have hlen := hS.len
  simp only [List.length_map] at hlen
  clear hS hf
  obtain ⟨p, hp⟩ : ∃ p, placeB x y = p := ⟨_, rfl⟩
  have HP := Stow.mk hp
  clear hp
  cases p
  · have HC : Stow (btCheck x y L = 12) := ⟨by simp [btCheck, HP.out]⟩
    go_enter Tryz.func43, Tryz.ntmps43
    go_wp2_with fail
    refine (refPlace_any x y _).mono ?_
    rw [HP.out]
    rintro e w' ⟨rfl, rfl⟩
    go_wp2_with fail
    go_ret
    refine ⟨by rw [HC.out]; rfl, ?_⟩
    (repeat (first | exact Below.self _ | refine Below.alloc' ?_ _ | refine Below.drew ?_ | refine Below.drewN' ?_ _ | (refine Below.call ?_ (by assumption))))
  by_cases h0 : L.length = 0
  · have HC : Stow (btCheck x y L = 9) := ⟨by simp [btCheck, HP.out, h0]⟩
    go_enter Tryz.func43, Tryz.ntmps43
    go_wp2_with fail
    refine (refPlace_any x y _).mono ?_
    rw [HP.out]
    rintro e w' ⟨rfl, rfl⟩
    go_wp2_with fail
    go_ret
    refine ⟨by rw [HC.out]; rfl, ?_⟩
    (repeat (first | exact Below.self _ | refine Below.alloc' ?_ _ | refine Below.drew ?_ | refine Below.drewN' ?_ _ | (refine Below.call ?_ (by assumption))))
  have h0i : ((L.length : Int) == 0) = false := by simpa using h0
  by_cases h16 : 16 < L.length
  · have HC : Stow (btCheck x y L = 8) := ⟨by simp [btCheck, HP.out, h0, h16]⟩
    go_enter Tryz.func43, Tryz.ntmps43
    go_wp2_with fail
    refine (refPlace_any x y _).mono ?_
    rw [HP.out]
    rintro e w' ⟨rfl, rfl⟩
    go_wp2_with fail
    go_ret
    refine ⟨by rw [HC.out]; rfl, ?_⟩
    (repeat (first | exact Below.self _ | refine Below.alloc' ?_ _ | refine Below.drew ?_ | refine Below.drewN' ?_ _ | (refine Below.call ?_ (by assumption))))
  have HC : Stow (btCheck x y L = firstBad L) := ⟨by unfold btCheck; rw [if_neg (by simp [HP.out]), if_neg h0, if_neg h16]⟩
  have h16d : decide (16 < L.length) = false := by simpa using h16
  obtain ⟨b, off, rfl, hblt, _⟩ := HS.out.open (by simp; omega)
  clear h0
  go_enter Tryz.func43, Tryz.ntmps43
  go_wp2_with fail
  refine (refPlace_any x y _).mono ?_
  rw [HP.out]
  rintro e w' ⟨rfl, rfl⟩
  go_wp2_with fail
  go_loopw [3, 4] (fun v _ wr => ∃ j : Nat, v = .int .i64 j ∧ j ≤ L.length ∧ Stow (∀ s ∈ L.take j, check s = 0) ∧ Below w.heap.size w wr ∧ Held wr w.heap.size [.int .i64 x, .int .i64 y, .slice (some ⟨b, off, none⟩) L.length cap]) (fun v _ _ => L.length - (intOf v).toNat)
  case atStart => exact ⟨0, rfl, by omega, ⟨by simp⟩, Below.alloc' (Below.self _) _, Held.made w [.int .i64 x, .int .i64 y, .slice (some ⟨b, off, none⟩) L.length cap] _⟩
  case round =>
    obtain ⟨j, rfl, hj, HJ, hbr, hH⟩ := hrel
    have hh2 := hH.cell (i := 2) rfl
    by_cases hlt : j < L.length
    · have hsp := span_at (HS.out.keep hbr) hlt
      have hsf := Stow.mk (HF.out L[j] (List.getElem_mem hlt))
      obtain ⟨s, hs⟩ : ∃ s, L[j] = s := ⟨_, rfl⟩
      have HSJ := Stow.mk hs
      rw [hs] at hsp hsf
      clear hs
      obtain ⟨c, hc⟩ : ∃ c, check s = c := ⟨_, rfl⟩
      have HCS := Stow.mk hc
      clear hc
      obtain ⟨hi, lo, id, up, name, st, sq, kd, sh, t0, t1⟩ := s
      obtain ⟨hltb, q0, q1, q2, q3, q4, q5, q6, q7, q8, q9, q10⟩ := hsp
      simp only at q0 q1 q2 q3 q4 q5 q6 q7 q8 q9 q10
      go_wp2_with fail
      clear q0 q1 q2 q3 q4 q5 q6 q7 q8 q9 q10
      refine (refCheck_any ⟨hi, lo, id, up, name, st, sq, kd, sh, t0, t1⟩ _ hsf.out).mono ?_
      rw [HCS.out]
      rintro e w3 ⟨rfl, hb3⟩
      by_cases hc0 : c = 0
      · subst hc0
        go_wp2_with fail
        refine ⟨⟨j + 1, rfl, by omega, ⟨take_all_succ hlt HJ.out (by rw [HSJ.out, HCS.out])⟩, Below.call hbr hb3, hH.kept hb3⟩, by simp [intOf]; omega⟩
      · have hcn : ((c : Int) != 0) = true := by simp; omega
        go_wp2_with fail
        go_ret
        refine ⟨?_, Below.call hbr hb3⟩
        rw [HC.out, firstBad_at hlt HJ.out (by rw [HSJ.out, HCS.out]; exact hc0), HSJ.out, HCS.out]
        rfl
    · obtain rfl : j = L.length := by omega
      go_wp2_with fail
      go_ret
      refine ⟨?_, hbr⟩
      have := HJ.out
      rw [List.take_length] at this
      rw [HC.out, firstBad_zero.2 this]
      rfl

theorem flatMap_nextS {f : Sp → List UInt8} {L : List Sp} {j : Nat} (h : j < L.length) : (L.take (j + 1)).flatMap f = (L.take j).flatMap f ++ f L[j] := by
  rw [List.take_succ_eq_append_getElem h, List.flatMap_append]
  simp
theorem span_len {s : Sp} (h : check s = 0) : (spanBytes s).length ≤ 134 := by
  have hn := (check_zero h).2.2.1
  have h4 := fun n => (put_len n).2
  simp only [nameOk, Bool.and_eq_true, decide_eq_true_eq] at hn
  simp only [spanBytes, List.length_append, Oc.digs_len, Vr.text]
  have a1 := h4 s.name.length
  have a2 := h4 s.st.toNat
  have a3 := h4 s.sq.toNat
  have a4 := h4 s.kd.toNat
  have a5 := h4 s.sh.toNat
  have a6 := h4 s.t0.toNat
  have a7 := h4 (s.t1 - s.t0).toNat
  omega
theorem spans_len {L : List Sp} (h : ∀ s ∈ L, check s = 0) : (L.flatMap spanBytes).length ≤ 134 * L.length := by
  induction L with
  | nil => simp
  | cons s t ih =>
    have h1 := span_len (h s (by simp))
    have h2 := ih fun x hx => h x (by simp [hx])
    simp only [List.flatMap_cons, List.length_append, List.length_cons]; omega

theorem btCheck_good {x y : Int} {L : List Sp} (h : btCheck x y L = 0) : placeB x y = true ∧ 0 < L.length ∧ L.length ≤ 16 ∧ ∀ s ∈ L, check s = 0 := by
  unfold btCheck at h
  split at h
  · omega
  · split at h
    · omega
    · split at h
      · omega
      · rename_i h1 h2 h3
        exact ⟨by simpa using h1, by omega, by omega, firstBad_zero.1 h⟩

set_option maxHeartbeats 1000000 in
set_option maxRecDepth 100000 in
theorem refBtWrite_any (x y : Int) (A : Option Addr) (cap : Nat) (L : List Sp) (w : World) (hS : SlR w 11 (.slice A L.length cap) (L.map Sp.cells)) (hf : ∀ s ∈ L, s.fits) :
    Calls Tryz.prog 21 #[.agg #[.int .i64 x, .int .i64 y, .slice A L.length cap]] w fun e w' => e = .returned (.tuple #[.string (bs (btWrite x y L).1), .int .i64 ((btWrite x y L).2 : Nat)]) ∧ Below w.heap.size w w' := by
  have HS := Stow.mk hS
  have HF := Stow.mk hf
  have hlen := hS.len
  simp only [List.length_map] at hlen
  clear hS hf
  obtain ⟨c, hc⟩ : ∃ c, btCheck x y L = c := ⟨_, rfl⟩
  by_cases hc0 : c = 0
  rotate_left
  · have HW : Stow (btWrite x y L = ([], c)) := ⟨by unfold btWrite; rw [hc, if_neg hc0]⟩
    have HC := Stow.mk hc
    have hcn : ((c : Int) != 0) = true := by simp; omega
    clear hc
    go_enter Tryz.func21, Tryz.ntmps21
    go_wp2_with fail
    refine (refBtCheck_any x y A cap L _ (HS.out.alloc _) HF.out).mono ?_
    rw [HC.out]
    rintro e w1 ⟨rfl, hb1⟩
    obtain ⟨hc1, hz1⟩ := bcell hb1
    have hs1 : w.heap.size < w1.heap.size := by have := hb1.size; simp at this; omega
    go_wp2_with fail
    refine (refBtCheck_any x y A cap L _ ((HS.out.alloc _).keep hb1) HF.out).mono ?_
    rw [HC.out]
    rintro e w2 ⟨rfl, hb2⟩
    go_wp2_with fail
    go_ret2
    refine ⟨by rw [HW.out]; rfl, ?_⟩
    (repeat (first | exact Below.self _ | refine Below.alloc' ?_ _ | refine Below.drew ?_ | refine Below.drewN' ?_ _ | (refine Below.call ?_ (by assumption))))
  subst hc0
  have HW : Stow (btWrite x y L = (seal_ (btBody x y L), 0)) := ⟨by unfold btWrite; rw [hc, if_pos rfl]⟩
  obtain ⟨hpl, hl0, hl16, hck⟩ := btCheck_good hc
  have HC := Stow.mk hc
  have HCK := Stow.mk hck
  have hsl := spans_len hck
  have HSL := Stow.mk hsl
  clear hc hck hsl
  obtain ⟨hx0, hx8, hy0, hy1⟩ := placeB_true hpl
  clear hpl
  obtain ⟨a, rfl⟩ := Int.eq_ofNat_of_zero_le hx0
  obtain ⟨d, rfl⟩ := Int.eq_ofNat_of_zero_le hy0
  obtain ⟨b, off, rfl, hblt, _⟩ := HS.out.open (by simp; omega)
  have lh : (⟨#[80, 66, 1]⟩ : ByteArray) = bs [80, 66, 1] := rfl
  have ea : IntKind.u64.wrap (a : Int) = a := wrap_u64_nat a (by omega)
  have ed : IntKind.u64.wrap (d : Int) = d := wrap_u64_nat d (by omega)
  have el : IntKind.u64.wrap (L.length : Int) = L.length := wrap_u64_nat _ (by omega)
  have p1 := (put_len a).2
  have p2 := (put_len d).2
  have p3 := (put_len L.length).2
  have hpre : ([a, d, L.length].flatMap Vr.put).length ≤ 30 := by
    have := flatMap_len (f := Vr.put) (c := 10) (fun n => (put_len n).2) [a, d, L.length] 3
    simpa using this
  obtain ⟨pre, hpre2⟩ : ∃ pre, [a, d, L.length].flatMap Vr.put = pre := ⟨_, rfl⟩
  have HPRE := Stow.mk hpre2
  rw [hpre2] at hpre
  have hpre3 : Vr.put a ++ (Vr.put d ++ Vr.put L.length) = pre := by rw [← hpre2]; simp
  have HPRE3 := Stow.mk hpre3
  clear hpre2 hpre3
  have hHeld := Held.made w [.int .i64 (a : Int), .int .i64 (d : Int), .slice (some ⟨b, off, none⟩) L.length cap] 56
  go_enter Tryz.func21, Tryz.ntmps21
  go_wp2_with fail
  refine (refBtCheck_any a d (some ⟨b, off, none⟩) cap L _ (HS.out.alloc _) HF.out).mono ?_
  rw [HC.out]
  rintro e w1 ⟨rfl, hb1⟩
  have hH1 := hHeld.kept hb1
  have hs1 := hH1.lt
  have g0 : ∀ x : Later w1.heap.size w1, x.1.cell? ⟨w.heap.size, 0, none⟩ = some (.int .i64 (a : Int)) := fun x => x.cell (hH1.cell (i := 0) rfl) hs1
  have g1 : ∀ x : Later w1.heap.size w1, x.1.cell? ⟨w.heap.size, 1, none⟩ = some (.int .i64 (d : Int)) := fun x => x.cell (hH1.cell (i := 1) rfl) hs1
  have g2 : ∀ x : Later w1.heap.size w1, x.1.cell? ⟨w.heap.size, 2, none⟩ = some (.slice (some ⟨b, off, none⟩) L.length cap) := fun x => x.cell (hH1.cell (i := 2) rfl) hs1
  go_wp2_with fail
  refine wp_region_later w1.heap.size (by kernel_rfl) (by kernel_rfl) ?_
  repeat (go_big_quiet_step ((go_at_call 44; exact Calls.later (Nat.le_refl _) (refPut_small _ _ rfl _ (by omega)))))
  refine wpQuiet_nil ?_
  rintro ⟨wx, hbx⟩
  clear g0 g1 g2
  go_wp2_with fail
  rw [HPRE3.out]
  go_loopw [4, 5, 6, 7] (fun o v _ _ wr => ∃ j : Nat, v = .int .i64 j ∧ j ≤ L.length ∧ o = .string (bs (80 :: 66 :: 1 :: (pre ++ (L.take j).flatMap spanBytes))) ∧ Below w.heap.size w wr ∧ Held wr w.heap.size [.int .i64 a, .int .i64 d, .slice (some ⟨b, off, none⟩) L.length cap]) (fun _ v _ _ _ => L.length - (intOf v).toNat)
  case atStart => exact ⟨0, rfl, by omega, by simp, Below.call (Below.call (Below.alloc' (Below.self _) _) hb1) hbx, (hHeld.kept hb1).kept hbx⟩
  case round =>
    obtain ⟨j, rfl, hj, rfl, hbr, hH⟩ := hrel
    have hh2 := hH.cell (i := 2) rfl
    by_cases hlt : j < L.length
    · have hsp := span_at (HS.out.keep hbr) hlt
      have hsf := Stow.mk (HF.out L[j] (List.getElem_mem hlt))
      have HN := Stow.mk (flatMap_nextS (f := spanBytes) hlt)
      have hck := HCK.out L[j] (List.getElem_mem hlt)
      have hlj := spans_len (L := L.take j) fun s hs => HCK.out s (List.mem_of_mem_take hs)
      have hlj2 : ((L.take j).flatMap spanBytes).length ≤ 2144 := by simp only [List.length_take] at hlj; omega
      clear hlj
      have hsl := span_len hck
      have hwg := write_good hck
      obtain ⟨s, hs⟩ : ∃ s, L[j] = s := ⟨_, rfl⟩
      rw [hs] at hsp hsf HN hsl hwg
      have HWG := Stow.mk hwg
      clear hs hck hwg
      obtain ⟨sb, hsb⟩ : ∃ sb, spanBytes s = sb := ⟨_, rfl⟩
      rw [hsb] at HN hsl HWG
      clear hsb
      generalize (L.take j).flatMap spanBytes = acc at HN hlj2
      obtain ⟨hi, lo, id, up, name, st, sq, kd, sh, t0, t1⟩ := s
      obtain ⟨hltb, q0, q1, q2, q3, q4, q5, q6, q7, q8, q9, q10⟩ := hsp
      simp only at q0 q1 q2 q3 q4 q5 q6 q7 q8 q9 q10
      go_wp2_with fail
      clear q0 q1 q2 q3 q4 q5 q6 q7 q8 q9 q10
      refine (refWrite_any ⟨hi, lo, id, up, name, st, sq, kd, sh, t0, t1⟩ _ hsf.out).mono ?_
      rw [HWG.out]
      rintro e w3 ⟨rfl, hb3⟩
      go_wp2_with fail
      exact ⟨⟨j + 1, rfl, by omega, by rw [HN.out], Below.call hbr hb3, hH.kept hb3⟩, by simp [intOf]; omega⟩
    · obtain rfl : j = L.length := by omega
      have hle := HSL.out
      rw [List.take_length]
      have hle2 : (L.flatMap spanBytes).length ≤ 2144 := by omega
      clear hle
      obtain ⟨all, hall⟩ : ∃ all, L.flatMap spanBytes = all := ⟨_, rfl⟩
      have HALL := Stow.mk hall
      rw [hall] at hle2 ⊢
      clear hall
      go_wp2_with fail
      refine (refCrcSeal_any (80 :: 66 :: 1 :: (pre ++ all)) _ (by simp; omega)).mono ?_
      rintro e w4 ⟨rfl, hb4⟩
      go_wp2_with fail
      go_ret2
      refine ⟨?_, Below.call hbr hb4⟩
      rw [HW.out, btBody]
      simp only [Int.toNat_natCast]
      rw [HPRE.out, HALL.out]
      rfl

set_option maxHeartbeats 400000 in
set_option maxRecDepth 100000 in
theorem btAck_any (x y : Int) (w : World) :
    Calls Tryz.prog 30 #[.int .i64 x, .int .i64 y] w fun e w' => e = .returned (.tuple #[.string (bs (btAck x y).1), .int .i64 ((btAck x y).2 : Nat)]) ∧ Below w.heap.size w w' := by
  obtain ⟨p, hp⟩ : ∃ p, placeB x y = p := ⟨_, rfl⟩
  have HP := Stow.mk hp
  cases p
  · have HW : Stow (btAck x y = ([], 12)) := ⟨by unfold btAck; rw [hp]; rfl⟩
    clear hp
    go_enter Tryz.func30, Tryz.ntmps30
    go_wp2_with fail
    refine (place_any x y _).mono ?_
    rw [HP.out]
    rintro e w' ⟨rfl, rfl⟩
    go_wp2_with fail
    go_ret2
    exact ⟨by rw [HW.out]; rfl, Below.self _⟩
  · have HW : Stow (btAck x y = (seal_ ([80, 65, 1] ++ [x.toNat, y.toNat].flatMap Vr.put), 0)) := ⟨by unfold btAck; rw [hp]; rfl⟩
    obtain ⟨hx0, hx8, hy0, hy1⟩ := placeB_true hp
    clear hp
    obtain ⟨a, rfl⟩ := Int.eq_ofNat_of_zero_le hx0
    obtain ⟨d, rfl⟩ := Int.eq_ofNat_of_zero_le hy0
    have lh : (⟨#[80, 65, 1]⟩ : ByteArray) = bs [80, 65, 1] := rfl
    have hpre : ([a, d].flatMap Vr.put).length ≤ 20 := by
      have := flatMap_len (f := Vr.put) (c := 10) (fun n => (put_len n).2) [a, d] 2
      simpa using this
    obtain ⟨pre, hpre2⟩ : ∃ pre, [a, d].flatMap Vr.put = pre := ⟨_, rfl⟩
    have HPRE := Stow.mk hpre2
    rw [hpre2] at hpre
    clear hpre2
    go_enter Tryz.func30, Tryz.ntmps30
    go_wp2_with fail
    refine (place_any a d _).mono ?_
    rw [HP.out]
    rintro e w' ⟨rfl, rfl⟩
    go_wp2_with fail
    refine (numbers_any w'.heap.size 2 [a, d] _ (by simp) (Row.made .i64 w' [a, d] _) (by simp) (by simp; omega)).mono ?_
    rw [HPRE.out]
    rintro e w2 ⟨rfl, hb2⟩
    go_wp2_with fail
    refine (crcSeal_any (80 :: 65 :: 1 :: pre) _ (by simp <;> omega)).mono ?_
    rintro e w4 ⟨rfl, hb4⟩
    go_wp2_with fail
    go_ret2
    refine ⟨by rw [HW.out]; simp only [Int.toNat_natCast]; rw [HPRE.out]; rfl, ?_⟩
    (repeat (first | exact Below.self _ | refine Below.alloc' ?_ _ | refine Below.drew ?_ | refine Below.drewN' ?_ _ | (refine Below.call ?_ (by assumption))))

set_option maxHeartbeats 400000 in
set_option maxRecDepth 100000 in
theorem refBtAck_any (x y : Int) (w : World) :
    Calls Tryz.prog 25 #[.int .i64 x, .int .i64 y] w fun e w' => e = .returned (.tuple #[.string (bs (btAck x y).1), .int .i64 ((btAck x y).2 : Nat)]) ∧ Below w.heap.size w w' := by
  obtain ⟨p, hp⟩ : ∃ p, placeB x y = p := ⟨_, rfl⟩
  have HP := Stow.mk hp
  cases p
  · have HW : Stow (btAck x y = ([], 12)) := ⟨by unfold btAck; rw [hp]; rfl⟩
    clear hp
    go_enter Tryz.func25, Tryz.ntmps25
    go_wp2_with fail
    refine (refPlace_any x y _).mono ?_
    rw [HP.out]
    rintro e w' ⟨rfl, rfl⟩
    go_wp2_with fail
    go_ret2
    exact ⟨by rw [HW.out]; rfl, Below.self _⟩
  · have HW : Stow (btAck x y = (seal_ ([80, 65, 1] ++ [x.toNat, y.toNat].flatMap Vr.put), 0)) := ⟨by unfold btAck; rw [hp]; rfl⟩
    obtain ⟨hx0, hx8, hy0, hy1⟩ := placeB_true hp
    clear hp
    obtain ⟨a, rfl⟩ := Int.eq_ofNat_of_zero_le hx0
    obtain ⟨d, rfl⟩ := Int.eq_ofNat_of_zero_le hy0
    have lh : (⟨#[80, 65, 1]⟩ : ByteArray) = bs [80, 65, 1] := rfl
    have p1 := (put_len a).2
    have p2 := (put_len d).2
    have ea : IntKind.u64.wrap (a : Int) = a := wrap_u64_nat a (by omega)
    have ed : IntKind.u64.wrap (d : Int) = d := wrap_u64_nat d (by omega)
    have HW2 : Stow ([a, d].flatMap Vr.put = Vr.put a ++ Vr.put d) := ⟨by simp⟩
    go_enter Tryz.func25, Tryz.ntmps25
    go_wp2_with fail
    refine (refPlace_any a d _).mono ?_
    rw [HP.out]
    rintro e w' ⟨rfl, rfl⟩
    go_wp2_with fail
    refine (refPut_small _ a rfl _ (by omega)).mono ?_
    rintro e w1 ⟨rfl, hb1⟩
    go_wp2_with fail
    refine (refPut_small _ d rfl _ (by omega)).mono ?_
    rintro e w2 ⟨rfl, hb2⟩
    go_wp2_with fail
    refine (refCrcSeal_any (80 :: 65 :: 1 :: (Vr.put a ++ Vr.put d)) _ (by simp; omega)).mono ?_
    rintro e w4 ⟨rfl, hb4⟩
    go_wp2_with fail
    go_ret2
    refine ⟨by rw [HW.out]; simp only [Int.toNat_natCast]; rw [HW2.out]; rfl, ?_⟩
    (repeat (first | exact Below.self _ | refine Below.alloc' ?_ _ | refine Below.drew ?_ | refine Below.drewN' ?_ _ | (refine Below.call ?_ (by assumption))))

end Go.Proofs.YtfbhdkkmcfnghaaGreat
end

section
namespace Go.Proofs.YtfbhdkkmcfnghaaGreat

theorem span_fwdk {l : List UInt8} {s : Sp} {k : Nat} {y : Int} (hl : l.length ≤ 9223372036854775807) (h : readSpan l (k : Nat) = (s, y, 0)) : ∃ m : Nat, y = ((k + m : Nat) : Int) ∧ k + m ≤ l.length ∧ check s = 0 ∧ spanBytes s = (l.drop k).take m ∧ s.fits := by
  have hrun : readRun l ((k : Nat) : Int) = (s, y, 0) := by
    unfold readSpan at h
    rw [if_neg (by omega)] at h
    obtain ⟨⟨r1, r2, r3⟩, hR⟩ : ∃ R, readRun l ((k : Nat) : Int) = R := ⟨_, rfl⟩
    rw [hR] at h ⊢
    simp only at h
    split at h
    · exact h
    · simp only [Prod.mk.injEq] at h
      omega
  have hr : (readRun l ((k : Nat) : Int)).2.2 = 0 := by rw [hrun]
  clear h
  obtain ⟨v1, a1, b1, h1⟩ : ∃ x y z, rdFixed l ((k : Nat) : Int) 0 = (x, y, z) := ⟨_, _, _, rfl⟩
  obtain rfl : b1 = 0 := by
    by_cases hb : b1 = 0
    · exact hb
    · exact absurd (run_bad1 hb h1) (by rw [hr]; omega)
  obtain ⟨rfl, g1, e1, f1⟩ := fwd_fixed hl h1
  obtain ⟨v2, a2, b2, h2⟩ : ∃ x y z, rdFixed l ((k + 8 : Nat) : Int) 0 = (x, y, z) := ⟨_, _, _, rfl⟩
  obtain rfl : b2 = 0 := by
    by_cases hb : b2 = 0
    · exact hb
    · exact absurd (run_bad2 hb h1 h2) (by rw [hr]; omega)
  obtain ⟨rfl, g2, e2, f2⟩ := fwd_fixed hl h2
  obtain ⟨v3, a3, b3, h3⟩ : ∃ x y z, rdFixed l ((k + 8 + 8 : Nat) : Int) 0 = (x, y, z) := ⟨_, _, _, rfl⟩
  obtain rfl : b3 = 0 := by
    by_cases hb : b3 = 0
    · exact hb
    · exact absurd (run_bad3 hb h1 h2 h3) (by rw [hr]; omega)
  obtain ⟨rfl, g3, e3, f3⟩ := fwd_fixed hl h3
  obtain ⟨v4, a4, b4, h4⟩ : ∃ x y z, rdFixed l ((k + 8 + 8 + 8 : Nat) : Int) 0 = (x, y, z) := ⟨_, _, _, rfl⟩
  obtain rfl : b4 = 0 := by
    by_cases hb : b4 = 0
    · exact hb
    · exact absurd (run_bad4 hb h1 h2 h3 h4) (by rw [hr]; omega)
  obtain ⟨rfl, g4, e4, f4⟩ := fwd_fixed hl h4
  obtain ⟨v5, a5, b5, h5⟩ : ∃ x y z, rdText l ((k + 8 + 8 + 8 + 8 : Nat) : Int) 0 = (x, y, z) := ⟨_, _, _, rfl⟩
  obtain rfl : b5 = 0 := by
    by_cases hb : b5 = 0
    · exact hb
    · exact absurd (run_bad5 hb h1 h2 h3 h4 h5) (by rw [hr]; omega)
  obtain ⟨m5, rfl, g5, e5⟩ := fwd_text h5
  obtain ⟨v6, a6, b6, h6⟩ : ∃ x y z, rdNum l ((k + 8 + 8 + 8 + 8 + m5 : Nat) : Int) 0 = (x, y, z) := ⟨_, _, _, rfl⟩
  obtain rfl : b6 = 0 := by
    by_cases hb : b6 = 0
    · exact hb
    · exact absurd (run_bad6 hb h1 h2 h3 h4 h5 h6) (by rw [hr]; omega)
  obtain ⟨m6, rfl, g6, e6⟩ := fwd_num h6
  obtain ⟨v7, a7, b7, h7⟩ : ∃ x y z, rdNum l ((k + 8 + 8 + 8 + 8 + m5 + m6 : Nat) : Int) 0 = (x, y, z) := ⟨_, _, _, rfl⟩
  obtain rfl : b7 = 0 := by
    by_cases hb : b7 = 0
    · exact hb
    · exact absurd (run_bad7 hb h1 h2 h3 h4 h5 h6 h7) (by rw [hr]; omega)
  obtain ⟨m7, rfl, g7, e7⟩ := fwd_num h7
  obtain ⟨v8, a8, b8, h8⟩ : ∃ x y z, rdNum l ((k + 8 + 8 + 8 + 8 + m5 + m6 + m7 : Nat) : Int) 0 = (x, y, z) := ⟨_, _, _, rfl⟩
  obtain rfl : b8 = 0 := by
    by_cases hb : b8 = 0
    · exact hb
    · exact absurd (run_bad8 hb h1 h2 h3 h4 h5 h6 h7 h8) (by rw [hr]; omega)
  obtain ⟨m8, rfl, g8, e8⟩ := fwd_num h8
  obtain ⟨v9, a9, b9, h9⟩ : ∃ x y z, rdFlag l ((k + 8 + 8 + 8 + 8 + m5 + m6 + m7 + m8 : Nat) : Int) 0 = (x, y, z) := ⟨_, _, _, rfl⟩
  obtain rfl : b9 = 0 := by
    by_cases hb : b9 = 0
    · exact hb
    · exact absurd (run_bad9 hb h1 h2 h3 h4 h5 h6 h7 h8 h9) (by rw [hr]; omega)
  obtain ⟨rfl, g9, e9⟩ := fwd_flag h9
  obtain ⟨v10, a10, b10, h10⟩ : ∃ x y z, rdNum l ((k + 8 + 8 + 8 + 8 + m5 + m6 + m7 + m8 + 1 : Nat) : Int) 0 = (x, y, z) := ⟨_, _, _, rfl⟩
  obtain rfl : b10 = 0 := by
    by_cases hb : b10 = 0
    · exact hb
    · exact absurd (run_bad10 hb h1 h2 h3 h4 h5 h6 h7 h8 h9 h10) (by rw [hr]; omega)
  obtain ⟨m10, rfl, g10, e10⟩ := fwd_num h10
  obtain ⟨v11, a11, b11, h11⟩ : ∃ x y z, rdNum l ((k + 8 + 8 + 8 + 8 + m5 + m6 + m7 + m8 + 1 + m10 : Nat) : Int) 0 = (x, y, z) := ⟨_, _, _, rfl⟩
  obtain rfl : b11 = 0 := by
    by_cases hb : b11 = 0
    · exact hb
    · exact absurd (run_bad11 hb h1 h2 h3 h4 h5 h6 h7 h8 h9 h10 h11) (by rw [hr]; omega)
  obtain ⟨m11, rfl, g11, e11⟩ := fwd_num h11
  have hg := run_good h1 h2 h3 h4 h5 h6 h7 h8 h9 h10 h11
  rw [hrun] at hg
  simp only [Prod.mk.injEq] at hg
  obtain ⟨rfl, rfl, hc⟩ := hg
  refine ⟨8 + 8 + 8 + 8 + m5 + m6 + m7 + m8 + 1 + m10 + m11, by simp only [Nat.add_assoc], by omega, hc.symm, ?_, ⟨f1, f2, f3, f4, ?_⟩⟩
  rotate_left
  · have := (check_zero hc.symm).2.2.1
    simp [nameOk] at this
    simp; omega
  simp only [spanBytes, Int.toNat_natCast]
  rw [show ((v10 : Int) + v11 - v10).toNat = v11 from by omega]
  have T : ∀ x m, (l.drop k).take (x + m) = (l.drop k).take x ++ (l.drop (k + x)).take m := fun x m => by rw [List.take_add, List.drop_drop]
  rw [e1, e2, e3, e4, e5, e6, e7, e8, e9, e10, e11, T, T, T, T, T, T, T, T, T, T]
  simp only [List.append_assoc, Nat.add_assoc]

theorem span_none {l : List UInt8} {a : Int} {s : Sp} {y : Int} {e : Nat} (h : readSpan l a = (s, y, e)) (he : e ≠ 0) : s = ⟨0, 0, 0, 0, [], 0, 0, 0, false, 0, 0⟩ ∧ y = 0 := by
  unfold readSpan at h
  split at h
  · simp only [Prod.mk.injEq] at h; exact ⟨h.1.symm, h.2.1.symm⟩
  · split at h
    · rename_i h2; rw [h] at h2; exact absurd h2 he
    · simp only [Prod.mk.injEq] at h; exact ⟨h.1.symm, h.2.1.symm⟩
theorem readSpan_neg {l : List UInt8} {a : Int} (h : a < 0) : readSpan l a = (⟨0, 0, 0, 0, [], 0, 0, 0, false, 0, 0⟩, 0, 2) := by simp [readSpan, h]
end Go.Proofs.YtfbhdkkmcfnghaaGreat
end
