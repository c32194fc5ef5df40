/- The walk of 'spans come back', case by case. Condition: what the form itself grants of arguments. -/
import Derived.Test.YtpfcipllfdallaaSpanBackLaw
import Derived.Test.YtpfcipllfdallaaKit
namespace Go.Proofs.Ytpfcipllfdallaa
open Go.RowKit


set_option maxHeartbeats 1000000 in
set_option maxRecDepth 100000 in
/-- The span may not be, and the bytes behind are none. -/
theorem back09_bb (hi lo id up : Nat) (name : List UInt8) (st sq kd : Int) (sh : Bool) (t0 t1 : Int) (p q : List UInt8) (w : World) (hs : Sp.fits ⟨hi, lo, id, up, name, st, sq, kd, sh, t0, t1⟩) (h1 : ¬ 400 < name.length) (h2 : ¬ 1000 < p.length) (h3 : ¬ 1000 < q.length) (c : Nat) (hc : ((c : Int) == 0) = false) (hw : write ⟨hi, lo, id, up, name, st, sq, kd, sh, t0, t1⟩ = ([], c))
   (zhi zlo zid zup : Nat) (zname : List UInt8) (zst zsq zkd : Int) (zsh : Bool) (zt0 zt1 : Int) (y : Int) (b : Nat) (hb : ((b : Int) != 0) = true) (hr : readSpan q 0 = (⟨zhi, zlo, zid, zup, zname, zst, zsq, zkd, zsh, zt0, zt1⟩, y, b)) :
    Calls Try.prog 9 #[Sp.val ⟨hi, lo, id, up, name, st, sq, kd, sh, t0, t1⟩, .string (bs p), .string (bs q)] w fun e w' => e = .returned (.bool true) ∧ Below w.heap.size w w' := by
  have HW := Stow.mk hw
  have HR := Stow.mk hr
  have hs0 := Stow.mk hs
  clear hw hr hs
  simp only [Sp.val]
  have d1 : decide (400 < name.length) = false := by simp [h1]
  have d2 : decide (1000 < p.length) = false := by simp [h2]
  have d3 : decide (1000 < q.length) = false := by simp [h3]
  go_enter Try.func9, Try.ntmps9
  go_wp2_with fail
  refine (write_any ⟨hi, lo, id, up, name, st, sq, kd, sh, t0, t1⟩ _ hs0.out).mono ?_
  rw [HW.out]
  rintro e w1 ⟨rfl, hb1⟩
  obtain ⟨hcw1, hzw1⟩ := bcell hb1
  have hsw1 : w.heap.size < w1.heap.size := by have := hb1.size; simp at this; omega
  go_wp2_with fail
  refine (readSpan_any q 0 _ (by omega) (by omega)).mono ?_
  rw [HR.out]
  simp only [Sp.val]
  rintro e w2 ⟨rfl, hb2⟩
  go_wp2_with fail
  refine (known09_any _).mono ?_
  rintro e w3 ⟨rfl, hb3⟩
  go_wp2_with fail
  go_ret
  refine ⟨rfl, ?_⟩
  (repeat (first | exact Below.self _ | refine Below.alloc' ?_ _ | refine Below.drew ?_ | refine Below.drewN' ?_ _ | (refine Below.call ?_ (by assumption))))

set_option maxHeartbeats 1000000 in
set_option maxRecDepth 100000 in
/-- The span may not be, and the bytes behind are a span's. -/
theorem back09_bg (hi lo id up : Nat) (name : List UInt8) (st sq kd : Int) (sh : Bool) (t0 t1 : Int) (p q : List UInt8) (w : World) (hs : Sp.fits ⟨hi, lo, id, up, name, st, sq, kd, sh, t0, t1⟩) (h1 : ¬ 400 < name.length) (h2 : ¬ 1000 < p.length) (h3 : ¬ 1000 < q.length) (c : Nat) (hc : ((c : Int) == 0) = false) (hw : write ⟨hi, lo, id, up, name, st, sq, kd, sh, t0, t1⟩ = ([], c))
   (zhi zlo zid zup : Nat) (zname : List UInt8) (zst zsq zkd : Int) (zsh : Bool) (zt0 zt1 : Int) (m : Nat) (hm : m ≤ q.length) (hr : readSpan q 0 = (⟨zhi, zlo, zid, zup, zname, zst, zsq, zkd, zsh, zt0, zt1⟩, (m : Int), 0)) (hz : Sp.fits ⟨zhi, zlo, zid, zup, zname, zst, zsq, zkd, zsh, zt0, zt1⟩) (hzw : write ⟨zhi, zlo, zid, zup, zname, zst, zsq, zkd, zsh, zt0, zt1⟩ = (q.take m, 0)) :
    Calls Try.prog 9 #[Sp.val ⟨hi, lo, id, up, name, st, sq, kd, sh, t0, t1⟩, .string (bs p), .string (bs q)] w fun e w' => e = .returned (.bool true) ∧ Below w.heap.size w w' := by
  have HZ := Stow.mk hzw
  have hz0 := Stow.mk hz
  clear hzw hz
  have HW := Stow.mk hw
  have HR := Stow.mk hr
  have hs0 := Stow.mk hs
  clear hw hr hs
  simp only [Sp.val]
  have d1 : decide (400 < name.length) = false := by simp [h1]
  have d2 : decide (1000 < p.length) = false := by simp [h2]
  have d3 : decide (1000 < q.length) = false := by simp [h3]
  go_enter Try.func9, Try.ntmps9
  go_wp2_with fail
  refine (write_any ⟨hi, lo, id, up, name, st, sq, kd, sh, t0, t1⟩ _ hs0.out).mono ?_
  rw [HW.out]
  rintro e w1 ⟨rfl, hb1⟩
  obtain ⟨hcw1, hzw1⟩ := bcell hb1
  have hsw1 : w.heap.size < w1.heap.size := by have := hb1.size; simp at this; omega
  go_wp2_with fail
  refine (readSpan_any q 0 _ (by omega) (by omega)).mono ?_
  rw [HR.out]
  simp only [Sp.val]
  rintro e w2 ⟨rfl, hb2⟩
  go_wp2_with fail
  refine (write_any ⟨zhi, zlo, zid, zup, zname, zst, zsq, zkd, zsh, zt0, zt1⟩ _ hz0.out).mono ?_
  rw [HZ.out]
  rintro e w3 ⟨rfl, hb3⟩
  go_wp2_with fail
  refine (known09_any _).mono ?_
  rintro e w4 ⟨rfl, hb4⟩
  go_wp2_with fail
  go_ret
  refine ⟨rfl, ?_⟩
  (repeat (first | exact Below.self _ | refine Below.alloc' ?_ _ | refine Below.drew ?_ | refine Below.drewN' ?_ _ | (refine Below.call ?_ (by assumption))))

set_option maxHeartbeats 1000000 in
set_option maxRecDepth 100000 in
/-- The span may be, and the bytes behind are none. -/
theorem back09_gb (hi lo id up : Nat) (name : List UInt8) (st sq kd : Int) (sh : Bool) (t0 t1 : Int) (p q : List UInt8) (w : World) (hs : Sp.fits ⟨hi, lo, id, up, name, st, sq, kd, sh, t0, t1⟩) (h1 : ¬ 400 < name.length) (h2 : ¬ 1000 < p.length) (h3 : ¬ 1000 < q.length) (k : List UInt8) (hk : k.length ≤ 4000) (hw : write ⟨hi, lo, id, up, name, st, sq, kd, sh, t0, t1⟩ = (k, 0))
   (hx : readSpan (p ++ (k ++ q)) (p.length : Nat) = (⟨hi, lo, id, up, name, st, sq, kd, sh, t0, t1⟩, ((p.length + k.length : Nat) : Int), 0))
   (zhi zlo zid zup : Nat) (zname : List UInt8) (zst zsq zkd : Int) (zsh : Bool) (zt0 zt1 : Int) (y : Int) (b : Nat) (hb : ((b : Int) != 0) = true) (hr : readSpan q 0 = (⟨zhi, zlo, zid, zup, zname, zst, zsq, zkd, zsh, zt0, zt1⟩, y, b)) :
    Calls Try.prog 9 #[Sp.val ⟨hi, lo, id, up, name, st, sq, kd, sh, t0, t1⟩, .string (bs p), .string (bs q)] w fun e w' => e = .returned (.bool true) ∧ Below w.heap.size w w' := by
  have HX := Stow.mk hx
  clear hx
  have HW := Stow.mk hw
  have HR := Stow.mk hr
  have hs0 := Stow.mk hs
  clear hw hr hs
  simp only [Sp.val]
  have d1 : decide (400 < name.length) = false := by simp [h1]
  have d2 : decide (1000 < p.length) = false := by simp [h2]
  have d3 : decide (1000 < q.length) = false := by simp [h3]
  go_enter Try.func9, Try.ntmps9
  go_wp2_with fail
  refine (write_any ⟨hi, lo, id, up, name, st, sq, kd, sh, t0, t1⟩ _ hs0.out).mono ?_
  rw [HW.out]
  rintro e w1 ⟨rfl, hb1⟩
  obtain ⟨hcw1, hzw1⟩ := bcell hb1
  have hsw1 : w.heap.size < w1.heap.size := by have := hb1.size; simp at this; omega
  go_wp2_with fail
  refine (readSpan_any (p ++ (k ++ q)) p.length _ (by simp; omega) (by omega)).mono ?_
  rw [HX.out]
  simp only [Sp.val]
  rintro e w5 ⟨rfl, hb5⟩
  obtain ⟨hc5, hz5⟩ := bcell hb5
  have hs5 : w.heap.size < w5.heap.size := by have := hb5.size; omega
  go_wp2_with fail
  refine (readSpan_any q 0 _ (by omega) (by omega)).mono ?_
  rw [HR.out]
  simp only [Sp.val]
  rintro e w2 ⟨rfl, hb2⟩
  go_wp2_with fail
  refine (known09_any _).mono ?_
  rintro e w3 ⟨rfl, hb3⟩
  go_wp2_with fail
  go_ret
  refine ⟨rfl, ?_⟩
  (repeat (first | exact Below.self _ | refine Below.alloc' ?_ _ | refine Below.drew ?_ | refine Below.drewN' ?_ _ | (refine Below.call ?_ (by assumption))))

set_option maxHeartbeats 1000000 in
set_option maxRecDepth 100000 in
/-- The span may be, and the bytes behind are a span's. -/
theorem back09_gg (hi lo id up : Nat) (name : List UInt8) (st sq kd : Int) (sh : Bool) (t0 t1 : Int) (p q : List UInt8) (w : World) (hs : Sp.fits ⟨hi, lo, id, up, name, st, sq, kd, sh, t0, t1⟩) (h1 : ¬ 400 < name.length) (h2 : ¬ 1000 < p.length) (h3 : ¬ 1000 < q.length) (k : List UInt8) (hk : k.length ≤ 4000) (hw : write ⟨hi, lo, id, up, name, st, sq, kd, sh, t0, t1⟩ = (k, 0))
   (hx : readSpan (p ++ (k ++ q)) (p.length : Nat) = (⟨hi, lo, id, up, name, st, sq, kd, sh, t0, t1⟩, ((p.length + k.length : Nat) : Int), 0))
   (zhi zlo zid zup : Nat) (zname : List UInt8) (zst zsq zkd : Int) (zsh : Bool) (zt0 zt1 : Int) (m : Nat) (hm : m ≤ q.length) (hr : readSpan q 0 = (⟨zhi, zlo, zid, zup, zname, zst, zsq, zkd, zsh, zt0, zt1⟩, (m : Int), 0)) (hz : Sp.fits ⟨zhi, zlo, zid, zup, zname, zst, zsq, zkd, zsh, zt0, zt1⟩) (hzw : write ⟨zhi, zlo, zid, zup, zname, zst, zsq, zkd, zsh, zt0, zt1⟩ = (q.take m, 0)) :
    Calls Try.prog 9 #[Sp.val ⟨hi, lo, id, up, name, st, sq, kd, sh, t0, t1⟩, .string (bs p), .string (bs q)] w fun e w' => e = .returned (.bool true) ∧ Below w.heap.size w w' := by
  have HX := Stow.mk hx
  have HZ := Stow.mk hzw
  have hz0 := Stow.mk hz
  clear hzw hz hx
  have HW := Stow.mk hw
  have HR := Stow.mk hr
  have hs0 := Stow.mk hs
  clear hw hr hs
  simp only [Sp.val]
  have d1 : decide (400 < name.length) = false := by simp [h1]
  have d2 : decide (1000 < p.length) = false := by simp [h2]
  have d3 : decide (1000 < q.length) = false := by simp [h3]
  go_enter Try.func9, Try.ntmps9
  go_wp2_with fail
  refine (write_any ⟨hi, lo, id, up, name, st, sq, kd, sh, t0, t1⟩ _ hs0.out).mono ?_
  rw [HW.out]
  rintro e w1 ⟨rfl, hb1⟩
  obtain ⟨hcw1, hzw1⟩ := bcell hb1
  have hsw1 : w.heap.size < w1.heap.size := by have := hb1.size; simp at this; omega
  go_wp2_with fail
  refine (readSpan_any (p ++ (k ++ q)) p.length _ (by simp; omega) (by omega)).mono ?_
  rw [HX.out]
  simp only [Sp.val]
  rintro e w5 ⟨rfl, hb5⟩
  obtain ⟨hc5, hz5⟩ := bcell hb5
  have hs5 : w.heap.size < w5.heap.size := by have := hb5.size; omega
  go_wp2_with fail
  refine (readSpan_any q 0 _ (by omega) (by omega)).mono ?_
  rw [HR.out]
  simp only [Sp.val]
  rintro e w2 ⟨rfl, hb2⟩
  go_wp2_with fail
  refine (write_any ⟨zhi, zlo, zid, zup, zname, zst, zsq, zkd, zsh, zt0, zt1⟩ _ hz0.out).mono ?_
  rw [HZ.out]
  rintro e w3 ⟨rfl, hb3⟩
  go_wp2_with fail
  refine (known09_any _).mono ?_
  rintro e w4 ⟨rfl, hb4⟩
  go_wp2_with fail
  go_ret
  refine ⟨rfl, ?_⟩
  (repeat (first | exact Below.self _ | refine Below.alloc' ?_ _ | refine Below.drew ?_ | refine Below.drewN' ?_ _ | (refine Below.call ?_ (by assumption))))

/-- The law's walk. -/
theorem back09 (s : Sp) (p q : List UInt8) (w : World) (hs : s.fits) :
    Calls Try.prog 9 #[s.val, .string (bs p), .string (bs q)] w fun e w' => e = .returned (.bool true) ∧ Below w.heap.size w w' := by
  by_cases hl : 400 < s.name.length ∨ 1000 < p.length ∨ 1000 < q.length
  · exact back09_long s p q w hl
  have h1 : ¬ 400 < s.name.length := fun h => hl (.inl h)
  have h2 : ¬ 1000 < p.length := fun h => hl (.inr (.inl h))
  have h3 : ¬ 1000 < q.length := fun h => hl (.inr (.inr h))
  have h1n : ¬ 400 < s.name.length := h1
  rcases hr : readSpan q 0 with ⟨⟨zhi, zlo, zid, zup, zname, zst, zsq, zkd, zsh, zt0, zt1⟩, y, b⟩
  obtain ⟨hi, lo, id, up, name, st, sq, kd, sh, t0, t1⟩ := s
  have hq : q.length ≤ 9223372036854775807 := by omega
  by_cases hc : check ⟨hi, lo, id, up, name, st, sq, kd, sh, t0, t1⟩ = 0
  · have hw : write ⟨hi, lo, id, up, name, st, sq, kd, sh, t0, t1⟩ = (spanBytes ⟨hi, lo, id, up, name, st, sq, kd, sh, t0, t1⟩, 0) := write_good hc
    have hk : (spanBytes ⟨hi, lo, id, up, name, st, sq, kd, sh, t0, t1⟩).length ≤ 4000 := by
      have h4 := fun n => (put_len n).2
      simp only [spanBytes, List.length_append, Oc.digs_len, Vr.text]
      have a1 := h4 name.length
      have a2 := h4 st.toNat
      have a3 := h4 sq.toNat
      have a4 := h4 kd.toNat
      have a5 := h4 sh.toNat
      have a6 := h4 t0.toNat
      have a7 := h4 (t1 - t0).toNat
      simp only at h1n
      omega
    have hx := span_back p q ⟨hi, lo, id, up, name, st, sq, kd, sh, t0, t1⟩ hs hc (l := p ++ (spanBytes ⟨hi, lo, id, up, name, st, sq, kd, sh, t0, t1⟩ ++ q)) rfl (by simp; omega)
    by_cases hb : b = 0
    · subst hb
      obtain ⟨m, rfl, hm, hcz, hz, hfz⟩ := span_fwd hq hr
      exact back09_gg _ _ _ _ _ _ _ _ _ _ _ p q w hs h1 h2 h3 (spanBytes ⟨hi, lo, id, up, name, st, sq, kd, sh, t0, t1⟩) hk hw hx _ _ _ _ _ _ _ _ _ _ _ m hm hr hfz (by rw [write_good hcz, hz])
    · exact back09_gb _ _ _ _ _ _ _ _ _ _ _ p q w hs h1 h2 h3 (spanBytes ⟨hi, lo, id, up, name, st, sq, kd, sh, t0, t1⟩) hk hw hx _ _ _ _ _ _ _ _ _ _ _ y b (by simpa using hb) hr
  · have hw : write ⟨hi, lo, id, up, name, st, sq, kd, sh, t0, t1⟩ = ([], check ⟨hi, lo, id, up, name, st, sq, kd, sh, t0, t1⟩) := write_bad hc
    by_cases hb : b = 0
    · subst hb
      obtain ⟨m, rfl, hm, hcz, hz, hfz⟩ := span_fwd hq hr
      exact back09_bg _ _ _ _ _ _ _ _ _ _ _ p q w hs h1 h2 h3 (check ⟨hi, lo, id, up, name, st, sq, kd, sh, t0, t1⟩) (by simpa using hc) hw _ _ _ _ _ _ _ _ _ _ _ m hm hr hfz (by rw [write_good hcz, hz])
    · exact back09_bb _ _ _ _ _ _ _ _ _ _ _ p q w hs h1 h2 h3 (check ⟨hi, lo, id, up, name, st, sq, kd, sh, t0, t1⟩) (by simpa using hc) hw _ _ _ _ _ _ _ _ _ _ _ y b (by simpa using hb) hr
end Go.Proofs.Ytpfcipllfdallaa
