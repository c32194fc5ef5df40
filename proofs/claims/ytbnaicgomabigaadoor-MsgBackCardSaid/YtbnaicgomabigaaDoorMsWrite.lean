/- Walks of msg.Write, WriteBack and the reference's. Conditions: texts no longer than an address space; an int; the library's table lies. -/
import Derived.Test.YtbnaicgomabigaaDoorMsWhole
import Derived.Test.YtbnaicgomabigaaDoorItoa
import Derived.Lib.ItoaLen
namespace Go.Proofs.YtbnaicgomabigaaDoor
open Go.RowKit
set_option linter.unusedVariables false

namespace Ms
def write (q : Rq) : List UInt8 := if check q = 0 then text q else []
def writeBack (p : Rs) : List UInt8 := if checkBack p = 0 then textBack p else []
theorem check_lens {q : Rq} (h : check q = 0) : q.m.length ≤ 8 ∧ q.h.length ≤ 32 ∧ q.p.length ≤ 64 ∧ q.b.length ≤ 200 ∧ Short q.hs := by
  obtain ⟨h1, h2, h3, h4, h5⟩ := check_parts h
  unfold methodOk at h1
  unfold nameOk at h2
  unfold pathOk at h3
  simp only [Bool.and_eq_true, decide_eq_true_eq] at h1 h2 h3
  exact ⟨h1.1.2, h2.1.2, h3.1.2, h5, short_of h4⟩
theorem checkBack_lens {p : Rs} (h : checkBack p = 0) : 100 ≤ p.st ∧ p.st ≤ 599 ∧ p.b.length ≤ 200 ∧ Short p.hs := by
  obtain ⟨h1, h2, h3, h4⟩ := checkBack_parts h
  exact ⟨h1, h2, h4, short_of h3⟩
theorem rest_len {L : List Hd} {b : List UInt8} (h : Short L) (hb : b.length ≤ 200) : (rest L b).length ≤ 1800 := by
  have := lines_take h L.length
  rw [List.take_length] at this
  unfold rest lines at *
  simp only [List.length_append, List.length_cons] at *
  omega
end Ms

theorem rq_box (w : World) (m h p : List UInt8) (A : Option Addr) (n cap : Nat) (b : List UInt8) : Stow (∀ W, Below (w.alloc (.cells #[.string (bs m), .string (bs h), .string (bs p), .slice A n cap, .string (bs b)] 58)).heap.size (w.alloc (.cells #[.string (bs m), .string (bs h), .string (bs p), .slice A n cap, .string (bs b)] 58)) W →
    Held W w.heap.size [.string (bs m), .string (bs h), .string (bs p), .slice A n cap, .string (bs b)] ∧ Below w.heap.size w W) :=
  ⟨fun W hb => ⟨(Held.made w [.string (bs m), .string (bs h), .string (bs p), .slice A n cap, .string (bs b)] _).kept hb, Below.call (Below.alloc' (Below.self _) _) hb⟩⟩
theorem rs_box (w : World) (st : Int) (A : Option Addr) (n cap : Nat) (b : List UInt8) : Stow (∀ W, Below (w.alloc (.cells #[.int .i64 st, .slice A n cap, .string (bs b)] 63)).heap.size (w.alloc (.cells #[.int .i64 st, .slice A n cap, .string (bs b)] 63)) W →
    Held W w.heap.size [.int .i64 st, .slice A n cap, .string (bs b)] ∧ Below w.heap.size w W) :=
  ⟨fun W hb => ⟨(Held.made w [.int .i64 st, .slice A n cap, .string (bs b)] _).kept hb, Below.call (Below.alloc' (Below.self _) _) hb⟩⟩

set_option maxHeartbeats 1000000 in
set_option maxRecDepth 100000 in
theorem msWrite_any (q : Rq) (A : Option Addr) (cap : Nat) (w : World) (hS : HdR w A cap q.hs) (hq : q.fits) :
    Calls Tryd.prog 33 #[q.val A cap] w fun e w' => e = .returned (.tuple #[.string (bs (Ms.write q)), .int .i64 (Ms.check q : Nat)]) ∧ Below w.heap.size w w' := by
  have HS := Stow.mk hS
  have HQ := Stow.mk hq
  clear hS hq
  obtain ⟨c, hc⟩ : ∃ c, Ms.check q = c := ⟨_, rfl⟩
  have HC := Stow.mk hc
  have HK := fun W => fun h1 => msCheck_any q A cap W h1 HQ.out
  rw [hc] at HK
  have HKK := Stow.mk HK
  clear HK
  by_cases h0 : c = 0
  rotate_left
  · have HW : Stow (Ms.write q = []) := ⟨by unfold Ms.write; rw [hc, if_neg h0]⟩
    have h0i : ((c : Int) != 0) = true := by rw [bne_iff_ne]; omega
    clear hc
    obtain ⟨m, h, p, hs, b⟩ := q
    simp only at HS
    unfold Rq.val at *
    simp only at *
    go_enter Tryd.func33, Tryd.ntmps33
    go_wp2_with fail
    refine (HKK.out _ (HS.out.alloc _)).mono ?_
    rintro e w1 ⟨rfl, hb1⟩
    go_wp2_with fail
    go_ret2
    exact ⟨by rw [HW.out, HC.out]; rfl, Below.call (Below.alloc' (Below.self _) _) hb1⟩
  subst h0
  have HW : Stow (Ms.write q = Ms.whole (Ms.first q) q.hs q.b) := ⟨by unfold Ms.write; rw [if_pos hc]; rfl⟩
  have HL := Stow.mk (Ms.check_lens hc)
  obtain ⟨hm, hh, hp, hb, _⟩ := Ms.check_lens hc
  clear hc
  obtain ⟨m, h, p, hs, b⟩ := q
  simp only at HS hm hh hp hb
  unfold Rq.val at *
  simp only at *
  have HX := rq_box w m h p A hs.length cap b
  have HF : Stow (bs m ++ (⟨#[32]⟩ : ByteArray) ++ bs h ++ (⟨#[32]⟩ : ByteArray) ++ bs p = bs (Ms.first ⟨m, h, p, hs, b⟩)) := ⟨by
    rw [show (⟨#[32]⟩ : ByteArray) = bs [32] from rfl, bs_append, bs_append, bs_append, bs_append]
    simp [Ms.first]⟩
  have HFL : Stow ((Ms.first ⟨m, h, p, hs, b⟩).length ≤ 200) := ⟨by simp [Ms.first]; omega⟩
  go_enter Tryd.func33, Tryd.ntmps33
  go_wp2_with fail
  refine (HKK.out _ (HS.out.alloc _)).mono ?_
  rintro e w1 ⟨rfl, hb1⟩
  obtain ⟨hH1, hB1⟩ := HX.out w1 hb1
  have HB1 := Stow.mk hB1
  have HS1 := Stow.mk ((HS.out.alloc _).keep hb1)
  have a0 := hH1.cell (i := 0) rfl
  have a1 := hH1.cell (i := 1) rfl
  have a2 := hH1.cell (i := 2) rfl
  have a3 := hH1.cell (i := 3) rfl
  have a4 := hH1.cell (i := 4) rfl
  clear hH1 hB1 hb1
  go_wp2_with fail
  rw [HF.out]
  refine (msWhole_any _ hs A cap b _ HS1.out HL.out.2.2.2.2 HFL.out (by omega)).mono ?_
  rintro e w2 ⟨rfl, hb2⟩
  go_wp2_with fail
  go_ret2
  exact ⟨by rw [HW.out, HC.out]; rfl, Below.call HB1.out hb2⟩

set_option maxHeartbeats 1000000 in
set_option maxRecDepth 100000 in
theorem msRefWrite_any (q : Rq) (A : Option Addr) (cap : Nat) (w : World) (hS : HdR w A cap q.hs) (hq : q.fits) :
    Calls Tryd.prog 34 #[q.val A cap] w fun e w' => e = .returned (.tuple #[.string (bs (Ms.write q)), .int .i64 (Ms.check q : Nat)]) ∧ Below w.heap.size w w' := by
  have HS := Stow.mk hS
  have HQ := Stow.mk hq
  clear hS hq
  obtain ⟨c, hc⟩ : ∃ c, Ms.check q = c := ⟨_, rfl⟩
  have HC := Stow.mk hc
  have HK := fun W => fun h1 => refCheck_any q A cap W h1 HQ.out
  rw [hc] at HK
  have HKK := Stow.mk HK
  clear HK
  by_cases h0 : c = 0
  rotate_left
  · have HW : Stow (Ms.write q = []) := ⟨by unfold Ms.write; rw [hc, if_neg h0]⟩
    have h0i : ((c : Int) != 0) = true := by rw [bne_iff_ne]; omega
    clear hc
    obtain ⟨m, h, p, hs, b⟩ := q
    simp only at HS
    unfold Rq.val at *
    simp only at *
    have HX := rq_box w m h p A hs.length cap b
    go_enter Tryd.func34, Tryd.ntmps34
    go_wp2_with fail
    refine (HKK.out _ (HS.out.alloc _)).mono ?_
    rintro e w1 ⟨rfl, hb1⟩
    obtain ⟨hH1, hB1⟩ := HX.out w1 hb1
    have HB1 := Stow.mk hB1
    have HS1 := Stow.mk ((HS.out.alloc _).keep hb1)
    have a0 := hH1.cell (i := 0) rfl
    have a1 := hH1.cell (i := 1) rfl
    have a2 := hH1.cell (i := 2) rfl
    have a3 := hH1.cell (i := 3) rfl
    have a4 := hH1.cell (i := 4) rfl
    clear hH1 hB1 hb1
    go_wp2_with fail
    refine (HKK.out _ HS1.out).mono ?_
    rintro e w2 ⟨rfl, hb2⟩
    go_wp2_with fail
    go_ret2
    exact ⟨by rw [HW.out, HC.out]; rfl, Below.call HB1.out hb2⟩
  subst h0
  have HW : Stow (Ms.write q = Ms.whole (Ms.first q) q.hs q.b) := ⟨by unfold Ms.write; rw [if_pos hc]; rfl⟩
  have HL := Stow.mk (Ms.check_lens hc)
  obtain ⟨hm, hh, hp, hb, _⟩ := Ms.check_lens hc
  clear hc
  obtain ⟨m, h, p, hs, b⟩ := q
  simp only at HS hm hh hp hb
  unfold Rq.val at *
  simp only at *
  have HX := rq_box w m h p A hs.length cap b
  have HF : Stow (Ms.whole (Ms.first ⟨m, h, p, hs, b⟩) hs b = m ++ [32] ++ h ++ [32] ++ p ++ [10] ++ Ms.rest hs b) := ⟨by simp [Ms.first, Ms.whole]⟩
  have HRL := Stow.mk (Ms.rest_len (b := b) HL.out.2.2.2.2 hb)
  obtain ⟨rr, hrr⟩ : ∃ r, Ms.rest hs b = r := ⟨_, rfl⟩
  rw [hrr] at HF HRL
  have hrl := HRL.out
  have HRR := Stow.mk hrr
  clear hrr
  go_enter Tryd.func34, Tryd.ntmps34
  go_wp2_with fail
  refine (HKK.out _ (HS.out.alloc _)).mono ?_
  rintro e w1 ⟨rfl, hb1⟩
  obtain ⟨hH1, hB1⟩ := HX.out w1 hb1
  have HB1 := Stow.mk hB1
  have HS1 := Stow.mk ((HS.out.alloc _).keep hb1)
  have lt1 := hH1.lt
  have a0 : ∀ x : Later w1.heap.size w1, x.1.cell? ⟨w.heap.size, 0, none⟩ = _ := fun x => x.cell (hH1.cell (i := 0) rfl) lt1
  have a1 : ∀ x : Later w1.heap.size w1, x.1.cell? ⟨w.heap.size, 1, none⟩ = _ := fun x => x.cell (hH1.cell (i := 1) rfl) lt1
  have a2 : ∀ x : Later w1.heap.size w1, x.1.cell? ⟨w.heap.size, 2, none⟩ = _ := fun x => x.cell (hH1.cell (i := 2) rfl) lt1
  have a3 : ∀ x : Later w1.heap.size w1, x.1.cell? ⟨w.heap.size, 3, none⟩ = _ := fun x => x.cell (hH1.cell (i := 3) rfl) lt1
  have a4 : ∀ x : Later w1.heap.size w1, x.1.cell? ⟨w.heap.size, 4, none⟩ = _ := fun x => x.cell (hH1.cell (i := 4) rfl) lt1
  clear hH1 hB1 hb1
  have KR : Stow (∀ x : Later w1.heap.size w1, Calls Tryd.prog 67 #[.slice A hs.length cap, .string (bs b)] x.1 fun e w' => e = .returned (.string (bs rr)) ∧ Below x.1.heap.size x.1 w') := ⟨fun x => by
    have := msRest_any hs A cap b x.1 (HS1.out.keep x.2) HL.out.2.2.2.2 hb
    rw [HRR.out] at this
    exact this⟩
  go_wp2_with fail
  refine wp_region_later w1.heap.size (by kernel_rfl) (by kernel_rfl) ?_
  repeat (go_big_quiet_step (first
    | (go_at_call 67; exact Calls.later (Nat.le_refl _) (KR.out _))))
  refine wpQuiet_nil ?_
  rintro ⟨wx, hbx⟩
  clear a0 a1 a2 a3 a4
  go_wp2_with fail
  go_ret2
  exact ⟨by rw [HW.out, HC.out, HF.out, ← bs_append, ← bs_append, ← bs_append, ← bs_append, ← bs_append, ← bs_append]; rfl, Below.trans HB1.out (hbx.mono HB1.out.size)⟩

set_option maxHeartbeats 1000000 in
set_option maxRecDepth 100000 in
theorem msWriteBack_any (q : Rs) (A : Option Addr) (cap : Nat) (w : World) (hS : HdR w A cap q.hs) (hb : q.b.length ≤ 140737488355328) (hp : Pow10 w) :
    Calls Tryd.prog 37 #[q.val A cap] w fun e w' => e = .returned (.tuple #[.string (bs (Ms.writeBack q)), .int .i64 (Ms.checkBack q : Nat)]) ∧ Below w.heap.size w w' := by
  have HS := Stow.mk hS
  have HP := Stow.mk hp
  clear hS hp
  obtain ⟨c, hc⟩ : ∃ c, Ms.checkBack q = c := ⟨_, rfl⟩
  have HC := Stow.mk hc
  have HK := fun W => fun h1 => msCheckBack_any q A cap W h1 hb
  rw [hc] at HK
  have HKK := Stow.mk HK
  clear HK
  by_cases h0 : c = 0
  rotate_left
  · have HW : Stow (Ms.writeBack q = []) := ⟨by unfold Ms.writeBack; rw [hc, if_neg h0]⟩
    have h0i : ((c : Int) != 0) = true := by rw [bne_iff_ne]; omega
    clear hc
    obtain ⟨st, hs, b⟩ := q
    simp only at HS hb
    unfold Rs.val at *
    simp only at *
    go_enter Tryd.func37, Tryd.ntmps37
    go_wp2_with fail
    refine (HKK.out _ (HS.out.alloc _)).mono ?_
    rintro e w1 ⟨rfl, hb1⟩
    go_wp2_with fail
    go_ret2
    exact ⟨by rw [HW.out, HC.out]; rfl, Below.call (Below.alloc' (Below.self _) _) hb1⟩
  subst h0
  have HW : Stow (Ms.writeBack q = Ms.whole (Lib.itoa q.st) q.hs q.b) := ⟨by unfold Ms.writeBack; rw [if_pos hc]; rfl⟩
  have HL := Stow.mk (Ms.checkBack_lens hc)
  obtain ⟨hs0, hs1, hb2, _⟩ := Ms.checkBack_lens hc
  clear hc
  obtain ⟨st, hs, b⟩ := q
  simp only at HS hs0 hs1 hb2 hb
  unfold Rs.val at *
  simp only at *
  have HX := rs_box w st A hs.length cap b
  have HIL := Stow.mk (Lib.itoa_length_le st (by omega) (by omega))
  go_enter Tryd.func37, Tryd.ntmps37
  go_wp2_with fail
  refine (HKK.out _ (HS.out.alloc _)).mono ?_
  rintro e w1 ⟨rfl, hb1⟩
  obtain ⟨hH1, hB1⟩ := HX.out w1 hb1
  have HB1 := Stow.mk hB1
  have HS1 := Stow.mk ((HS.out.alloc _).keep hb1)
  have lt1 := hH1.lt
  have a0 : ∀ x : Later w1.heap.size w1, x.1.cell? ⟨w.heap.size, 0, none⟩ = _ := fun x => x.cell (hH1.cell (i := 0) rfl) lt1
  have a1 : ∀ x : Later w1.heap.size w1, x.1.cell? ⟨w.heap.size, 1, none⟩ = _ := fun x => x.cell (hH1.cell (i := 1) rfl) lt1
  have a2 : ∀ x : Later w1.heap.size w1, x.1.cell? ⟨w.heap.size, 2, none⟩ = _ := fun x => x.cell (hH1.cell (i := 2) rfl) lt1
  clear hH1 hB1 hb1
  have KR : Stow (∀ x : Later w1.heap.size w1, Calls Tryd.prog 66 #[.string (bs (Lib.itoa st)), .slice A hs.length cap, .string (bs b)] x.1 fun e w' => e = .returned (.string (bs (Ms.whole (Lib.itoa st) hs b))) ∧ Below x.1.heap.size x.1 w') := ⟨fun x => msWhole_any _ hs A cap b x.1 (HS1.out.keep x.2) HL.out.2.2.2 (by have := HIL.out; omega) hb2⟩
  have KI : Stow (∀ x : Later w1.heap.size w1, Calls Tryd.prog 48 #[.int .i64 st] x.1 fun e w' => e = .returned (.string (bs (Lib.itoa st))) ∧ Below x.1.heap.size x.1 w') := ⟨fun x => itoa_any st (by omega) (by omega) x.1 (HP.out.keep (Below.trans HB1.out (x.2.mono HB1.out.size)))⟩
  go_wp2_with fail
  refine wp_region_later w1.heap.size (by kernel_rfl) (by kernel_rfl) ?_
  repeat (go_big_quiet_step (first
    | (go_at_call 66; exact Calls.later (Nat.le_refl _) (KR.out _))
    | (go_at_call 48; exact Calls.later (Nat.le_refl _) (KI.out _))))
  refine wpQuiet_nil ?_
  rintro ⟨wx, hbx⟩
  clear a0 a1 a2
  go_wp2_with fail
  go_ret2
  exact ⟨by rw [HW.out, HC.out]; rfl, Below.trans HB1.out (hbx.mono HB1.out.size)⟩

set_option maxHeartbeats 1000000 in
set_option maxRecDepth 100000 in
theorem msRefWriteBack_any (q : Rs) (A : Option Addr) (cap : Nat) (w : World) (hS : HdR w A cap q.hs) (hb : q.b.length ≤ 140737488355328) :
    Calls Tryd.prog 38 #[q.val A cap] w fun e w' => e = .returned (.tuple #[.string (bs (Ms.writeBack q)), .int .i64 (Ms.checkBack q : Nat)]) ∧ Below w.heap.size w w' := by
  have HS := Stow.mk hS
  clear hS
  obtain ⟨c, hc⟩ : ∃ c, Ms.checkBack q = c := ⟨_, rfl⟩
  have HC := Stow.mk hc
  have HK := fun W => fun h1 => refCheckBack_any q A cap W h1 hb
  rw [hc] at HK
  have HKK := Stow.mk HK
  clear HK
  by_cases h0 : c = 0
  rotate_left
  · have HW : Stow (Ms.writeBack q = []) := ⟨by unfold Ms.writeBack; rw [hc, if_neg h0]⟩
    have h0i : ((c : Int) != 0) = true := by rw [bne_iff_ne]; omega
    clear hc
    obtain ⟨st, hs, b⟩ := q
    simp only at HS hb
    unfold Rs.val at *
    simp only at *
    have HX := rs_box w st A hs.length cap b
    go_enter Tryd.func38, Tryd.ntmps38
    go_wp2_with fail
    refine (HKK.out _ (HS.out.alloc _)).mono ?_
    rintro e w1 ⟨rfl, hb1⟩
    obtain ⟨hH1, hB1⟩ := HX.out w1 hb1
    have HB1 := Stow.mk hB1
    have HS1 := Stow.mk ((HS.out.alloc _).keep hb1)
    have a0 := hH1.cell (i := 0) rfl
    have a1 := hH1.cell (i := 1) rfl
    have a2 := hH1.cell (i := 2) rfl
    clear hH1 hB1 hb1
    go_wp2_with fail
    refine (HKK.out _ HS1.out).mono ?_
    rintro e w2 ⟨rfl, hb2⟩
    go_wp2_with fail
    go_ret2
    exact ⟨by rw [HW.out, HC.out]; rfl, Below.call HB1.out hb2⟩
  subst h0
  have HW : Stow (Ms.writeBack q = Ms.whole (Lib.itoa q.st) q.hs q.b) := ⟨by unfold Ms.writeBack; rw [if_pos hc]; rfl⟩
  have HL := Stow.mk (Ms.checkBack_lens hc)
  obtain ⟨hs0, hs1, hb2, _⟩ := Ms.checkBack_lens hc
  clear hc
  obtain ⟨st, hs, b⟩ := q
  simp only at HS hs0 hs1 hb2 hb
  unfold Rs.val at *
  simp only at *
  have HX := rs_box w st A hs.length cap b
  have hil := Lib.itoa_length_le st (by omega) (by omega)
  have HF : Stow (Ms.whole (Lib.itoa st) hs b = Lib.itoa st ++ [10] ++ Ms.rest hs b) := ⟨by simp [Ms.whole]⟩
  have HRL := Stow.mk (Ms.rest_len (b := b) HL.out.2.2.2 hb2)
  obtain ⟨rr, hrr⟩ : ∃ r, Ms.rest hs b = r := ⟨_, rfl⟩
  rw [hrr] at HF HRL
  have hrl := HRL.out
  have HRR := Stow.mk hrr
  clear hrr
  go_enter Tryd.func38, Tryd.ntmps38
  go_wp2_with fail
  refine (HKK.out _ (HS.out.alloc _)).mono ?_
  rintro e w1 ⟨rfl, hb1⟩
  obtain ⟨hH1, hB1⟩ := HX.out w1 hb1
  have HB1 := Stow.mk hB1
  have HS1 := Stow.mk ((HS.out.alloc _).keep hb1)
  have lt1 := hH1.lt
  have a0 : ∀ x : Later w1.heap.size w1, x.1.cell? ⟨w.heap.size, 0, none⟩ = _ := fun x => x.cell (hH1.cell (i := 0) rfl) lt1
  have a1 : ∀ x : Later w1.heap.size w1, x.1.cell? ⟨w.heap.size, 1, none⟩ = _ := fun x => x.cell (hH1.cell (i := 1) rfl) lt1
  have a2 : ∀ x : Later w1.heap.size w1, x.1.cell? ⟨w.heap.size, 2, none⟩ = _ := fun x => x.cell (hH1.cell (i := 2) rfl) lt1
  clear hH1 hB1 hb1
  have KR : Stow (∀ x : Later w1.heap.size w1, Calls Tryd.prog 67 #[.slice A hs.length cap, .string (bs b)] x.1 fun e w' => e = .returned (.string (bs rr)) ∧ Below x.1.heap.size x.1 w') := ⟨fun x => by
    have := msRest_any hs A cap b x.1 (HS1.out.keep x.2) HL.out.2.2.2 hb2
    rw [HRR.out] at this
    exact this⟩
  have KI : Stow (∀ x : Later w1.heap.size w1, Calls Tryd.prog 51 #[.int .i64 st] x.1 fun e w' => e = .returned (.string (bs (Lib.itoa st))) ∧ Below x.1.heap.size x.1 w') := ⟨fun x => refDigits_any st.natAbs st (Nat.le_refl _) x.1 (by omega) (by omega)⟩
  go_wp2_with fail
  refine wp_region_later w1.heap.size (by kernel_rfl) (by kernel_rfl) ?_
  repeat (go_big_quiet_step (first
    | (go_at_call 67; exact Calls.later (Nat.le_refl _) (KR.out _))
    | (go_at_call 51; exact Calls.later (Nat.le_refl _) (KI.out _))))
  refine wpQuiet_nil ?_
  rintro ⟨wx, hbx⟩
  clear a0 a1 a2
  go_wp2_with fail
  go_ret2
  exact ⟨by rw [HW.out, HC.out, HF.out, ← bs_append, ← bs_append]; rfl, Below.trans HB1.out (hbx.mono HB1.out.size)⟩
end Go.Proofs.YtbnaicgomabigaaDoor
