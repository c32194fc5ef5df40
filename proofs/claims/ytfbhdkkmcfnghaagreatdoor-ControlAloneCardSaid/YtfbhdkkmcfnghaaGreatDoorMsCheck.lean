/- Walks of head.Check, msg.tail, Check, CheckBack and the reference's. Conditions: a slice's own; texts no longer than an int can say. -/
import Derived.Test.YtfbhdkkmcfnghaaGreatDoorMsText
import Derived.Test.YtfbhdkkmcfnghaaGreatDoorHead
namespace Go.Proofs.YtfbhdkkmcfnghaaGreatDoor
open Go.RowKit
set_option linter.unusedVariables false

theorem Ms.hd_bad {L : List Hd} {j n : Nat} {x y : List UInt8} (h : j < L.length) (hj : L[j] = (x, y)) (h0 : Ms.hdErr (L.take j) = 0) (hn : (if !nameOk x then 7 else if !Ms.valueOk y then 15 else 0) = n) (hne : n ≠ 0) (hl : L.length ≤ 16) : Ms.headsErr L = n := by
  have h1 := Ms.hdErr_take h h0
  rw [hj] at h1
  simp only at h1
  rw [hn] at h1
  unfold Ms.headsErr
  rw [if_neg (by omega), Ms.hdErr_stop (j := j + 1) (by rw [h1]; exact hne), h1]
theorem Ms.hd_good {L : List Hd} {j : Nat} {x y : List UInt8} (h : j < L.length) (hj : L[j] = (x, y)) (h0 : Ms.hdErr (L.take j) = 0) (h1 : nameOk x = true) (h2 : Ms.valueOk y = true) : Ms.hdErr (L.take (j + 1)) = 0 := by
  have h3 := Ms.hdErr_take h h0
  rw [hj] at h3
  simpa [h1, h2] using h3

set_option maxHeartbeats 1000000 in
set_option maxRecDepth 100000 in
theorem hdCheck_any (A : Option Addr) (cap : Nat) (L : List Hd) (w : World) (hS : SlR w 2 (.slice A L.length cap) (L.map Hd.cells)) (hf : ∀ m ∈ L, m.1.length ≤ 140737488355328 ∧ m.2.length ≤ 140737488355328) :
    Calls Tryz.prog 255 #[.slice A L.length cap] w fun e w' => e = .returned (.int .i64 (Ms.headsErr L : Nat)) ∧ Below w.heap.size w w' := by
  have HS := Stow.mk hS
  have HF := Stow.mk hf
  have hlen := hS.len
  simp only [List.length_map] at hlen
  clear hS hf
  by_cases h1 : 16 < L.length
  · have HN : Stow (Ms.headsErr L = 8) := ⟨by unfold Ms.headsErr; rw [if_pos h1]⟩
    have h1i : (16 : Int) < L.length := by omega
    go_enter Tryz.func255, Tryz.ntmps255
    go_wp2_with fail
    go_ret
    exact ⟨by rw [HN.out]; rfl, Below.self _⟩
  have h1i : (L.length : Int) ≤ 16 := by omega
  have HL : Stow (L.length ≤ 16) := ⟨by omega⟩
  go_enter Tryz.func255, Tryz.ntmps255
  go_wp2_with fail
  go_loopw [10] (fun v wr => ∃ j : Nat, v = .int .i64 (j : Int) ∧ j ≤ L.length ∧ Stow (Ms.hdErr (L.take j) = 0) ∧ Below w.heap.size w wr) (fun v _ => L.length - (intOf v).toNat)
  case atStart => exact ⟨0, rfl, by omega, ⟨rfl⟩, Below.self _⟩
  case round =>
    obtain ⟨j, rfl, hj, HJ, hbr⟩ := hrel
    by_cases hlt : j < L.length
    · obtain ⟨b, off, rfl, hblt, _⟩ := HS.out.open (by simp; omega)
      have hsp := head_at (HS.out.keep hbr) hlt
      have hfm := HF.out _ (List.getElem_mem hlt)
      obtain ⟨s, hs⟩ : ∃ s, L[j] = s := ⟨_, rfl⟩
      have HSJ := Stow.mk hs
      rw [hs] at hsp hfm
      clear hs
      obtain ⟨x, y⟩ := s
      obtain ⟨hltb, q0, q1⟩ := hsp
      simp only at q0 q1 hfm
      have hji : (j : Int) < L.length := by omega
      have HBR := Stow.mk hbr
      obtain ⟨c, hc⟩ : ∃ c, nameOk x = c := ⟨_, rfl⟩
      have HCN := Stow.mk hc
      obtain ⟨d, hd⟩ : ∃ d, Ms.valueOk y = d := ⟨_, rfl⟩
      have HCV := Stow.mk hd
      clear hc hd
      go_wp2_with fail
      refine (name_any x _ (by omega)).mono ?_
      rw [HCN.out]
      rintro e w' ⟨rfl, rfl⟩
      cases c
      · go_wp2_with fail
        go_ret
        exact ⟨by rw [Ms.hd_bad (n := 7) hlt HSJ.out HJ.out (by simp [HCN.out]) (by decide) HL.out]; rfl, Below.alloc (Below.refl _ _ |>.trans HBR.out) (by have := HBR.out.size; omega) _⟩
      · go_wp2_with fail
        refine (value_any y _ (by omega)).mono ?_
        rw [HCV.out]
        rintro e w' ⟨rfl, rfl⟩
        cases d
        · go_wp2_with fail
          go_ret
          exact ⟨by rw [Ms.hd_bad (n := 15) hlt HSJ.out HJ.out (by simp [HCN.out, HCV.out]) (by decide) HL.out]; rfl, Below.alloc HBR.out (by have := HBR.out.size; omega) _⟩
        · go_wp2_with fail
          exact ⟨⟨j + 1, rfl, by omega, ⟨Ms.hd_good hlt HSJ.out HJ.out HCN.out HCV.out⟩, Below.alloc HBR.out (by have := HBR.out.size; omega) _⟩, by simp [intOf]; omega⟩
    · obtain rfl : j = L.length := by omega
      have HN : Stow (Ms.headsErr L = 0) := ⟨by
        have := HJ.out
        rw [List.take_length] at this
        unfold Ms.headsErr
        rw [if_neg (by omega)]
        exact this⟩
      go_wp2_with fail
      go_ret
      exact ⟨by rw [HN.out]; rfl, hbr⟩

/-- A request's value. -/
def Rq.val (q : Rq) (A : Option Addr) (cap : Nat) : Value := .agg #[.string (bs q.m), .string (bs q.h), .string (bs q.p), .slice A q.hs.length cap, .string (bs q.b)]
def Rs.val (p : Rs) (A : Option Addr) (cap : Nat) : Value := .agg #[.int .i64 p.st, .slice A p.hs.length cap, .string (bs p.b)]
/-- What is asked of headers. -/
structure HdR (w : World) (A : Option Addr) (cap : Nat) (L : List Hd) : Prop where
  slr : SlR w 2 (.slice A L.length cap) (L.map Hd.cells)
  few : ∀ m ∈ L, m.1.length ≤ 140737488355328 ∧ m.2.length ≤ 140737488355328
theorem HdR.keep {w w' : World} {A : Option Addr} {cap : Nat} {L : List Hd} (h : HdR w A cap L) (hb : Below w.heap.size w w') : HdR w' A cap L := ⟨h.slr.keep hb, h.few⟩
theorem HdR.alloc {w : World} {A : Option Addr} {cap : Nat} {L : List Hd} (h : HdR w A cap L) (o : Obj) : HdR (w.alloc o) A cap L := ⟨h.slr.alloc o, h.few⟩
/-- What is asked of a request's texts. -/
structure Rq.fits (q : Rq) : Prop where
  m : q.m.length ≤ 140737488355328
  h : q.h.length ≤ 140737488355328
  p : q.p.length ≤ 140737488355328
  b : q.b.length ≤ 140737488355328

set_option maxHeartbeats 400000 in
set_option maxRecDepth 100000 in
theorem msTail_any (A : Option Addr) (cap : Nat) (L : List Hd) (b : List UInt8) (w : World) (hS : HdR w A cap L) (hb : b.length ≤ 140737488355328) :
    Calls Tryz.prog 253 #[.slice A L.length cap, .string (bs b)] w fun e w' => e = .returned (.int .i64 (Ms.tailErr L b : Nat)) ∧ Below w.heap.size w w' := by
  have HS := Stow.mk hS
  clear hS
  obtain ⟨n, hn⟩ : ∃ n, Ms.headsErr L = n := ⟨_, rfl⟩
  have HN := Stow.mk hn
  have HT : Stow (Ms.tailErr L b = if n ≠ 0 then n else if 200 < b.length then 6 else 0) := ⟨by unfold Ms.tailErr; rw [hn]⟩
  clear hn
  by_cases h0 : n = 0
  · subst h0
    by_cases h1 : 200 < b.length
    · have h1i : (200 : Int) < b.length := by omega
      have HR : Stow (Ms.tailErr L b = 6) := ⟨by rw [HT.out]; simp [h1]⟩
      go_enter Tryz.func253, Tryz.ntmps253
      go_wp2_with fail
      refine (hdCheck_any A cap L _ HS.out.slr HS.out.few).mono ?_
      rw [HN.out]
      rintro e w1 ⟨rfl, hb1⟩
      go_wp2_with fail
      go_ret
      exact ⟨by rw [HR.out]; rfl, hb1⟩
    · have h1i : (b.length : Int) ≤ 200 := by omega
      have HR : Stow (Ms.tailErr L b = 0) := ⟨by rw [HT.out]; simp [h1]⟩
      go_enter Tryz.func253, Tryz.ntmps253
      go_wp2_with fail
      refine (hdCheck_any A cap L _ HS.out.slr HS.out.few).mono ?_
      rw [HN.out]
      rintro e w1 ⟨rfl, hb1⟩
      go_wp2_with fail
      go_ret
      exact ⟨by rw [HR.out]; rfl, hb1⟩
  · have h0i : ((n : Int) != 0) = true := by rw [bne_iff_ne]; omega
    have HR : Stow (Ms.tailErr L b = n) := ⟨by rw [HT.out]; simp [h0]⟩
    go_enter Tryz.func253, Tryz.ntmps253
    go_wp2_with fail
    refine (hdCheck_any A cap L _ HS.out.slr HS.out.few).mono ?_
    rw [HN.out]
    rintro e w1 ⟨rfl, hb1⟩
    go_wp2_with fail
    go_ret
    exact ⟨by rw [HR.out]; rfl, hb1⟩

set_option maxHeartbeats 1000000 in
set_option maxRecDepth 100000 in
theorem msCheck_any (q : Rq) (A : Option Addr) (cap : Nat) (w : World) (hS : HdR w A cap q.hs) (hq : q.fits) :
    Calls Tryz.prog 240 #[q.val A cap] w fun e w' => e = .returned (.int .i64 (Ms.check q : Nat)) ∧ Below w.heap.size w w' := by
  have HS := Stow.mk hS
  have HQ := Stow.mk hq
  clear hS hq
  obtain ⟨c, hc⟩ : ∃ c, Ms.methodOk q.m = c := ⟨_, rfl⟩
  obtain ⟨d, hd⟩ : ∃ d, nameOk q.h = d := ⟨_, rfl⟩
  obtain ⟨f, hf⟩ : ∃ f, Ms.pathOk q.p = f := ⟨_, rfl⟩
  have HC := Stow.mk hc
  have HD := Stow.mk hd
  have HF := Stow.mk hf
  have HK : Stow (Ms.check q = if !c then 3 else if !d then 7 else if !f then 12 else Ms.tailErr q.hs q.b) := ⟨by unfold Ms.check; rw [hc, hd, hf]⟩
  clear hc hd hf
  obtain ⟨m, h, p, hs, b⟩ := q
  have hm := HQ.out.m
  have hh := HQ.out.h
  have hp := HQ.out.p
  have hb := HQ.out.b
  simp only at HC HD HF HK hm hh hp hb HS
  unfold Rq.val
  simp only
  have HHD : Stow (∀ w', Below (w.alloc (.cells #[.string (bs m), .string (bs h), .string (bs p), .slice A hs.length cap, .string (bs b)] 242)).heap.size (w.alloc (.cells #[.string (bs m), .string (bs h), .string (bs p), .slice A hs.length cap, .string (bs b)] 242)) w' → Held w' w.heap.size [.string (bs m), .string (bs h), .string (bs p), .slice A hs.length cap, .string (bs b)]) := ⟨fun w' hb => (Held.made w [.string (bs m), .string (bs h), .string (bs p), .slice A hs.length cap, .string (bs b)] _).kept hb⟩
  go_enter Tryz.func240, Tryz.ntmps240
  go_wp2_with fail
  refine (msMethod_any m _ (by omega)).mono ?_
  rw [HC.out]
  rintro e w1 ⟨rfl, rfl⟩
  cases c
  · go_wp2_with fail
    go_ret
    exact ⟨by rw [HK.out]; rfl, Below.alloc' (Below.self _) _⟩
  go_wp2_with fail
  refine (name_any h _ (by omega)).mono ?_
  rw [HD.out]
  rintro e w1 ⟨rfl, rfl⟩
  cases d
  · go_wp2_with fail
    go_ret
    exact ⟨by rw [HK.out]; rfl, Below.alloc' (Below.self _) _⟩
  go_wp2_with fail
  refine (msPath_any p _ (by omega)).mono ?_
  rw [HF.out]
  rintro e w1 ⟨rfl, rfl⟩
  cases f
  · go_wp2_with fail
    go_ret
    exact ⟨by rw [HK.out]; rfl, Below.alloc' (Below.self _) _⟩
  go_wp2_with fail
  refine (msTail_any A cap hs b _ (HS.out.alloc _) hb).mono ?_
  rintro e w1 ⟨rfl, hb1⟩
  go_wp2_with fail
  go_ret
  exact ⟨by rw [HK.out]; rfl, Below.call (Below.alloc' (Below.self _) _) hb1⟩

end Go.Proofs.YtfbhdkkmcfnghaaGreatDoor
