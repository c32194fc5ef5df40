/- The walk of 'a byte that is another one is told'. Condition: what the form itself grants of arguments. -/
import Derived.Test.YtkhepehgafijfaaBatchBackWalk
import Derived.Lib.ConvBytes
namespace Go.Proofs.Ytkhepehgafijfaa
open Go.RowKit
set_option linter.unusedVariables false

/-- '[]byte(s)'. -/
theorem wpList_bytes_of {P : Program} {ops : Array Oper} {rest : List Oper} {o : Oper} {a : Act} {Q : Exit → Act → World → Prop} (w : World)
    (hgd : o.guard = none) (s : Operand) (src dst e : TypeId) (ho : o.op = Op.convert src dst s) (l : List UInt8) (hs : P.underlying src = some .string) (hd : P.underlying dst = some (.slice e)) (he : P.underlying e = some (.int .u8))
    (hv : a.eval s = .string (bs l))
    (h : ∀ cap w', (∀ j (hj : j < l.length), w'.cell? ⟨w.heap.size, j, none⟩ = some (.int .u8 (l[j].toNat : Int))) → (∀ j, j < l.length → w'.frozen? ⟨w.heap.size, j, none⟩ = false) → Below w.heap.size w w' → w.heap.size < w'.heap.size →
      wpList P ops Q rest (a.put o.dst (.slice (some ⟨w.heap.size, 0, none⟩) l.length cap)) w') : wpList P ops Q (o :: rest) a w := by
  refine wpList_plain hgd fun K hK' => ?_
  unfold Oper.wp
  simp only [execOp, ho, hv]
  rw [Sem.run_bind, Lib.run_convert_string_bytes w src dst e (bs l) hs hd he]
  refine hK' _ _ (h _ _ (fun j hj => ?_) (fun j hj => ?_) ⟨rfl, rfl, rfl, ?_, fun k hk => Lib.bytesWorld_at_old w e (bs l) k hk⟩ ?_)
  · rw [Lib.bytesWorld_cell w e (bs l) j hj]
    simp [hj]
  · have := Lib.bytesWorld_at_new w e (bs l)
    simp [World.frozen?, this, Lib.bytesCells]
    omega
  · rw [Lib.bytesWorld_size]; omega
  · rw [Lib.bytesWorld_size]; omega

/-- 'string(b)' of bytes whose cells are known. -/
theorem wpList_string_cells {P : Program} {ops : Array Oper} {rest : List Oper} {o : Oper} {a : Act} {Q : Exit → Act → World → Prop} {w : World}
    (hgd : o.guard = none) (s : Operand) (src dst e : TypeId) (ho : o.op = Op.convert src dst s) (g cap n : Nat) (l : List UInt8) (hn : n = l.length)
    (hc : ∀ j (hj : j < l.length), w.cell? ⟨g, j, none⟩ = some (.int .u8 (l[j].toNat : Int))) (hs : P.underlying src = some (.slice e)) (he : P.underlying e = some (.int .u8)) (hd : P.underlying dst = some .string)
    (hv : a.eval s = .slice (some ⟨g, 0, none⟩) n cap) (h : wpList P ops Q rest (a.put o.dst (.string (bs l))) w) : wpList P ops Q (o :: rest) a w := by
  subst hn
  have hrun : (convert src dst (.slice (some ⟨g, 0, none⟩) l.length cap)).run P w = .ok (.string (bs l)) w :=
    run_convert_bytes_back w src dst e ⟨g, 0, none⟩ cap l hs he hd fun j hj => by rw [Addr.add_lit, Nat.zero_add]; exact hc j hj
  refine wpList_plain hgd fun K hK' => ?_
  unfold Oper.wp
  simp [execOp, ho, hv, hrun, Result.andThen]
  exact hK' _ _ h

theorem set_cells {w : World} {g : Nat} {t : List UInt8} (hc : ∀ j (hj : j < t.length), w.cell? ⟨g, j, none⟩ = some (.int .u8 (t[j].toNat : Int))) (i : Nat) (c : UInt8) :
    ∀ j (hj : j < (t.set i c).length), (w.setCell ⟨g, i, none⟩ (.int .u8 (c.toNat : Int))).cell? ⟨g, j, none⟩ = some (.int .u8 ((t.set i c)[j].toNat : Int)) := by
  intro j hj
  have hj' : j < t.length := by simpa using hj
  by_cases hji : j = i
  · subst hji
    rw [World.cell?_setCell_same _ _ _ (hc j hj')]
    simp
  · rw [World.cell?_setCell_other w ⟨g, i, none⟩ ⟨g, j, none⟩ _ (fun e => by simp at e), hc j hj']
    simp [Ne.symm hji]


set_option maxHeartbeats 2000000 in
set_option maxRecDepth 100000 in
theorem tells_few (x y : Int) (A : Option Addr) (cap : Nat) (L : List Sp) (at_ : Int) (by_ : Nat) (w : World) (hS : SlR w 11 (.slice A L.length cap) (L.map Sp.cells)) (hf : ∀ s ∈ L, s.fits) (hq : fewB L = false) :
    Calls Try.prog 6 #[.agg #[.int .i64 x, .int .i64 y, .slice A L.length cap], .int .i64 at_, .int .u8 (by_ : Int)] w fun e w' => e = .returned (.bool true) ∧ Below w.heap.size w w' := by
  have HQ := Stow.mk hq
  clear hq
  have HS := Stow.mk hS
  have HF := Stow.mk hf
  have hH := Held.made w [.int .i64 x, .int .i64 y, .slice A L.length cap] 24
  have HS0 := Stow.mk (HS.out.alloc (.cells #[.int .i64 x, .int .i64 y, .slice A L.length cap] 24))
  clear hS hf
  go_enter Try.func6, Try.ntmps6
  go_wp2_with fail
  refine (few10_any x y L A cap _ HS0.out HF.out).mono ?_
  rw [HQ.out]
  rintro e w1 ⟨rfl, hb1⟩
  go_wp2_with fail
  refine (known10_any _).mono ?_
  rintro e wk ⟨rfl, hbk⟩
  go_wp2_with fail
  go_ret
  refine ⟨rfl, ?_⟩
  (repeat (first | exact Below.self _ | refine Below.alloc' ?_ _ | refine Below.drew ?_ | refine Below.drewN' ?_ _ | (refine Below.call ?_ (by assumption))))

set_option maxHeartbeats 2000000 in
set_option maxRecDepth 100000 in
theorem tells_bad (x y : Int) (A : Option Addr) (cap : Nat) (L : List Sp) (at_ : Int) (by_ : Nat) (w : World) (hS : SlR w 11 (.slice A L.length cap) (L.map Sp.cells)) (hf : ∀ s ∈ L, s.fits) (hq : fewB L = true) (c : Nat) (hc : btCheck x y L = c) (hc0 : ((c : Int) != 0) = true) :
    Calls Try.prog 6 #[.agg #[.int .i64 x, .int .i64 y, .slice A L.length cap], .int .i64 at_, .int .u8 (by_ : Int)] w fun e w' => e = .returned (.bool true) ∧ Below w.heap.size w w' := by
  have HQ := Stow.mk hq
  have HC := Stow.mk hc
  clear hq hc
  have HS := Stow.mk hS
  have HF := Stow.mk hf
  have hH := Held.made w [.int .i64 x, .int .i64 y, .slice A L.length cap] 24
  have HS0 := Stow.mk (HS.out.alloc (.cells #[.int .i64 x, .int .i64 y, .slice A L.length cap] 24))
  clear hS hf
  go_enter Try.func6, Try.ntmps6
  go_wp2_with fail
  refine (few10_any x y L A cap _ HS0.out HF.out).mono ?_
  rw [HQ.out]
  rintro e w1 ⟨rfl, hb1⟩
  have hH1 := hH.kept hb1
  have HS1 := Stow.mk (HS0.out.keep hb1)
  have p0 := hH1.cell (i := 0) rfl
  have p1 := hH1.cell (i := 1) rfl
  have p2 := hH1.cell (i := 2) rfl
  go_wp2_with fail
  clear p0 p1 p2
  refine (btCheck_any x y A cap L _ HS1.out HF.out).mono ?_
  rw [HC.out]
  rintro e w2 ⟨rfl, hb2⟩
  go_wp2_with fail
  refine (known10_any _).mono ?_
  rintro e wk ⟨rfl, hbk⟩
  go_wp2_with fail
  go_ret
  refine ⟨rfl, ?_⟩
  (repeat (first | exact Below.self _ | refine Below.alloc' ?_ _ | refine Below.drew ?_ | refine Below.drewN' ?_ _ | (refine Below.call ?_ (by assumption))))

set_option maxHeartbeats 2000000 in
set_option maxRecDepth 100000 in
theorem tells_out (x y : Int) (A : Option Addr) (cap : Nat) (L : List Sp) (at_ : Int) (by_ : Nat) (w : World) (hS : SlR w 11 (.slice A L.length cap) (L.map Sp.cells)) (hf : ∀ s ∈ L, s.fits) (hq : fewB L = true) (hc : btCheck x y L = 0)
    (t : List UInt8) (hw : btWrite x y L = (t, 0)) (h : at_ < 0 ∨ (t.length : Int) ≤ at_ ∨ by_ = 0) :
    Calls Try.prog 6 #[.agg #[.int .i64 x, .int .i64 y, .slice A L.length cap], .int .i64 at_, .int .u8 (by_ : Int)] w fun e w' => e = .returned (.bool true) ∧ Below w.heap.size w w' := by
  have HQ := Stow.mk hq
  have HC := Stow.mk hc
  have HW := Stow.mk hw
  clear hq hc hw
  have HS := Stow.mk hS
  have HF := Stow.mk hf
  have hH := Held.made w [.int .i64 x, .int .i64 y, .slice A L.length cap] 24
  have HS0 := Stow.mk (HS.out.alloc (.cells #[.int .i64 x, .int .i64 y, .slice A L.length cap] 24))
  clear hS hf
  by_cases k1 : at_ < 0
  · go_enter Try.func6, Try.ntmps6
    go_wp2_with fail
    refine (few10_any x y L A cap _ HS0.out HF.out).mono ?_
    rw [HQ.out]
    rintro e w1 ⟨rfl, hb1⟩
    have hH1 := hH.kept hb1
    have HS1 := Stow.mk (HS0.out.keep hb1)
    have p0 := hH1.cell (i := 0) rfl
    have p1 := hH1.cell (i := 1) rfl
    have p2 := hH1.cell (i := 2) rfl
    go_wp2_with fail
    clear p0 p1 p2
    refine (btCheck_any x y A cap L _ HS1.out HF.out).mono ?_
    rw [HC.out]
    rintro e w2 ⟨rfl, hb2⟩
    have hH2 := hH1.kept hb2
    have HS2 := Stow.mk (HS1.out.keep hb2)
    have p0 := hH2.cell (i := 0) rfl
    have p1 := hH2.cell (i := 1) rfl
    have p2 := hH2.cell (i := 2) rfl
    go_wp2_with fail
    clear p0 p1 p2
    refine (btWrite_any x y A cap L _ HS2.out HF.out).mono ?_
    rw [HW.out]
    rintro e w3 ⟨rfl, hb3⟩
    go_wp2_with fail
    refine (known10_any _).mono ?_
    rintro e wk ⟨rfl, hbk⟩
    go_wp2_with fail
    go_ret
    refine ⟨rfl, ?_⟩
    (repeat (first | exact Below.self _ | refine Below.alloc' ?_ _ | refine Below.drew ?_ | refine Below.drewN' ?_ _ | (refine Below.call ?_ (by assumption))))
  have d1 : decide (at_ < 0) = false := by simpa using k1
  by_cases k2 : (t.length : Int) ≤ at_
  · go_enter Try.func6, Try.ntmps6
    go_wp2_with fail
    refine (few10_any x y L A cap _ HS0.out HF.out).mono ?_
    rw [HQ.out]
    rintro e w1 ⟨rfl, hb1⟩
    have hH1 := hH.kept hb1
    have HS1 := Stow.mk (HS0.out.keep hb1)
    have p0 := hH1.cell (i := 0) rfl
    have p1 := hH1.cell (i := 1) rfl
    have p2 := hH1.cell (i := 2) rfl
    go_wp2_with fail
    clear p0 p1 p2
    refine (btCheck_any x y A cap L _ HS1.out HF.out).mono ?_
    rw [HC.out]
    rintro e w2 ⟨rfl, hb2⟩
    have hH2 := hH1.kept hb2
    have HS2 := Stow.mk (HS1.out.keep hb2)
    have p0 := hH2.cell (i := 0) rfl
    have p1 := hH2.cell (i := 1) rfl
    have p2 := hH2.cell (i := 2) rfl
    go_wp2_with fail
    clear p0 p1 p2
    refine (btWrite_any x y A cap L _ HS2.out HF.out).mono ?_
    rw [HW.out]
    rintro e w3 ⟨rfl, hb3⟩
    go_wp2_with fail
    refine (known10_any _).mono ?_
    rintro e wk ⟨rfl, hbk⟩
    go_wp2_with fail
    go_ret
    refine ⟨rfl, ?_⟩
    (repeat (first | exact Below.self _ | refine Below.alloc' ?_ _ | refine Below.drew ?_ | refine Below.drewN' ?_ _ | (refine Below.call ?_ (by assumption))))
  have d2 : decide ((t.length : Int) ≤ at_) = false := by simpa using k2
  obtain rfl : by_ = 0 := by omega
  go_enter Try.func6, Try.ntmps6
  go_wp2_with fail
  refine (few10_any x y L A cap _ HS0.out HF.out).mono ?_
  rw [HQ.out]
  rintro e w1 ⟨rfl, hb1⟩
  have hH1 := hH.kept hb1
  have HS1 := Stow.mk (HS0.out.keep hb1)
  have p0 := hH1.cell (i := 0) rfl
  have p1 := hH1.cell (i := 1) rfl
  have p2 := hH1.cell (i := 2) rfl
  go_wp2_with fail
  clear p0 p1 p2
  refine (btCheck_any x y A cap L _ HS1.out HF.out).mono ?_
  rw [HC.out]
  rintro e w2 ⟨rfl, hb2⟩
  have hH2 := hH1.kept hb2
  have HS2 := Stow.mk (HS1.out.keep hb2)
  have p0 := hH2.cell (i := 0) rfl
  have p1 := hH2.cell (i := 1) rfl
  have p2 := hH2.cell (i := 2) rfl
  go_wp2_with fail
  clear p0 p1 p2
  refine (btWrite_any x y A cap L _ HS2.out HF.out).mono ?_
  rw [HW.out]
  rintro e w3 ⟨rfl, hb3⟩
  go_wp2_with fail
  refine (known10_any _).mono ?_
  rintro e wk ⟨rfl, hbk⟩
  go_wp2_with fail
  go_ret
  refine ⟨rfl, ?_⟩
  (repeat (first | exact Below.self _ | refine Below.alloc' ?_ _ | refine Below.drew ?_ | refine Below.drewN' ?_ _ | (refine Below.call ?_ (by assumption))))

set_option maxHeartbeats 2000000 in
set_option maxRecDepth 100000 in
theorem tells_in (x y : Int) (A : Option Addr) (cap : Nat) (L : List Sp) (i : Nat) (by_ : Nat) (w : World) (hS : SlR w 11 (.slice A L.length cap) (L.map Sp.cells)) (hf : ∀ s ∈ L, s.fits) (hq : fewB L = true) (hc : btCheck x y L = 0)
    (t : List UInt8) (hw : btWrite x y L = (t, 0)) (hi : i < t.length) (htl : t.length ≤ 3000) (hb0 : 0 < by_) (hb1 : by_ < 256) (c : UInt8) (hcc : (c.toNat : Int) = bits .xor .u8 ((t[i]).toNat : Int) by_) (hr : btRead (t.set i c) = (0, 0, [], 4)) :
    Calls Try.prog 6 #[.agg #[.int .i64 x, .int .i64 y, .slice A L.length cap], .int .i64 (i : Int), .int .u8 (by_ : Int)] w fun e w' => e = .returned (.bool true) ∧ Below w.heap.size w w' := by
  have HQ := Stow.mk hq
  have HC := Stow.mk hc
  have HW := Stow.mk hw
  have HR := Stow.mk hr
  clear hq hc hw hr
  have HS := Stow.mk hS
  have HF := Stow.mk hf
  have hH := Held.made w [.int .i64 x, .int .i64 y, .slice A L.length cap] 24
  have HS0 := Stow.mk (HS.out.alloc (.cells #[.int .i64 x, .int .i64 y, .slice A L.length cap] 24))
  clear hS hf
  have hby : ((by_ : Int) == 0) = false := by simp; omega
  go_enter Try.func6, Try.ntmps6
  go_wp2_with fail
  refine (few10_any x y L A cap _ HS0.out HF.out).mono ?_
  rw [HQ.out]
  rintro e w1 ⟨rfl, hb1⟩
  have hH1 := hH.kept hb1
  have HS1 := Stow.mk (HS0.out.keep hb1)
  have p0 := hH1.cell (i := 0) rfl
  have p1 := hH1.cell (i := 1) rfl
  have p2 := hH1.cell (i := 2) rfl
  go_wp2_with fail
  clear p0 p1 p2
  refine (btCheck_any x y A cap L _ HS1.out HF.out).mono ?_
  rw [HC.out]
  rintro e w2 ⟨rfl, hb2⟩
  have hH2 := hH1.kept hb2
  have HS2 := Stow.mk (HS1.out.keep hb2)
  have p0 := hH2.cell (i := 0) rfl
  have p1 := hH2.cell (i := 1) rfl
  have p2 := hH2.cell (i := 2) rfl
  go_wp2_with fail
  clear p0 p1 p2
  refine (btWrite_any x y A cap L _ HS2.out HF.out).mono ?_
  rw [HW.out]
  rintro e w3 ⟨rfl, hb3⟩
  obtain ⟨tb, htb⟩ : ∃ b, t[i] = b := ⟨_, rfl⟩
  rw [htb] at hcc
  have HTB := Stow.mk htb
  clear htb
  have hcc2 : bits .xor .u8 (tb.toNat : Int) (by_ : Int) = (c.toNat : Int) := hcc.symm
  clear hcc
  have hlen : t.length = (t.set i c).length := by simp
  have HLEN := Stow.mk hlen
  clear hlen
  go_wp2_with (first
    | (refine wpList_bytes_of w3 rfl (.tmp 47) 9 40 5 rfl t Try.underlying9 Try.underlying40 Try.underlying5 rfl ?_; intro cap4 w4 hcell hfr hb4 hs4; have hci := hcell i hi; have hfi := hfr i hi; rw [HTB.out] at hci; have HCS := Stow.mk (set_cells hcell i c); have hlt4 : w3.heap.size < w4.heap.size := hs4; clear hcell hfr)
    | (refine wpList_string_cells rfl (.tmp 59) 40 9 5 rfl w3.heap.size cap4 t.length (t.set i c) HLEN.out HCS.out Try.underlying40 Try.underlying5 Try.underlying9 rfl ?_))
  have hbw : Below w.heap.size w w4 := Below.call (Below.call (Below.call (Below.call (Below.alloc' (Below.self _) _) hb1) hb2) hb3) hb4
  have hbx : Below w.heap.size w (w4.setCell ⟨w3.heap.size, i, none⟩ (.int .u8 (c.toNat : Int))) := hbw.setCell (by have := hb1.size; have := hb2.size; have := hb3.size; simp at *; omega) _
  clear hb1 hb2 hb3 hb4 hbw
  refine (btRead_any (t.set i c) _ (by simp; omega)).mono ?_
  rw [HR.out]
  rintro e w5 hbo
  obtain ⟨A5, cap5, rfl, hS5, hb5⟩ := hbo.form
  clear hbo
  go_wp2_with fail
  refine (sameBt_any 0 0 [] A5 none cap5 0 _ (hS5.alloc _) (SlR.nil _ _)).mono ?_
  rintro e w6 ⟨rfl, hb6⟩
  go_wp2_with fail
  refine (known10_any _).mono ?_
  rintro e wk ⟨rfl, hbk⟩
  go_wp2_with fail
  go_ret
  refine ⟨rfl, ?_⟩
  (repeat (first | exact Below.self _ | refine Below.alloc' ?_ _ | refine Below.drew ?_ | refine Below.drewN' ?_ _ | (refine Below.call ?_ (by assumption))))

theorem bits_xor_u8 (a b : Nat) (ha : a < 256) (hb : b < 256) : bits .xor .u8 (a : Int) (b : Int) = ((a ^^^ b : Nat) : Int) := by
  have h : a ^^^ b < 2 ^ 8 := Nat.xor_lt_two_pow (by omega) (by omega)
  have h1 : (BitVec.ofInt 8 (a : Int)).toNat = a := by rw [BitVec.ofInt_natCast, BitVec.toNat_ofNat]; exact Nat.mod_eq_of_lt (by omega)
  have h2 : (BitVec.ofInt 8 (b : Int)).toNat = b := by rw [BitVec.ofInt_natCast, BitVec.toNat_ofNat]; exact Nat.mod_eq_of_lt (by omega)
  show IntKind.u8.wrap ((BitVec.ofInt 8 (a : Int) ^^^ BitVec.ofInt 8 (b : Int)).toNat : Int) = _
  rw [BitVec.toNat_xor, h1, h2]
  simp [IntKind.wrap, IntKind.bits, IntKind.signed]
  omega

/-- The law's walk. -/
theorem tells10 (b : BtArg) (at_ : Int) (by_ : Nat) (w : World) (hb : b.ok w) (hby : by_ < 256) :
    Calls Try.prog 6 #[b.val, .int .i64 at_, .int .u8 (by_ : Int)] w fun e w' => e = .returned (.bool true) ∧ Below w.heap.size w w' := by
  obtain ⟨x, y, A, cap, L⟩ := b
  obtain ⟨hS, hf⟩ := hb
  simp only [BtArg.val] at *
  rcases hq : fewB L with _ | _
  · exact tells_few x y A cap L at_ by_ w hS hf hq
  by_cases hc : btCheck x y L = 0
  rotate_left
  · exact tells_bad x y A cap L at_ by_ w hS hf hq _ rfl (by simpa using hc)
  have hw : btWrite x y L = (seal_ (btBody x y L), 0) := by unfold btWrite; rw [if_pos hc]
  by_cases ho : at_ < 0 ∨ ((seal_ (btBody x y L)).length : Int) ≤ at_ ∨ by_ = 0
  · exact tells_out x y A cap L at_ by_ w hS hf hq hc _ hw ho
  obtain ⟨i, rfl⟩ := Int.eq_ofNat_of_zero_le (by omega : 0 ≤ at_)
  have hi : i < (seal_ (btBody x y L)).length := by omega
  have hb0 : 0 < by_ := by omega
  have hbl := body_len hc
  obtain ⟨t, ht⟩ : ∃ t, (seal_ (btBody x y L))[i] = t := ⟨_, rfl⟩
  have htl := UInt8.toNat_lt t
  have hx : t.toNat ^^^ by_ < 256 := Nat.xor_lt_two_pow (n := 8) (by omega) (by omega)
  have hcn : (UInt8.ofNat (t.toNat ^^^ by_)).toNat = t.toNat ^^^ by_ := by rw [UInt8.toNat_ofNat']; exact Nat.mod_eq_of_lt hx
  refine tells_in x y A cap L i by_ w hS hf hq hc _ hw hi hbl hb0 hby (UInt8.ofNat (t.toNat ^^^ by_)) (by rw [ht, hcn, bits_xor_u8 _ _ (by omega) hby]) (told hi ?_)
  rw [ht]
  intro e
  have e2 := congrArg UInt8.toNat e
  rw [hcn] at e2
  have e3 := congrArg (t.toNat ^^^ ·) e2
  simp only [← Nat.xor_assoc, Nat.xor_self, Nat.zero_xor] at e3
  omega
end Go.Proofs.Ytkhepehgafijfaa
