/- Walk of the statement on the last value that was put. Conditions: a slice's own. -/
import Derived.Test.YthbpcdoddcacdaaBkKnown
import Derived.Test.YthbpcdoddcacdaaData
namespace Go.Proofs.Ythbpcdoddcacdaa
open Go.RowKit Cells
set_option linter.unusedVariables false

/-- A move: whose book, a key, a value. -/
structure Mv4 where
  n : Int
  s : Bool
  k : Bk.Tx
  v : Bk.Tx
def Mv4.cells (m : Mv4) : List Value := [.int .i64 m.n, .bool m.s, .string (bs m.k), .string (bs m.v)]
def Mv4.val (m : Mv4) : Value := .agg #[.int .i64 m.n, .bool m.s, .string (bs m.k), .string (bs m.v)]
structure Mv4.ok (m : Mv4) : Prop where
  k : m.k.length ≤ maxLen
  v : m.v.length ≤ maxLen
def moveCells : List (Value → Prop) := [pInt .i64, pBool, pStr, pStr]
theorem flat_move (w : World) : Flat Try.prog w 76 moveCells :=
  flat_struct Try.underlying76 (by kernel_rfl) (.cons 1 rfl (by kernel_rfl) (flat_int Try.underlying3) (.cons 1 rfl (by kernel_rfl) (flat_bool Try.underlying4) (.cons 1 rfl (by kernel_rfl) (flat_string Try.underlying9) (.cons 1 rfl (by kernel_rfl) (flat_string Try.underlying9) (.nil _) rfl rfl) rfl rfl) rfl rfl) rfl rfl)
theorem flat_moves (w : World) : Flat Try.prog w 68 [pSlice w 4 moveCells] := flat_slice Try.underlying68 (by kernel_rfl) (flat_move w)
theorem move_of_cells {cs : List Value} (h : Rel moveCells cs) : ∃ m : Mv4, cs = m.cells ∧ m.ok := by
  obtain ⟨_, _, rfl, h0, h⟩ := h.cons_inv
  obtain ⟨_, _, rfl, h1, h⟩ := h.cons_inv
  obtain ⟨_, _, rfl, h2, h⟩ := h.cons_inv
  obtain ⟨_, _, rfl, h3, h⟩ := h.cons_inv
  obtain rfl := h.nil_inv
  obtain ⟨n, rfl, _⟩ := h0
  obtain ⟨s, rfl⟩ := h1
  obtain ⟨k, rfl, hk⟩ := h2
  obtain ⟨v, rfl, hv⟩ := h3
  exact ⟨⟨n, s, k, v⟩, rfl, ⟨by simpa using hk, by simpa using hv⟩⟩
theorem move_of_arg {cs : List Value} (h : Rel moveCells cs) : ∃ m : Mv4, (.agg cs.toArray : Value) = m.val ∧ m.ok := by
  obtain ⟨m, rfl, hm⟩ := move_of_cells h
  exact ⟨m, rfl, hm⟩
theorem moves_of {w : World} {v : Value} (h : pSlice w 4 moveCells v) : ∃ (L : List Mv4) (A : Option Addr) (cap : Nat), v = .slice A L.length cap ∧ SlR w 4 (.slice A L.length cap) (L.map Mv4.cells) ∧ ∀ m ∈ L, m.ok := by
  obtain ⟨L, hL, hf⟩ := slr_of (c := 4) Mv4.cells Mv4.ok (fun cs hc => move_of_cells hc) (fun _ => rfl) (by omega) h
  obtain ⟨A, cap, rfl, _⟩ := hL.form
  simp only [List.length_map] at hL ⊢
  exact ⟨L, A, cap, rfl, hL, hf⟩
def Bk.play (n : Int) (L : List Mv4) : Bk.St := L.foldl (fun S m => (S.put m.n m.s m.k m.v).1) (Bk.new n)
theorem Bk.play_next (n : Int) {L : List Mv4} {j : Nat} (h : j < L.length) : Bk.play n (L.take (j + 1)) = ((Bk.play n (L.take j)).put L[j].n L[j].s L[j].k L[j].v).1 := by
  unfold Bk.play
  rw [List.take_succ_eq_append_getElem h, List.foldl_append]
  rfl
theorem Bk.play_short (n : Int) : ∀ (L : List Mv4), (∀ m ∈ L, m.ok) → (Bk.play n L).Short ∧ (Bk.play n L).Ok := by
  intro L
  unfold Bk.play
  have : ∀ (L : List Mv4) (S : Bk.St), S.Short ∧ S.Ok → (∀ m ∈ L, m.ok) → (L.foldl (fun S m => (S.put m.n m.s m.k m.v).1) S).Short ∧ (L.foldl (fun S m => (S.put m.n m.s m.k m.v).1) S).Ok := by
    intro L
    induction L with
    | nil => intro S h _; exact h
    | cons m t ih => intro S h hm; exact ih _ ⟨Bk.put_short h.1 _ _ (hm m (by simp)).k _, Bk.put_ok h.2 _ _ _ _⟩ fun x hx => hm x (by simp [hx])
  exact this L _ ⟨Bk.new_short n, Bk.new_ok n⟩
/-- What a put does to the book that it is for. -/
theorem Bk.put_said {S : Bk.St} (h : S.Ok) (n : Int) (s : Bool) (k v : Bk.Tx) :
    ((S.put n s k v).2 = false ∧ Bk.has (S.of n s) k = false ∧ Bk.has ((S.put n s k v).1.of n s) k = false ∧ ((S.put n s k v).1.of n s).length = (S.of n s).length) ∨
    ((S.put n s k v).2 = true ∧ Bk.has ((S.put n s k v).1.of n s) k = true ∧ (Bk.get ((S.put n s k v).1.of n s) k).getD [] = v ∧ ((S.put n s k v).1.of n s).length = if Bk.has (S.of n s) k then (S.of n s).length else (S.of n s).length + 1) := by
  by_cases hn : 0 ≤ n ∧ n < S.nodes
  · have ho : S.of n s = S.bk n.toNat s := by unfold Bk.St.of; rw [if_pos hn]
    by_cases hf : Bk.has (S.bk n.toNat s) k = false ∧ 16 ≤ (S.bk n.toNat s).length
    · have e : S.put n s k v = ({ S with lost := Bk.bump S.lost }, false) := by unfold Bk.St.put; rw [if_pos hn, if_pos hf]
      left
      rw [e, ho]
      have ho2 : Bk.St.of { S with lost := Bk.bump S.lost } n s = S.bk n.toNat s := by unfold Bk.St.of; rw [if_pos hn]
      rw [ho2]
      exact ⟨rfl, hf.1, hf.1, rfl⟩
    · have e : S.put n s k v = ({ S with bk := fun n' s' => if n' = n.toNat ∧ s' = s then Bk.put (S.bk n.toNat s) k v else S.bk n' s' }, true) := by unfold Bk.St.put; rw [if_pos hn, if_neg hf]
      right
      rw [e, ho]
      have ho2 : Bk.St.of { S with bk := fun n' s' => if n' = n.toNat ∧ s' = s then Bk.put (S.bk n.toNat s) k v else S.bk n' s' } n s = Bk.put (S.bk n.toNat s) k v := by
        unfold Bk.St.of
        rw [if_pos hn]
        simp
      rw [ho2]
      have hg := Bk.get_put (S.bk n.toNat s) k v
      refine ⟨rfl, ?_, by rw [hg]; rfl, Bk.put_len (h.sorted _ _) k v⟩
      rw [← Bk.get_has, hg]; rfl
  · have e : S.put n s k v = (S, false) := by unfold Bk.St.put; rw [if_neg hn]
    have ho : S.of n s = [] := by unfold Bk.St.of; rw [if_neg hn]
    left
    rw [e, ho]
    exact ⟨rfl, rfl, rfl, rfl⟩

/-- A move in a slice: its four cells. -/
theorem move_at {w : World} {b off n cap k : Nat} {L : List Mv4} (h : SlR w 4 (.slice (some ⟨b, off, none⟩) n cap) (L.map Mv4.cells)) (hk : k < L.length) :
    b < w.heap.size ∧ w.cell? ⟨b, off + k * 4, none⟩ = some (.int .i64 L[k].n) ∧ w.cell? ⟨b, off + k * 4 + 1, none⟩ = some (.bool L[k].s) ∧ w.cell? ⟨b, off + k * 4 + 2, none⟩ = some (.string (bs L[k].k)) ∧ w.cell? ⟨b, off + k * 4 + 3, none⟩ = some (.string (bs L[k].v)) := by
  obtain ⟨hb, hc⟩ := h.cells (i := k) (x := L[k].cells) (by rw [List.getElem?_map, List.getElem?_eq_getElem hk]; rfl)
  exact ⟨hb, hc 0 _ rfl, hc 1 _ rfl, hc 2 _ rfl, hc 3 _ rfl⟩

set_option maxHeartbeats 4000000 in
set_option maxRecDepth 100000 in
theorem last36 (a : Int) (A : Option Addr) (cap : Nat) (L : List Mv4) (m : Mv4) (w : World) (hS : SlR w 4 (.slice A L.length cap) (L.map Mv4.cells)) (hL : ∀ x ∈ L, x.ok) (hm : m.ok) :
    Calls Try.prog 12 #[.int .i64 a, .slice A L.length cap, m.val] w fun e w' => e = .returned (.bool true) ∧ Below w.heap.size w w' := by
  have hb1 : Below w.heap.size w (w.alloc (.cells m.cells.toArray 76)) := Below.alloc' (Below.self w) _
  have HB0 := Stow.mk hb1
  have HH := Stow.mk (Held.made w m.cells 76)
  have HS := Stow.mk (SlR.keep hS hb1)
  have HL := Stow.mk hL
  have HM := Stow.mk hm
  obtain ⟨W0, hW0⟩ : ∃ W, w.alloc (.cells m.cells.toArray 76) = W := ⟨_, rfl⟩
  clear hb1 hS hL hm
  unfold Mv4.val
  by_cases hl : 300 < L.length
  · have d1 : decide ((300 : Int) < L.length) = true := by simp; omega
    have d1' : decide (300 < L.length) = true := by simpa using hl
    clear hW0 hl
    go_enter Try.func12, Try.ntmps12
    go_wp2_with fail
    refine (known36_any _).mono ?_
    rintro e wk ⟨rfl, hbk⟩
    have HBK := Stow.mk (HB0.out.trans (hbk.mono HB0.out.size))
    clear hbk
    go_wp2_with fail
    go_ret
    exact ⟨rfl, HBK.out⟩
  have d1 : decide ((300 : Int) < L.length) = false := by simp; omega
  have d1' : decide (300 < L.length) = false := by simpa using hl
  have HN : Stow (L.length ≤ 300) := ⟨by omega⟩
  have HNW := Stow.mk (bkNew_any a W0)
  rw [hW0] at HB0 HH HS
  clear hl
  go_enter Try.func12, Try.ntmps12
  go_wp2_with fail
  rw [show w.alloc (.cells #[.int .i64 m.n, .bool m.s, .string (bs m.k), .string (bs m.v)] 76) = W0 from hW0]
  refine HNW.out.mono ?_
  rintro e w1 ⟨g, rfl, hB, hW⟩
  have HB := Stow.mk hB
  have HW := Stow.mk hW
  clear hB hW hW0
  go_wp2_with fail
  go_loopw [8] (fun u wr => ∃ i : Nat, u = .int .i64 (i : Int) ∧ i ≤ L.length ∧ Stow (∃ F, BKs wr F g (Bk.play a (L.take i)) i ∧ ∀ k, F k → W0.heap.size ≤ k) ∧ Stow (Below W0.heap.size W0 wr)) (fun u _ => L.length - (intOf u).toNat)
  case atStart => exact ⟨0, rfl, by omega, ⟨_, HB.out, fun _ h => h⟩, HW⟩
  case round =>
    obtain ⟨i, rfl, hi, HBX, HWR⟩ := hrel
    have hn := HN.out
    by_cases hlt : i < L.length
    · have HSW := Stow.mk (SlR.keep HS.out HWR.out)
      obtain ⟨b, off, rfl, hblt, _⟩ := HS.out.open (by simp; omega)
      obtain ⟨F, hBF, hF⟩ := HBX.out
      have hok := HL.out _ (List.getElem_mem hlt)
      have HPN := Stow.mk (Bk.play_next a hlt)
      have HSF : Stow (∀ W, Below W0.heap.size W0 W → W.cell? ⟨b, off + i * 4, none⟩ = some (.int .i64 L[i].n) ∧ W.cell? ⟨b, off + i * 4 + 1, none⟩ = some (.bool L[i].s) ∧ W.cell? ⟨b, off + i * 4 + 2, none⟩ = some (.string (bs L[i].k)) ∧ W.cell? ⟨b, off + i * 4 + 3, none⟩ = some (.string (bs L[i].v))) := ⟨fun W h => (move_at (SlR.keep HS.out h) hlt).2⟩
      obtain ⟨x, hx⟩ : ∃ x, L[i] = x := ⟨_, rfl⟩
      rw [hx] at hok HPN HSF
      obtain ⟨xn, xs, xk, xv⟩ := x
      obtain ⟨q0, q1, q2, q3⟩ := HSF.out wr HWR.out
      have HP := Stow.mk (bkPut_b (w0 := W0) xn xs xk xv (hBF.keep (Below.drew (Below.self wr))) (by omega) hok.k hok.v hF (Below.drew HWR.out))
      have hii : (i : Int) < L.length := by omega
      have hi0 : (0 : Int) ≤ i := by omega
      clear hx hBF hF hok
      go_wp2_with fail
      go_region_held3 (fun w' => w'.cell? ⟨b, off + i * 4, none⟩ = some (.int .i64 xn) ∧ w'.cell? ⟨b, off + i * 4 + 1, none⟩ = some (.bool xs) ∧ w'.cell? ⟨b, off + i * 4 + 2, none⟩ = some (.string (bs xk)) ∧ w'.cell? ⟨b, off + i * 4 + 3, none⟩ = some (.string (bs xv))) (first | go_keep | exact hk6)
        (first | (go_at_call 50; refine HP.out.mono ?_; rintro e w5 ⟨rfl, F5, h5, hF5, hb5⟩; have hk6 := HSF.out w5 hb5))
      have HX : Stow (∃ F, BKs w5 F g (Bk.play a (L.take (i + 1))) (i + 1) ∧ ∀ k, F k → W0.heap.size ≤ k) := ⟨F5, by rw [HPN.out]; exact h5, hF5⟩
      have HY := Stow.mk hb5
      clear h5 hF5 hb5 hk6
      go_wp2_with fail
      exact ⟨⟨i + 1, rfl, by omega, HX, HY⟩, by simp [intOf]; omega⟩
    · obtain rfl : i = L.length := by omega
      obtain ⟨F, hBF, hF⟩ := HBX.out
      rw [List.take_length] at hBF
      obtain ⟨hsh, hso⟩ := Bk.play_short a L HL.out
      have hsaid := Bk.put_said hso m.n m.s m.k m.v
      have HSH2 := Stow.mk (Bk.put_short hsh m.n m.s HM.out.k m.v)
      obtain ⟨S, hS⟩ : ∃ S, Bk.play a L = S := ⟨_, rfl⟩
      rw [hS] at hBF hsh hso hsaid HSH2
      have HSA := Stow.mk hsaid
      have HSH := Stow.mk hsh
      have HB := Stow.mk hBF
      have HF := Stow.mk hF
      have hni : ¬ (L.length : Int) < L.length := by omega
      clear hBF hF hS hsh hsaid HBX
      obtain ⟨mn, ms, mk, mv⟩ := m
      simp only at HSA HSH2
      have HMK := Stow.mk HM.out.k
      have HMV := Stow.mk HM.out.v
      have HC : Stow (∀ W, Below W0.heap.size W0 W → W.cell? ⟨w.heap.size, 0, none⟩ = some (.int .i64 mn) ∧ W.cell? ⟨w.heap.size, 1, none⟩ = some (.bool ms) ∧ W.cell? ⟨w.heap.size, 2, none⟩ = some (.string (bs mk)) ∧ W.cell? ⟨w.heap.size, 3, none⟩ = some (.string (bs mv))) := ⟨fun W h => ⟨(HH.out.kept h).cell (i := 0) rfl, (HH.out.kept h).cell (i := 1) rfl, (HH.out.kept h).cell (i := 2) rfl, (HH.out.kept h).cell (i := 3) rfl⟩⟩
      have hfw : (S.of mn ms).length ≤ 16 := by
        unfold Bk.St.of
        split
        · exact hso.few _ _
        · simp
      have HP := fun W (hB : BKs W F g S L.length) (hW : Below W0.heap.size W0 W) => bkPut_b (w0 := W0) mn ms mk mv hB (by have := HN.out; omega) HMK.out HMV.out HF.out hW
      have HGA := fun W F c (hB : BKs W F g S c) => bkGet_any W F g c S mn ms mk hB HMK.out
      have HGB := fun W F c (hB : BKs W F g (S.put mn ms mk mv).1 c) => bkGet_any W F g c _ mn ms mk hB HMK.out
      have HAA := fun W F c (hB : BKs W F g S c) => bkAll_any W F g c S mn ms hB HSH.out
      have HAB := fun W F c (hB : BKs W F g (S.put mn ms mk mv).1 c) => bkAll_any W F g c _ mn ms hB HSH2.out
      obtain ⟨S2, hS2⟩ : ∃ x, (S.put mn ms mk mv).1 = x := ⟨_, rfl⟩
      obtain ⟨ok, hok⟩ : ∃ x, (S.put mn ms mk mv).2 = x := ⟨_, rfl⟩
      rw [hS2, hok] at HP HSA
      rw [hS2] at HGB HAB
      obtain ⟨E1, hE1⟩ : ∃ x, S.of mn ms = x := ⟨_, rfl⟩
      obtain ⟨E2, hE2⟩ : ∃ x, S2.of mn ms = x := ⟨_, rfl⟩
      rw [hE1] at HGA HAA HSA hfw
      have HFW := Stow.mk hfw
      clear hfw hso
      rw [hE2] at HGB HAB HSA
      obtain ⟨g1, hg1⟩ : ∃ x, (Bk.get E1 mk).getD [] = x := ⟨_, rfl⟩
      obtain ⟨g2, hg2⟩ : ∃ x, (Bk.get E2 mk).getD [] = x := ⟨_, rfl⟩
      obtain ⟨r1, hr1⟩ : ∃ x, Bk.has E1 mk = x := ⟨_, rfl⟩
      obtain ⟨r2, hr2⟩ : ∃ x, Bk.has E2 mk = x := ⟨_, rfl⟩
      rw [hg1, hr1] at HGA
      rw [hg2, hr2] at HGB
      rw [hr1, hr2, hg2] at HSA
      have HP := Stow.mk HP
      have HGA := Stow.mk HGA
      have HGB := Stow.mk HGB
      have HAA := Stow.mk HAA
      have HAB := Stow.mk HAB
      clear HM HL hS2 hok hE1 hE2 hg1 hg2 hr1 hr2 HH HSH HSH2 HMK HMV
      obtain ⟨q0, q1, q2, q3⟩ := HC.out wr HWR.out
      go_wp2_with fail
      refine (HAA.out _ _ _ HB.out).mono ?_
      rintro e w2 ⟨A2, c2, rfl, -, hb2⟩
      have HB := Stow.mk (HB.out.keep hb2)
      have HWR := Stow.mk (HWR.out.trans (hb2.mono HWR.out.size))
      clear hb2 q0 q1 q2 q3
      obtain ⟨q0, q1, q2, q3⟩ := HC.out w2 HWR.out
      go_wp2_with fail
      refine (HGA.out _ _ _ HB.out).mono ?_
      rintro e w3 ⟨rfl, hb3⟩
      have HB := Stow.mk (HB.out.keep hb3)
      have HWR := Stow.mk (HWR.out.trans (hb3.mono HWR.out.size))
      clear hb3 q0 q1 q2 q3
      obtain ⟨q0, q1, q2, q3⟩ := HC.out w3 HWR.out
      go_wp2_with fail
      refine (HP.out _ HB.out HWR.out).mono ?_
      rintro e w4 ⟨rfl, F4, hB, hF, hW⟩
      have HB := Stow.mk hB
      have HWR := Stow.mk hW
      clear hB hF hW q0 q1 q2 q3
      obtain ⟨q0, q1, q2, q3⟩ := HC.out w4 HWR.out
      go_wp2_with fail
      refine (HGB.out _ _ _ HB.out).mono ?_
      rintro e w5 ⟨rfl, hb5⟩
      have HB := Stow.mk (HB.out.keep hb5)
      have HWR := Stow.mk (HWR.out.trans (hb5.mono HWR.out.size))
      clear hb5 q0 q1 q2 q3
      obtain ⟨q0, q1, q2, q3⟩ := HC.out w5 HWR.out
      go_wp2_with fail
      refine (HAB.out _ _ _ HB.out).mono ?_
      rintro e w6 ⟨A6, c6, rfl, -, hb6⟩
      have HWR := Stow.mk (HWR.out.trans (hb6.mono HWR.out.size))
      clear hb6 q0 q1 q2 q3
      obtain ⟨q0, q1, q2, q3⟩ := HC.out w6 HWR.out
      rcases HSA.out with ⟨rfl, rfl, rfl, hl⟩ | ⟨rfl, rfl, rfl, hl⟩
      · rw [hl]
        clear hl HSA HP HGA HGB HAA HAB HC HB HF
        go_wp2_with fail
        refine (known36_any _).mono ?_
        rintro e wk ⟨rfl, hbk⟩
        have HBK := Stow.mk (HB0.out.trans ((HWR.out.mono HB0.out.size).trans (hbk.mono (Nat.le_trans HB0.out.size HWR.out.size))))
        clear hbk
        go_wp2_with fail
        go_ret
        exact ⟨rfl, HBK.out⟩
      · have HLN := Stow.mk hl
        have hf := HFW.out
        clear hl HSA HP HGA HGB HAA HAB HC HB HF HFW
        cases r1
        · have hl : E2.length = E1.length + 1 := by simpa using HLN.out
          rw [hl]
          have x1 : (((E1.length + 1 : Nat) : Int) == (E1.length : Int)) = false := by simp; omega
          have x2 : (((E1.length + 1 : Nat) : Int) == IntKind.i64.wrap ((E1.length : Int) + 1)) = true := by rw [IntWalk.i64_in _ (by omega)]; simp
          clear hl HLN
          go_wp2_with fail
          refine (known36_any _).mono ?_
          rintro e wk ⟨rfl, hbk⟩
          have HBK := Stow.mk (HB0.out.trans ((HWR.out.mono HB0.out.size).trans (hbk.mono (Nat.le_trans HB0.out.size HWR.out.size))))
          clear hbk
          go_wp2_with fail
          go_ret
          exact ⟨by simp; omega, HBK.out⟩
        · have hl : E2.length = E1.length := by simpa using HLN.out
          rw [hl]
          clear hl HLN
          go_wp2_with fail
          refine (known36_any _).mono ?_
          rintro e wk ⟨rfl, hbk⟩
          have HBK := Stow.mk (HB0.out.trans ((HWR.out.mono HB0.out.size).trans (hbk.mono (Nat.le_trans HB0.out.size HWR.out.size))))
          clear hbk
          go_wp2_with fail
          go_ret
          exact ⟨rfl, HBK.out⟩
theorem last36_at (v0 v1 v2 : Value) (w : World) (a : Int) (m : Mv4) (h0 : v0 = .int .i64 a) (h1 : pSlice w 4 moveCells v1) (h2 : v2 = m.val) (hm : m.ok) :
    Calls Try.prog 12 #[v0, v1, v2] w fun e w' => e = .returned (.bool true) ∧ Below w.heap.size w w' := by
  subst h0 h2
  obtain ⟨L, A, cap, rfl, hS, hL⟩ := moves_of h1
  exact last36 a A cap L m w hS hL hm
end Go.Proofs.Ythbpcdoddcacdaa
