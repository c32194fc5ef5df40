/- Walks of tstate.Put, and of the reference's Put, Get, Same, Few. Conditions: a slice's own; texts no longer than 2^47. -/
import Derived.Test.YtfbhdkkmcfnghaaGreatDoorTsCheck
namespace Go.Proofs.YtfbhdkkmcfnghaaGreatDoor
open Go.RowKit
set_option linter.unusedVariables false

/-- Members of a call's own. -/
def MRow (w : World) (B : Nat) (v : Value) (L : List Hd) : Prop := w.ownsRow B 121 2 v L.length (L.flatMap Hd.cells)
theorem info_member : (Tryz.prog.info? 121).map (fun i => (i.zero, i.size, i.bytes)) = some (some (.agg #[.string ⟨#[]⟩, .string ⟨#[]⟩]), 2, 32) := by kernel_rfl
theorem MRow.slr {w : World} {B : Nat} {v : Value} {L : List Hd} (h : MRow w B v L) : SlR w 2 v (L.map Hd.cells) := by
  refine SlR.of_own h (by simp) fun i x hi j u hu => ?_
  have e : L.flatMap Hd.cells = (L.map Hd.cells).flatten := by rw [List.flatMap_def]
  rw [e]
  exact flat_at (c := 2) (fun x hx => by obtain ⟨m, _, rfl⟩ := List.mem_map.1 hx; rfl) i x hi j u hu
theorem MRow.nil (w : World) (B : Nat) : MRow w B (.slice none 0 0) [] := ⟨rfl, .inl ⟨rfl, rfl⟩⟩
theorem MRow.one (w : World) (B : Nat) (k v : List UInt8) (hB : B ≤ w.heap.size) : MRow (w.alloc (.cells #[.string (bs k), .string (bs v)] 121)) B (.slice (some ⟨w.heap.size, 0, none⟩) 1 1) [(k, v)] :=
  ⟨rfl, .inr ⟨w.heap.size, 1, _, rfl, hB, heap_alloc_new w _, Nat.le_refl _, by unfold maxLen; omega, rfl, rfl⟩⟩
theorem MRow.kept {w w' : World} {B : Nat} {v : Value} {L : List Hd} (h : MRow w B v L) (hb : Below w.heap.size w w') : MRow w' B v L := own_kept h hb
theorem MRow.form {w : World} {B : Nat} {v : Value} {L : List Hd} (h : MRow w B v L) : ∃ A cap, v = .slice A L.length cap := own_form h

def Ts.acc (l : List Hd) (k v : List UInt8) (j : Nat) : List Hd := ((k, v) :: Ts.others (l.take j) k).take 32
theorem Ts.acc_zero (l : List Hd) (k v : List UInt8) : Ts.acc l k v 0 = [(k, v)] := by simp [Ts.acc, Ts.others]
theorem Ts.acc_end {l : List Hd} {k v : List UInt8} (hk : Ts.keyOk k = true) (hv : Ts.valOk v = true) : Ts.put l k v = (Ts.acc l k v l.length, 0) := by
  unfold Ts.put Ts.acc
  rw [if_neg (by simp [hk, hv]), List.take_length]
theorem Ts.put_bad {l : List Hd} {k v : List UInt8} (h : Ts.keyOk k = false ∨ Ts.valOk v = false) : Ts.put l k v = ([], 3) := by
  unfold Ts.put
  rw [if_pos (by rcases h with h | h <;> simp [h])]
theorem Ts.acc_len (l : List Hd) (k v : List UInt8) (j : Nat) : (Ts.acc l k v j).length ≤ 32 ∧ 1 ≤ (Ts.acc l k v j).length := by
  simp [Ts.acc]
  omega
theorem Ts.acc_yes {l : List Hd} {k v : List UInt8} {j : Nat} (h : j < l.length) (hc : (l[j].1 == k) = false) (hf : (Ts.acc l k v j).length < 32) : Ts.acc l k v (j + 1) = Ts.acc l k v j ++ [l[j]] := by
  unfold Ts.acc at *
  rw [Ts.others_next h, if_pos (by simpa using hc)]
  generalize Ts.others (l.take j) k = Q at *
  have h1 : Q.length + 1 < 32 := by simp at hf; omega
  rw [List.take_of_length_le (l := (k, v) :: (Q ++ [l[j]])) (by simp; omega), List.take_of_length_le (l := (k, v) :: Q) (by simp; omega)]
  rfl
theorem Ts.acc_no {l : List Hd} {k v : List UInt8} {j : Nat} (h : j < l.length) (hc : (l[j].1 == k) = true) : Ts.acc l k v (j + 1) = Ts.acc l k v j := by
  unfold Ts.acc
  rw [Ts.others_next h, if_neg (by simpa using hc)]
  simp
theorem Ts.acc_full {l : List Hd} {k v : List UInt8} {j : Nat} (h : j < l.length) (hf : ¬ (Ts.acc l k v j).length < 32) : Ts.acc l k v (j + 1) = Ts.acc l k v j := by
  cases hc : l[j].1 == k
  · unfold Ts.acc at *
    rw [Ts.others_next h, if_pos (by simpa using hc)]
    generalize Ts.others (l.take j) k = Q at *
    have h1 : 32 ≤ ((k, v) :: Q).length := by simp at hf ⊢; omega
    rw [← List.cons_append, List.take_append_of_le_length h1]
  · exact Ts.acc_no h hc
theorem Ts.acc_stay {l : List Hd} {k v : List UInt8} {j : Nat} (hf : ¬ (Ts.acc l k v j).length < 32) : ∀ n, j + n ≤ l.length → Ts.acc l k v (j + n) = Ts.acc l k v j
  | 0, _ => rfl
  | n + 1, h => by
    have ih := Ts.acc_stay hf n (by omega)
    rw [← Nat.add_assoc, Ts.acc_full (by omega) (by rw [ih]; exact hf), ih]

/-- What Put leaves. -/
def MembersOf (w : World) (r : List Hd × Nat) (e : Ending) (w' : World) : Prop :=
  ∃ v, e = .returned (.tuple #[v, .int .i64 (r.2 : Int)]) ∧ MRow w' w.heap.size v r.1 ∧ Below w.heap.size w w'


set_option maxHeartbeats 1000000 in
set_option maxRecDepth 100000 in
theorem tsPut_any (k v : List UInt8) (A : Option Addr) (cap : Nat) (L : List Hd) (w : World) (hS : SlR w 2 (.slice A L.length cap) (L.map Hd.cells)) (hk : k.length ≤ 9223372036854775807) (hv : v.length ≤ 9223372036854775807) :
    Calls Tryz.prog 75 #[.slice A L.length cap, .string (bs k), .string (bs v)] w (MembersOf w (Ts.put L k v)) := by
  have HS := Stow.mk hS
  have hlen := hS.len
  simp only [List.length_map] at hlen
  clear hS
  obtain ⟨c1, hc1⟩ : ∃ c, Ts.keyOk k = c := ⟨_, rfl⟩
  obtain ⟨c2, hc2⟩ : ∃ c, Ts.valOk v = c := ⟨_, rfl⟩
  have H1 := Stow.mk hc1
  have H2 := Stow.mk hc2
  clear hc1 hc2
  cases c1
  · have HP := Stow.mk (Ts.put_bad (l := L) (k := k) (v := v) (.inl H1.out))
    go_enter Tryz.func75, Tryz.ntmps75
    go_wp2_with fail
    refine (tsKey_any k _ hk).mono ?_
    rw [H1.out]
    rintro e w1 ⟨rfl, rfl⟩
    go_wp2_with fail
    go_ret2
    rw [HP.out]
    exact ⟨_, rfl, MRow.nil _ _, Below.self _⟩
  cases c2
  · have HP := Stow.mk (Ts.put_bad (l := L) (k := k) (v := v) (.inr H2.out))
    go_enter Tryz.func75, Tryz.ntmps75
    go_wp2_with fail
    refine (tsKey_any k _ hk).mono ?_
    rw [H1.out]
    rintro e w1 ⟨rfl, rfl⟩
    go_wp2_with fail
    refine (tsValue_any v _ hv).mono ?_
    rw [H2.out]
    rintro e w1 ⟨rfl, rfl⟩
    go_wp2_with fail
    go_ret2
    rw [HP.out]
    exact ⟨_, rfl, MRow.nil _ _, Below.self _⟩
  have HP := Stow.mk (Ts.acc_end (l := L) H1.out H2.out)
  have HZ := Stow.mk (Ts.acc_zero L k v)
  by_cases h0 : L.length = 0
  · obtain rfl := List.eq_nil_of_length_eq_zero h0
    go_enter Tryz.func75, Tryz.ntmps75
    go_wp2_with fail
    refine (tsKey_any k _ hk).mono ?_
    rw [H1.out]
    rintro e w1 ⟨rfl, rfl⟩
    go_wp2_with fail
    refine (tsValue_any v _ hv).mono ?_
    rw [H2.out]
    rintro e w1 ⟨rfl, rfl⟩
    go_wp2_with fail
    go_loopw [8, 25] (fun o c wr => o = .slice (some ⟨w1.heap.size, 0, none⟩) 1 1 ∧ c = .int .i64 0 ∧ wr = w1.alloc (.cells #[.string (bs k), .string (bs v)] 121)) (fun _ _ _ => 0)
    case atStart => exact ⟨rfl, rfl, rfl⟩
    case round =>
      obtain ⟨rfl, rfl, rfl⟩ := hrel
      go_wp2_with fail
      go_ret2
      rw [HP.out]
      exact ⟨_, rfl, MRow.one w1 _ k v (Nat.le_refl _), Below.alloc' (Below.self _) _⟩
  obtain ⟨b, off, rfl, hblt, _⟩ := HS.out.open (by simp; omega)
  clear h0
  go_enter Tryz.func75, Tryz.ntmps75
  go_wp2_with fail
  refine (tsKey_any k _ hk).mono ?_
  rw [H1.out]
  rintro e w1 ⟨rfl, rfl⟩
  go_wp2_with fail
  refine (tsValue_any v _ hv).mono ?_
  rw [H2.out]
  rintro e w1 ⟨rfl, rfl⟩
  go_wp2_with fail
  go_loopw [8, 25] (fun o c wr => ∃ j cp A, o = .slice A (Ts.acc L k v j).length cp ∧ c = .int .i64 (j : Nat) ∧ j ≤ L.length ∧ MRow wr w1.heap.size o (Ts.acc L k v j) ∧ Below w1.heap.size w1 wr) (fun _ v _ => L.length - (intOf v).toNat)
  case atStart => exact ⟨0, 1, _, by rw [HZ.out]; rfl, rfl, by omega, by rw [HZ.out]; exact MRow.one w1 _ k v (Nat.le_refl _), Below.alloc' (Below.self _) _⟩
  case round =>
    obtain ⟨j, cp, A, rfl, rfl, hj, hown, hbr⟩ := hrel
    by_cases hlt : j < L.length
    · have hsp := head_at (HS.out.keep hbr) hlt
      have hal := Ts.acc_len L k v j
      have ay := fun h1 h2 => Ts.acc_yes (k := k) (v := v) hlt h1 h2
      have an := fun h1 => Ts.acc_no (k := k) (v := v) hlt h1
      have af := fun h1 => Ts.acc_full (k := k) (v := v) hlt h1
      obtain ⟨s, hs⟩ : ∃ s, L[j] = s := ⟨_, rfl⟩
      rw [hs] at hsp ay an
      have AY := Stow.mk ay
      have AN := Stow.mk an
      have AF := Stow.mk af
      clear hs ay an af
      obtain ⟨x, y⟩ := s
      obtain ⟨hltb, q0, q1⟩ := hsp
      simp only at q0 q1 AY AN
      generalize Ts.acc L k v j = acc at *
      obtain ⟨c, hc⟩ : ∃ c, (x == k) = c := ⟨_, rfl⟩
      have HCS := Stow.mk hc
      have hcn : (!(x == k)) = !c := by rw [hc]
      have HO := Stow.mk (hown.kept (Below.alloc' (Below.self wr) (.cells #[.string (bs x), .string (bs y)] 121)))
      have HBR := Stow.mk hbr
      clear hbr hown
      cases c
      · by_cases hf : acc.length < 32
        · have HN := Stow.mk (AY.out HCS.out hf)
          have k1 : ∀ u ∈ [Value.string (bs x), Value.string (bs y)], u.oneCell' = true := by intro u hu; simp at hu; rcases hu with rfl | rfl <;> rfl
          have K1 := Stow.mk k1
          clear k1
          have K2 : Stow ((acc.length + 1) * 32 ≤ 140737488355328) := ⟨by omega⟩
          have K3 : Stow (acc.length + 1 ≤ maxLen) := ⟨by unfold maxLen; omega⟩
          have K4 : Stow (w1.heap.size ≤ (wr.alloc (.cells #[.string (bs x), .string (bs y)] 121)).heap.size) := ⟨by have := HBR.out.size; simp; omega⟩
          go_wp2_with (at_builtin; refine wpList_append_elem_form _ _ _ rfl (.tmp 38) (.tmp 40) 70 rfl w1.heap.size 121 _ 2 32 Tryz.underlying70 info_member _ _ _ HO.out rfl _ rfl (by simp) rfl (by decide) rfl K1.out K2.out K3.out K4.out ?_; intro A4 cap4 w4 hown4 hg4 hb4 hs4)
          refine ⟨⟨j + 1, cap4, A4, by rw [HN.out]; simp, rfl, by omega, by rw [HN.out]; simpa [MRow, Hd.cells] using hown4, (Below.alloc' HBR.out _).trans hb4⟩, by simp [intOf]; omega⟩
        · have HN := Stow.mk (AF.out hf)
          go_wp2_with fail
          exact ⟨⟨j + 1, cp, A, by rw [HN.out], rfl, by omega, by rw [HN.out]; exact HO.out, Below.alloc' HBR.out _⟩, by simp [intOf]; omega⟩
      · have HN := Stow.mk (AN.out HCS.out)
        go_wp2_with fail
        exact ⟨⟨j + 1, cp, A, by rw [HN.out], rfl, by omega, by rw [HN.out]; exact HO.out, Below.alloc' HBR.out _⟩, by simp [intOf]; omega⟩
    · obtain rfl : j = L.length := by omega
      have HO := Stow.mk hown
      go_wp2_with fail
      go_ret2
      rw [HP.out]
      exact ⟨_, rfl, HO.out, hbr⟩

set_option maxHeartbeats 1000000 in
set_option maxRecDepth 100000 in
theorem tsRefPut_any (k v : List UInt8) (A : Option Addr) (cap : Nat) (L : List Hd) (w : World) (hS : SlR w 2 (.slice A L.length cap) (L.map Hd.cells)) (hk : k.length ≤ 9223372036854775807) (hv : v.length ≤ 9223372036854775807) :
    Calls Tryz.prog 39 #[.slice A L.length cap, .string (bs k), .string (bs v)] w (MembersOf w (Ts.put L k v)) := by
  have HS := Stow.mk hS
  have hlen := hS.len
  simp only [List.length_map] at hlen
  clear hS
  obtain ⟨c1, hc1⟩ : ∃ c, Ts.keyOk k = c := ⟨_, rfl⟩
  obtain ⟨c2, hc2⟩ : ∃ c, Ts.valOk v = c := ⟨_, rfl⟩
  have H1 := Stow.mk hc1
  have H2 := Stow.mk hc2
  clear hc1 hc2
  cases c1
  · have HP := Stow.mk (Ts.put_bad (l := L) (k := k) (v := v) (.inl H1.out))
    go_enter Tryz.func39, Tryz.ntmps39
    go_wp2_with fail
    refine (tsRefKey_any k _ hk).mono ?_
    rw [H1.out]
    rintro e w1 ⟨rfl, rfl⟩
    go_wp2_with fail
    go_ret2
    rw [HP.out]
    exact ⟨_, rfl, MRow.nil _ _, Below.self _⟩
  cases c2
  · have HP := Stow.mk (Ts.put_bad (l := L) (k := k) (v := v) (.inr H2.out))
    go_enter Tryz.func39, Tryz.ntmps39
    go_wp2_with fail
    refine (tsRefKey_any k _ hk).mono ?_
    rw [H1.out]
    rintro e w1 ⟨rfl, rfl⟩
    go_wp2_with fail
    refine (tsRefValue_any v _ hv).mono ?_
    rw [H2.out]
    rintro e w1 ⟨rfl, rfl⟩
    go_wp2_with fail
    go_ret2
    rw [HP.out]
    exact ⟨_, rfl, MRow.nil _ _, Below.self _⟩
  have HP := Stow.mk (Ts.acc_end (l := L) H1.out H2.out)
  have HZ := Stow.mk (Ts.acc_zero L k v)
  have HAB : Stow (∀ A b off, A = some (Addr.mk b off none) → L = [] ∨ A = A) := ⟨fun _ _ _ _ => .inr rfl⟩
  clear HAB
  have k1 : ∀ u ∈ [Value.string (bs k), Value.string (bs v)], u.oneCell' = true := by intro u hu; simp at hu; rcases hu with rfl | rfl <;> rfl
  have K1 := Stow.mk k1
  clear k1
  have HO1 : Stow (MRow w w.heap.size (.slice none 0 0) []) := ⟨MRow.nil _ _⟩
  have K2 : Stow ((0 + 1) * 32 ≤ 140737488355328) := ⟨by omega⟩
  have K3 : Stow (0 + 1 ≤ maxLen) := ⟨by unfold maxLen; omega⟩
  go_enter Tryz.func39, Tryz.ntmps39
  go_wp2_with fail
  refine (tsRefKey_any k _ hk).mono ?_
  rw [H1.out]
  rintro e w1 ⟨rfl, rfl⟩
  go_wp2_with fail
  refine (tsRefValue_any v _ hv).mono ?_
  rw [H2.out]
  rintro e w1 ⟨rfl, rfl⟩
  go_wp2_with (at_builtin; refine wpList_append_elem_form _ _ _ rfl (.tmp 18) (.tmp 22) 70 rfl w1.heap.size 121 _ 2 32 Tryz.underlying70 info_member _ _ _ HO1.out rfl _ rfl rfl rfl (by decide) rfl K1.out K2.out K3.out (Nat.le_refl _) ?_; intro A0 cap0 w0 hown0 hg0 hb0 hs0)
  go_loopw [8, 9] (fun o c wr => ∃ j cp A, o = .slice A (Ts.acc L k v j).length cp ∧ c = .int .i64 (j : Nat) ∧ j ≤ L.length ∧ MRow wr w1.heap.size o (Ts.acc L k v j) ∧ Below w1.heap.size w1 wr) (fun _ v _ => L.length - (intOf v).toNat)
  case atStart => exact ⟨0, cap0, _, by rw [HZ.out]; rfl, rfl, by omega, by rw [HZ.out]; exact hown0, hb0⟩
  case round =>
    obtain ⟨j, cp, A1, rfl, rfl, hj, hown, hbr⟩ := hrel
    by_cases hlt : j < L.length
    · obtain ⟨b, off, rfl, hblt, _⟩ := HS.out.open (by simp; omega)
      have hsp := head_at (HS.out.keep hbr) hlt
      have hal := Ts.acc_len L k v j
      have ay := fun h1 h2 => Ts.acc_yes (k := k) (v := v) hlt h1 h2
      have an := fun h1 => Ts.acc_no (k := k) (v := v) hlt h1
      have AST : Stow (¬ (Ts.acc L k v j).length < 32 → Ts.acc L k v L.length = Ts.acc L k v j) := ⟨fun h => by
        have := Ts.acc_stay h (L.length - j) (by omega)
        rwa [Nat.add_sub_cancel' (by omega)] at this⟩
      obtain ⟨s, hs⟩ : ∃ s, L[j] = s := ⟨_, rfl⟩
      rw [hs] at hsp ay an
      have AY := Stow.mk ay
      have AN := Stow.mk an
      clear hs ay an
      obtain ⟨x, y⟩ := s
      obtain ⟨hltb, q0, q1⟩ := hsp
      simp only at q0 q1 AY AN
      generalize Ts.acc L k v j = acc at *
      have HO := Stow.mk hown
      have HBR := Stow.mk hbr
      clear hbr hown
      have hji : (j : Int) < L.length := by omega
      by_cases hf : acc.length < 32
      · obtain ⟨c, hc⟩ : ∃ c, (x == k) = c := ⟨_, rfl⟩
        have HCS := Stow.mk hc
        have hcn : (!(x == k)) = !c := by rw [hc]
        cases c
        · have HN := Stow.mk (AY.out HCS.out hf)
          have k1 : ∀ u ∈ [Value.string (bs x), Value.string (bs y)], u.oneCell' = true := by intro u hu; simp at hu; rcases hu with rfl | rfl <;> rfl
          have K5 := Stow.mk k1
          clear k1
          have K6 : Stow ((acc.length + 1) * 32 ≤ 140737488355328) := ⟨by omega⟩
          have K7 : Stow (acc.length + 1 ≤ maxLen) := ⟨by unfold maxLen; omega⟩
          have K8 := Stow.mk HBR.out.size
          go_wp2_with (at_builtin; refine wpList_append_elem_form _ _ _ rfl (.tmp 42) (.tmp 47) 70 rfl w1.heap.size 121 _ 2 32 Tryz.underlying70 info_member _ _ _ HO.out rfl _ rfl rfl rfl (by decide) rfl K5.out K6.out K7.out K8.out ?_; intro A4 cap4 w4 hown4 hg4 hb4 hs4)
          exact ⟨⟨j + 1, cap4, A4, by rw [HN.out]; simp, rfl, by omega, by rw [HN.out]; simpa [MRow, Hd.cells] using hown4, HBR.out.trans hb4⟩, by simp [intOf]; omega⟩
        · have HN := Stow.mk (AN.out HCS.out)
          go_wp2_with fail
          exact ⟨⟨j + 1, cp, A1, by rw [HN.out], rfl, by omega, by rw [HN.out]; exact HO.out, HBR.out⟩, by simp [intOf]; omega⟩
      · have HN := Stow.mk (AST.out hf)
        go_wp2_with fail
        go_ret2
        rw [HP.out, HN.out]
        exact ⟨_, rfl, HO.out, HBR.out⟩
    · obtain rfl : j = L.length := by omega
      have HO := Stow.mk hown
      go_wp2_with fail
      go_ret2
      rw [HP.out]
      exact ⟨_, rfl, HO.out, hbr⟩

def fewT (L : List Hd) : Bool := decide (L.length ≤ 60) && L.all fun m => decide (m.1.length + m.2.length ≤ 400)
theorem fewT_few {L : List Hd} (h : fewT L = true) : L.length ≤ 60 ∧ ∀ m ∈ L, m.1.length + m.2.length ≤ 400 := by
  simpa [fewT, List.all_eq_true] using h

end Go.Proofs.YtfbhdkkmcfnghaaGreatDoor
