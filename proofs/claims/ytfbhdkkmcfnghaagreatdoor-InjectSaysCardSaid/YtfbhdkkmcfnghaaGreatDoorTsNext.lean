/- Walks of tstate.next and Check, and of the reference's one and Check. Conditions: a slice's own; texts no longer than an int can say. -/
import Derived.Test.YtfbhdkkmcfnghaaGreatDoorTsRefByte
import Derived.Test.YtfbhdkkmcfnghaaGreatDoorTsFind
import Derived.BigQuiet
namespace Go.Proofs.YtfbhdkkmcfnghaaGreatDoor
open Go.RowKit
set_option linter.unusedVariables false

theorem hdAt_any {L : List Hd} {k : List UInt8} : L.any (fun x => x.1 == k) = (hdAt L k).isSome := by
  unfold hdAt
  rw [Bool.eq_iff_iff]
  simp [List.any_eq_true]
theorem Ts.next_bad {L : List Hd} {k v : List UInt8} (h : Ts.keyOk k = false ∨ Ts.valOk v = false) : Ts.next L (k, v) = 3 := by
  unfold Ts.next
  rw [if_pos (by rcases h with h | h <;> simp [h])]
theorem Ts.next_twice {L : List Hd} {k v : List UInt8} (h : Ts.keyOk k = true) (h2 : Ts.valOk v = true) (h3 : L.any (fun x => x.1 == k) = true) : Ts.next L (k, v) = 10 := by
  unfold Ts.next
  rw [if_neg (by simp [h, h2]), if_pos h3]
theorem Ts.next_full {L : List Hd} {k v : List UInt8} (h : Ts.keyOk k = true) (h2 : Ts.valOk v = true) (h3 : L.any (fun x => x.1 == k) = false) : Ts.next L (k, v) = if 32 ≤ L.length then 8 else 0 := by
  unfold Ts.next
  rw [if_neg (by simp [h, h2]), if_neg (by simp [h3])]

set_option maxHeartbeats 400000 in
set_option maxRecDepth 100000 in
theorem tsNext_any (k v : List UInt8) (A : Option Addr) (n cap : Nat) (L : List Hd) (hn : n = L.length) (w : World) (hS : SlR w 2 (.slice A n cap) (L.map Hd.cells)) (hk : k.length ≤ 9223372036854775807) (hv : v.length ≤ 9223372036854775807) :
    Calls Tryz.prog 129 #[.slice A n cap, .agg #[.string (bs k), .string (bs v)]] w fun e w' => e = .returned (.int .i64 (Ts.next L (k, v) : Nat)) ∧ Below w.heap.size w w' := by
  subst hn
  have HS := Stow.mk hS
  have hlen := hS.len
  simp only [List.length_map] at hlen
  clear hS
  obtain ⟨c1, hc1⟩ : ∃ c, Ts.keyOk k = c := ⟨_, rfl⟩
  obtain ⟨c2, hc2⟩ : ∃ c, Ts.valOk v = c := ⟨_, rfl⟩
  have H1 := Stow.mk hc1
  have H2 := Stow.mk hc2
  clear hc1 hc2
  cases c1
  · go_enter Tryz.func129, Tryz.ntmps129
    go_wp2_with fail
    refine (tsKey_any k _ hk).mono ?_
    rw [H1.out]
    rintro e w1 ⟨rfl, rfl⟩
    go_wp2_with fail
    go_ret
    refine ⟨by rw [Ts.next_bad (.inl H1.out)]; rfl, ?_⟩
    (repeat (first | exact Below.self _ | refine Below.alloc' ?_ _ | refine Below.drew ?_ | refine Below.drewN' ?_ _ | (refine Below.call ?_ (by assumption))))
  cases c2
  · go_enter Tryz.func129, Tryz.ntmps129
    go_wp2_with fail
    refine (tsKey_any k _ hk).mono ?_
    rw [H1.out]
    rintro e w1 ⟨rfl, rfl⟩
    go_wp2_with fail
    refine (tsValue_any v _ hv).mono ?_
    rw [H2.out]
    rintro e w1 ⟨rfl, rfl⟩
    go_wp2_with fail
    go_ret
    refine ⟨by rw [Ts.next_bad (.inr H2.out)]; rfl, ?_⟩
    (repeat (first | exact Below.self _ | refine Below.alloc' ?_ _ | refine Below.drew ?_ | refine Below.drewN' ?_ _ | (refine Below.call ?_ (by assumption))))
  obtain ⟨o, ho⟩ : ∃ o, hdAt L k = o := ⟨_, rfl⟩
  have HO := Stow.mk ho
  have HA := Stow.mk (hdAt_any (L := L) (k := k))
  clear ho
  go_enter Tryz.func129, Tryz.ntmps129
  go_wp2_with fail
  refine (tsKey_any k _ hk).mono ?_
  rw [H1.out]
  rintro e w1 ⟨rfl, rfl⟩
  go_wp2_with fail
  refine (tsValue_any v _ hv).mono ?_
  rw [H2.out]
  rintro e w1 ⟨rfl, rfl⟩
  go_wp2_with fail
  refine (tsFind_any k A cap L _ (HS.out.alloc _)).mono ?_
  rw [HO.out]
  rintro e w1 ⟨rfl, hb⟩
  have HBL := Stow.mk (Below.call (Below.alloc' (Below.self w) _) hb)
  clear hb
  cases o with
  | some i =>
    have hge : (0 : Int) ≤ (i : Int) := by omega
    simp only [atInt]
    go_wp2_with fail
    go_ret
    exact ⟨by rw [Ts.next_twice H1.out H2.out (by rw [HA.out, HO.out]; rfl)]; rfl, HBL.out⟩
  | none =>
    simp only [atInt]
    by_cases h32 : 32 ≤ L.length
    · have HN : Stow (Ts.next L (k, v) = 8) := ⟨by rw [Ts.next_full H1.out H2.out (by rw [HA.out, HO.out]; rfl), if_pos h32]⟩
      go_wp2_with fail
      go_ret
      exact ⟨by rw [HN.out]; rfl, HBL.out⟩
    · have HN : Stow (Ts.next L (k, v) = 0) := ⟨by rw [Ts.next_full H1.out H2.out (by rw [HA.out, HO.out]; rfl), if_neg h32]⟩
      go_wp2_with fail
      go_ret
      exact ⟨by rw [HN.out]; rfl, HBL.out⟩

theorem hd_any_none {L : List Hd} {k : List UInt8} (h : ∀ x ∈ L, (x.1 == k) = false) : L.any (fun x => x.1 == k) = false := by
  rw [List.any_eq_false]
  intro x hx
  simp [h x hx]

set_option maxHeartbeats 1000000 in
set_option maxRecDepth 100000 in
theorem tsOne_any (k v : List UInt8) (A : Option Addr) (n cap : Nat) (L : List Hd) (hn : n = L.length) (w : World) (hS : SlR w 2 (.slice A n cap) (L.map Hd.cells)) (hk : k.length ≤ 9223372036854775807) (hv : v.length ≤ 9223372036854775807) :
    Calls Tryz.prog 83 #[.slice A n cap, .agg #[.string (bs k), .string (bs v)]] w fun e w' => e = .returned (.int .i64 (Ts.next L (k, v) : Nat)) ∧ Below w.heap.size w w' := by
  subst hn
  have HS := Stow.mk hS
  have hlen := hS.len
  simp only [List.length_map] at hlen
  clear hS
  obtain ⟨c1, hc1⟩ : ∃ c, Ts.keyOk k = c := ⟨_, rfl⟩
  obtain ⟨c2, hc2⟩ : ∃ c, Ts.valOk v = c := ⟨_, rfl⟩
  have H1 := Stow.mk hc1
  have H2 := Stow.mk hc2
  clear hc1 hc2
  cases c1
  · go_enter Tryz.func83, Tryz.ntmps83
    go_wp2_with fail
    refine (tsRefKey_any k _ hk).mono ?_
    rw [H1.out]
    rintro e w1 ⟨rfl, rfl⟩
    go_wp2_with fail
    go_ret
    refine ⟨by rw [Ts.next_bad (.inl H1.out)]; rfl, ?_⟩
    (repeat (first | exact Below.self _ | refine Below.alloc' ?_ _ | refine Below.drew ?_ | refine Below.drewN' ?_ _ | (refine Below.call ?_ (by assumption))))
  cases c2
  · go_enter Tryz.func83, Tryz.ntmps83
    go_wp2_with fail
    refine (tsRefKey_any k _ hk).mono ?_
    rw [H1.out]
    rintro e w1 ⟨rfl, rfl⟩
    go_wp2_with fail
    refine (tsRefValue_any v _ hv).mono ?_
    rw [H2.out]
    rintro e w1 ⟨rfl, rfl⟩
    go_wp2_with fail
    go_ret
    refine ⟨by rw [Ts.next_bad (.inr H2.out)]; rfl, ?_⟩
    (repeat (first | exact Below.self _ | refine Below.alloc' ?_ _ | refine Below.drew ?_ | refine Below.drewN' ?_ _ | (refine Below.call ?_ (by assumption))))
  have HF := Stow.mk (fun h => Ts.next_full (L := L) H1.out H2.out h)
  have HTW := Stow.mk (fun h => Ts.next_twice (L := L) H1.out H2.out h)
  by_cases h0 : L.length = 0
  · obtain rfl := List.eq_nil_of_length_eq_zero h0
    have HN : Stow (Ts.next [] (k, v) = 0) := ⟨by rw [HF.out rfl]; rfl⟩
    clear hlen
    simp only [List.length_nil]
    go_enter Tryz.func83, Tryz.ntmps83
    go_wp2_with fail
    refine (tsRefKey_any k _ hk).mono ?_
    rw [H1.out]
    rintro e w1 ⟨rfl, rfl⟩
    go_wp2_with fail
    refine (tsRefValue_any v _ hv).mono ?_
    rw [H2.out]
    rintro e w1 ⟨rfl, rfl⟩
    go_wp2_with fail
    go_loopw [5] (fun v wr => v = .int .i64 0 ∧ Below w.heap.size w wr) (fun _ _ => 0)
    case atStart => exact ⟨rfl, Below.alloc' (Below.self _) _⟩
    case round =>
      obtain ⟨rfl, hbr⟩ := hrel
      go_wp2_with fail
      go_ret
      exact ⟨by rw [HN.out]; rfl, hbr⟩
  obtain ⟨b, off, rfl, hblt, _⟩ := HS.out.open (by simp; omega)
  clear h0
  go_enter Tryz.func83, Tryz.ntmps83
  go_wp2_with fail
  refine (tsRefKey_any k _ hk).mono ?_
  rw [H1.out]
  rintro e w1 ⟨rfl, rfl⟩
  go_wp2_with fail
  refine (tsRefValue_any v _ hv).mono ?_
  rw [H2.out]
  rintro e w1 ⟨rfl, rfl⟩
  go_wp2_with fail
  go_loopw [5] (fun c wr => ∃ j : Nat, c = .int .i64 j ∧ j ≤ L.length ∧ Stow (∀ x ∈ L.take j, (x.1 == k) = false) ∧ Below w.heap.size w wr ∧ Held wr w.heap.size [.string (bs k), .string (bs v)]) (fun v _ => L.length - (intOf v).toNat)
  case atStart => exact ⟨0, rfl, by omega, ⟨by simp⟩, Below.alloc' (Below.self _) _, Held.made w [.string (bs k), .string (bs v)] _⟩
  case round =>
    obtain ⟨j, rfl, hj, HJ, hbr, hH⟩ := hrel
    by_cases hlt : j < L.length
    · have hsp := head_at (HS.out.keep hbr) hlt
      obtain ⟨s, hs⟩ : ∃ s, L[j] = s := ⟨_, rfl⟩
      have HSJ := Stow.mk hs
      rw [hs] at hsp
      clear hs
      obtain ⟨x, y⟩ := s
      obtain ⟨hltb, q0, q1⟩ := hsp
      simp only at q0 q1
      have g0 := hH.cell (i := 0) rfl
      obtain ⟨c, hc⟩ : ∃ c, (x == k) = c := ⟨_, rfl⟩
      have HCS := Stow.mk hc
      have HBR := Stow.mk hbr
      have HH := Stow.mk hH
      have hji : (j : Int) < L.length := by omega
      clear hH hbr
      cases c
      · go_wp2_with fail
        go_quiet (fail)
        go_wp2_with fail
        exact ⟨⟨j + 1, rfl, by omega, ⟨hd_take_succ hlt HJ.out (by rw [HSJ.out, HCS.out])⟩, Below.drewN' HBR.out _, HH.out.kept (Below.drewN' (Below.self _) _)⟩, by simp [intOf]; omega⟩
      · go_wp2_with fail
        go_quiet (fail)
        go_wp2_with fail
        go_ret
        refine ⟨?_, Below.drewN' HBR.out _⟩
        rw [HTW.out (List.any_eq_true.2 ⟨L[j], List.getElem_mem hlt, by rw [HSJ.out]; exact HCS.out⟩)]
        rfl
    · obtain rfl : j = L.length := by omega
      have hJ := HJ.out
      rw [List.take_length] at hJ
      have HN := Stow.mk (HF.out (hd_any_none hJ))
      clear hJ
      by_cases h32 : 32 ≤ L.length
      · go_wp2_with fail
        go_ret
        exact ⟨by rw [HN.out, if_pos h32]; rfl, hbr⟩
      · go_wp2_with fail
        go_ret
        exact ⟨by rw [HN.out, if_neg h32]; rfl, hbr⟩
end Go.Proofs.YtfbhdkkmcfnghaaGreatDoor
