/- Walk of the reference's Same at parts; slices that lie in a block known whole. Condition: a slice's own. -/
import Derived.Test.YtmknemnpjjcdbaaDoorFmRefComp
namespace Go.Proofs.YtmknemnpjjcdbaaDoor
open Go.RowKit
set_option linter.unusedVariables false

namespace Fm
/-- The parts' texts are no longer than the format. -/
theorem comp_short : ∀ (r : List UInt8) (at_ : Nat) (out : List Pt) (text : List UInt8) (m : Option (List UInt8)) (N : Nat), (∀ p ∈ out, p.2.length ≤ N) → text.length + (m.getD []).length + r.length ≤ N → ∀ p ∈ (comp r at_ out text m).1, p.2.length ≤ N
  | [], at_, out, text, none, N, h, ht, p, hp => by
    simp only [comp] at hp
    exact flush_short h (by simp at ht; omega) p hp
  | [], at_, out, text, some acc, N, h, ht, p, hp => by simp [comp] at hp
  | b :: r, at_, out, text, none, N, h, ht, p, hp => by
    simp only [Option.getD_none, List.length_nil, List.length_cons] at ht
    unfold comp at hp
    split at hp
    · simp at hp
    · split at hp
      · exact comp_short r _ _ _ _ N h (by simp; omega) p hp
      · exact comp_short r _ _ _ _ N h (by simp; omega) p hp
  | b :: r, at_, out, text, some acc, N, h, ht, p, hp => by
    simp only [Option.getD_some, List.length_cons] at ht
    unfold comp at hp
    split at hp
    · split at hp
      · exact comp_short r _ _ _ _ N h (by simp; omega) p hp
      · cases hq : part acc with
        | none => rw [hq] at hp; simp at hp
        | some q =>
          rw [hq] at hp
          refine comp_short r _ _ _ _ N ?_ (by simp; omega) p hp
          intro x hx
          rcases List.mem_append.1 hx with hx | hx
          · exact flush_short h (by omega) x hx
          · simp at hx; subst hx
            have := (part_short hq).1
            omega
    · exact comp_short r _ _ _ _ N h (by simp; omega) p hp
theorem compile_short (s : List UInt8) : ∀ p ∈ (compile s).1, p.2.length ≤ 400 := by
  unfold compile
  split
  · intro p hp; simp at hp
  · exact comp_short _ _ _ _ _ 400 (by intro p hp; simp at hp) (by simp; omega)
end Fm

theorem slr_held {w : World} {g c : Nat} {L : List (List Value)} {cs : List Value} (h : Held w g cs) (hcs : cs = L.flatten) (hL : ∀ x ∈ L, x.length = c) (hm : L.length ≤ 1000000) : SlR w c (.slice (some ⟨g, 0, none⟩) L.length L.length) L := by
  subst hcs
  refine ⟨_, L.length, rfl, Nat.le_refl _, by unfold maxLen; omega, fun _ => ⟨g, 0, rfl, h.lt, fun i x hi j u hu => ?_⟩⟩
  rw [Nat.zero_add]
  exact h.cell (flat_at hL i x hi j u hu)

set_option maxHeartbeats 1000000 in
set_option maxRecDepth 100000 in
theorem ptSame_any (L : List Pt) (v v' : Value) (w : World) (hS : SlR w 2 v (L.map Pt.cells)) (hS' : SlR w 2 v' (L.map Pt.cells)) :
    Calls Tryd.prog 9 #[v, v'] w fun e w' => e = .returned (.bool true) ∧ Below w.heap.size w w' := by
  obtain ⟨A, cap, rfl, _⟩ := hS.form
  obtain ⟨A', cap', rfl, _⟩ := hS'.form
  simp only [List.length_map] at *
  have HS := Stow.mk hS
  have HS' := Stow.mk hS'
  have hlen := hS.len
  simp only [List.length_map] at hlen
  clear hS hS'
  rename_i _ _
  go_enter Tryd.func9, Tryd.ntmps9
  go_wp2_with fail
  go_loopw [5] (fun v wr => ∃ j : Nat, v = .int .i64 j ∧ j ≤ L.length ∧ Below w.heap.size w wr) (fun v _ => L.length - (intOf v).toNat)
  case atStart => exact ⟨0, rfl, by omega, Below.self _⟩
  case round =>
    obtain ⟨j, rfl, hj, hbr⟩ := hrel
    by_cases hlt : j < L.length
    · obtain ⟨b, off, rfl, hblt, _⟩ := HS.out.open (by simp; omega)
      obtain ⟨b', off', rfl, hblt', _⟩ := HS'.out.open (by simp; omega)
      have hsp := part_at (HS.out.keep hbr) hlt
      have hsp' := part_at (HS'.out.keep hbr) hlt
      obtain ⟨s, hs⟩ : ∃ s, L[j] = s := ⟨_, rfl⟩
      rw [hs] at hsp hsp'
      clear hs
      obtain ⟨x, y⟩ := s
      obtain ⟨hltb, q0, q1⟩ := hsp
      obtain ⟨hltb', p0, p1⟩ := hsp'
      simp only at q0 q1 p0 p1
      have hji : (j : Int) < L.length := by omega
      go_wp2_with fail
      go_quiet (fail)
      go_wp2_with fail
      exact ⟨⟨j + 1, rfl, by omega, Below.drewN' hbr _⟩, by simp [intOf]; omega⟩
    · obtain rfl : j = L.length := by omega
      go_wp2_with fail
      go_ret
      exact ⟨rfl, hbr⟩
end Go.Proofs.YtmknemnpjjcdbaaDoor
