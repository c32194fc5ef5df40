/- Walks of the reference's cut and heads. Condition: a text that is not too long. -/
import Derived.Test.YtbnaicgomabigaaDoorMsParts
import Derived.Lib.IndexLaws
namespace Go.Proofs.YtbnaicgomabigaaDoor
open Go.RowKit
set_option linter.unusedVariables false

namespace Ms
/-- As the reference cuts. -/
def cutR (l sep : List UInt8) : List UInt8 × List UInt8 × Bool := if (Lib.cut l sep).2.2 = true then Lib.cut l sep else ([], [], false)
theorem cutR1 (c : UInt8) (l : List UInt8) : cutR l [c] = (((cutAt c l).getD ([], [])).1, ((cutAt c l).getD ([], [])).2, (cutAt c l).isSome) := by
  unfold cutR
  rw [cut1_lib]
  cases cutAt c l <;> rfl
theorem cutR2 (l : List UInt8) : cutR l [58, 32] = (((cutCol l).getD ([], [])).1, ((cutCol l).getD ([], [])).2, (cutCol l).isSome) := by
  unfold cutR
  rw [cut2_lib]
  cases cutCol l <;> rfl
theorem cutR_hit {l sep : List UInt8} {i : Nat} (h : Lib.NoOcc l sep i) (hi : i + sep.length ≤ l.length) (ho : ((l.drop i).take sep.length == sep) = true) : cutR l sep = (l.take i, l.drop (i + sep.length), true) := by
  have hocc : Lib.occAt l sep i = true := by
    unfold Lib.occAt
    rw [List.isPrefixOf_iff_prefix, List.prefix_iff_eq_take]
    exact (beq_iff_eq.1 ho).symm
  have hx := Lib.index_hit h (by omega) hocc
  have e : Lib.cut l sep = (l.take i, l.drop (i + sep.length), true) := by unfold Lib.cut; rw [hx]; simp
  unfold cutR
  rw [e]
  rfl
theorem cutR_next {l sep : List UInt8} {i : Nat} (h : Lib.NoOcc l sep i) (ho : ((l.drop i).take sep.length == sep) = false) : Lib.NoOcc l sep (i + 1) := by
  intro j hj
  by_cases hji : j = i
  · subst hji
    rw [Bool.eq_false_iff]
    intro hc
    unfold Lib.occAt at hc
    rw [List.isPrefixOf_iff_prefix, List.prefix_iff_eq_take] at hc
    rw [← hc] at ho
    simp at ho
  · exact h j (by omega)
theorem cutR_none {l sep : List UInt8} {i : Nat} (hs : sep ≠ []) (h : Lib.NoOcc l sep i) (hi : l.length < i + sep.length) : cutR l sep = ([], [], false) := by
  have hx := Lib.index_past hs h hi
  have e : Lib.cut l sep = (l, [], false) := by unfold Lib.cut; rw [hx]; simp
  unfold cutR
  rw [e]
  rfl
end Ms

set_option maxHeartbeats 1000000 in
set_option maxRecDepth 100000 in
theorem refCutR_any (l sep : List UInt8) (w : World) (hl : l.length < 4294967281) (h0 : 1 ≤ sep.length) (h1 : sep.length ≤ 4) :
    Calls Tryd.prog 76 #[.string (bs l), .string (bs sep)] w fun e w' => e = .returned (.tuple #[.string (bs (Ms.cutR l sep).1), .string (bs (Ms.cutR l sep).2.1), .bool (Ms.cutR l sep).2.2]) ∧ Below w.heap.size w w' := by
  have HSN : Stow (sep ≠ []) := ⟨by intro h; rw [h] at h0; simp at h0⟩
  go_enter Tryd.func76, Tryd.ntmps76
  go_wp2_with fail
  go_loop [7] (fun v => ∃ i : Nat, v = .int .i64 (i : Int) ∧ i ≤ l.length + 1 ∧ Stow (Lib.NoOcc l sep i)) (fun v => l.length + 1 - (intOf v).toNat)
  case atStart => exact ⟨0, rfl, by omega, ⟨fun j hj => by omega⟩⟩
  case round =>
    obtain ⟨i, rfl, hi', HA⟩ := hrel
    by_cases hlt : i + sep.length ≤ l.length
    · have hlti : (i : Int) + sep.length ≤ l.length := by omega
      obtain ⟨c, hc⟩ : ∃ c, ((l.drop i).take sep.length == sep) = c := ⟨_, rfl⟩
      have HC := Stow.mk hc
      cases c
      · have HN := Stow.mk (Ms.cutR_next HA.out HC.out)
        go_wp2_with fail
        exact ⟨⟨i + 1, rfl, by omega, HN⟩, by simp [intOf]; omega⟩
      · have HR := Stow.mk (Ms.cutR_hit HA.out hlt HC.out)
        go_wp2_with fail
        go_quiet (fail)
        go_wp2_with fail
        go_ret3
        exact ⟨by rw [HR.out]; simp, Below.drewN' (Below.self _) _⟩
    · have HR := Stow.mk (Ms.cutR_none HSN.out HA.out (by omega))
      have hlti : ¬ (i : Int) + sep.length ≤ l.length := by omega
      go_wp2_with fail
      go_ret3
      exact ⟨by rw [HR.out]; rfl, Below.self _⟩
theorem refCut1_any (c : UInt8) (l : List UInt8) (w : World) (hl : l.length < 4294967281) :
    Calls Tryd.prog 76 #[.string (bs l), .string (bs [c])] w fun e w' => e = .returned (.tuple #[.string (bs ((Ms.cutAt c l).getD ([], [])).1), .string (bs ((Ms.cutAt c l).getD ([], [])).2), .bool (Ms.cutAt c l).isSome]) ∧ Below w.heap.size w w' := by
  have h := refCutR_any l [c] w hl (by simp) (by simp)
  rw [Ms.cutR1] at h
  exact h
theorem refCut2_any (l : List UInt8) (w : World) (hl : l.length < 4294967281) :
    Calls Tryd.prog 76 #[.string (bs l), .string ⟨#[58, 32]⟩] w fun e w' => e = .returned (.tuple #[.string (bs ((Ms.cutCol l).getD ([], [])).1), .string (bs ((Ms.cutCol l).getD ([], [])).2), .bool (Ms.cutCol l).isSome]) ∧ Below w.heap.size w w' := by
  have h := refCutR_any l [58, 32] w hl (by simp) (by simp)
  rw [Ms.cutR2] at h
  exact h

/-- The ending of the reference's heads. -/
def HeadsOf (w : World) (s : List UInt8) (e : Ending) (w' : World) : Prop :=
  (Ms.heads 17 s [] = none ∧ e = .returned (.tuple #[.slice none 0 0, .string ⟨#[]⟩, .bool false]) ∧ Below w.heap.size w w') ∨
  (∃ L b A cap, Ms.heads 17 s [] = some (L, b) ∧ e = .returned (.tuple #[.slice A L.length cap, .string (bs b), .bool true]) ∧ HRow w' w.heap.size (.slice A L.length cap) L ∧ Below w.heap.size w w')

set_option maxHeartbeats 2000000 in
set_option maxRecDepth 100000 in
theorem msRefHeads_any (s : List UInt8) (w : World) (hs : s.length < 2147483647) : Calls Tryd.prog 77 #[.string (bs s)] w (HeadsOf w s) := by
  go_enter Tryd.func77, Tryd.ntmps77
  go_wp2_with fail
  go_loopw [0, 5] (fun sv v wr => ∃ A cap acc r, sv = .string (bs r) ∧ v = .slice A acc.length cap ∧ acc.length ≤ 17 ∧ r.length < 2147483647 ∧ Stow (Ms.heads (17 - acc.length) r acc = Ms.heads 17 s []) ∧ HRow wr w.heap.size (.slice A acc.length cap) acc ∧ Below w.heap.size w wr) (fun _ v _ => 17 - (match v with | .slice _ n _ => n | _ => 0))
  case atStart => exact ⟨none, 0, [], s, rfl, rfl, by simp, hs, ⟨rfl⟩, HRow.nil _ _, Below.self _⟩
  case round =>
    obtain ⟨A, cap, acc, r, rfl, rfl, hacc, hr, HR, hrow, hbr⟩ := hrel
    have HROW := Stow.mk hrow
    have HBR := Stow.mk hbr
    clear hrow hbr
    by_cases h16 : acc.length ≤ 16
    · have h16i : (acc.length : Int) ≤ 16 := by omega
      obtain ⟨n, hn⟩ : ∃ n, 17 - acc.length = n + 1 := ⟨16 - acc.length, by omega⟩
      have hn2 : 17 - (acc.length + 1) = n := by omega
      rw [hn] at HR
      obtain ⟨o, ho⟩ : ∃ o, Ms.cutAt 10 r = o := ⟨_, rfl⟩
      have HO1 := Stow.mk ho
      have HN1 : Stow _ := ⟨refCut1_any 10 r wr (by omega)⟩
      rw [ho] at HN1
      clear ho
      cases o with
      | none =>
        have HE : Stow (Ms.heads 17 s [] = none) := ⟨by rw [← HR.out]; exact Ms.heads_stop HO1.out⟩
        simp only [Option.getD_none, Option.isSome_none] at HN1
        go_wp2_with fail
        refine HN1.out.mono ?_
        rintro e w2 ⟨rfl, hb2⟩
        have HB2 : Stow (Below w.heap.size w w2) := ⟨HBR.out.trans (hb2.mono HBR.out.size)⟩
        clear hb2
        go_wp2_with fail
        go_ret3
        exact .inl ⟨HE.out, rfl, HB2.out⟩
      | some lr =>
        obtain ⟨ln, r2⟩ := lr
        have hlen := Ms.cutAt_len HO1.out
        simp only [Option.getD_some, Option.isSome_some] at HN1
        by_cases hln : ln = []
        · subst hln
          have HE : Stow (Ms.heads 17 s [] = some (acc, r2)) := ⟨by rw [← HR.out]; exact Ms.heads_done HO1.out⟩
          go_wp2_with fail
          refine HN1.out.mono ?_
          rintro e w2 ⟨rfl, hb2⟩
          have HB2 : Stow (Below w.heap.size w w2) := ⟨HBR.out.trans (hb2.mono HBR.out.size)⟩
          have HROW2 := Stow.mk (HROW.out.kept hb2)
          clear hb2
          go_wp2_with fail
          go_ret3
          exact .inr ⟨acc, r2, A, cap, HE.out, rfl, HROW2.out, HB2.out⟩
        · have hle : ln.isEmpty = false := by simpa using hln
          have HLN := Stow.mk hln
          clear hln
          obtain ⟨o, ho⟩ : ∃ o, Ms.cutCol ln = o := ⟨_, rfl⟩
          have HO2 := Stow.mk ho
          have K := fun W => refCut2_any ln W (by omega)
          rw [ho] at K
          have HK := Stow.mk K
          clear ho K
          go_wp2_with fail
          refine HN1.out.mono ?_
          rintro e w2 ⟨rfl, hb2⟩
          have HB2 : Stow (Below w.heap.size w w2) := ⟨HBR.out.trans (hb2.mono HBR.out.size)⟩
          have HROW2 := Stow.mk (HROW.out.kept hb2)
          clear hb2
          go_wp2_with fail
          refine (HK.out _).mono ?_
          rintro e w3 ⟨rfl, hb3⟩
          have HB3 : Stow (Below w.heap.size w w3) := ⟨HB2.out.trans (hb3.mono HB2.out.size)⟩
          have HROW3 := Stow.mk (HROW2.out.kept hb3)
          clear hb3
          cases o with
          | none =>
            have HE : Stow (Ms.heads 17 s [] = none) := ⟨by rw [← HR.out]; exact Ms.heads_bad HO1.out HLN.out HO2.out⟩
            simp only [Option.getD_none, Option.isSome_none]
            go_wp2_with fail
            go_ret3
            exact .inl ⟨HE.out, rfl, HB3.out⟩
          | some ab =>
            obtain ⟨a, b⟩ := ab
            have hlen2 := Ms.cutCol_len HO2.out
            have HE : Stow (Ms.heads (17 - (acc ++ [(a, b)]).length) r2 (acc ++ [(a, b)]) = Ms.heads 17 s []) := ⟨by
              rw [← HR.out, Ms.heads_more HO1.out HLN.out HO2.out, List.length_append]
              simp only [List.length_cons, List.length_nil, Nat.zero_add]
              rw [hn2]⟩
            have K2 : Stow ((acc.length + 1) * 32 ≤ 140737488355328) := ⟨by omega⟩
            have K3 : Stow (acc.length + 1 ≤ maxLen) := ⟨by unfold maxLen; omega⟩
            have K4 : Stow (w.heap.size ≤ w3.heap.size) := ⟨HB3.out.size⟩
            simp only [Option.getD_some, Option.isSome_some]
            go_wp2_with (at_builtin; refine wpList_append_elem_form _ _ _ rfl (.tmp 34) (.tmp 38) 37 rfl w.heap.size 90 _ 2 32 Tryd.underlying37 info_head _ _ _ HROW3.out rfl _ rfl (by simp) rfl (by decide) rfl (by intro u hu; simp at hu; rcases hu with rfl | rfl <;> rfl) K2.out K3.out K4.out ?_; intro A4 cap4 w4 hown4 hg4 hb4 hs4)
            exact ⟨⟨A4, cap4, acc ++ [(a, b)], r2, rfl, by rw [List.length_append]; rfl, by simp; omega, by omega, HE, by rw [HRow, List.length_append]; simpa [Hd.cells] using hown4, HB3.out.trans hb4⟩, by simp; omega⟩
    · have h17 : acc.length = 17 := by omega
      have HE : Stow (Ms.heads 17 s [] = none) := ⟨by rw [← HR.out, h17]; rfl⟩
      have h16i : ¬ (acc.length : Int) ≤ 16 := by omega
      go_wp2_with fail
      go_ret3
      exact .inl ⟨HE.out, rfl, HBR.out⟩
end Go.Proofs.YtbnaicgomabigaaDoor
