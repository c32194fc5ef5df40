/- Walks of head.Add and Set. Condition: not more headers than 2^30. -/
import Derived.Test.YtfbhdkkmcfnghaaGreatDoorInHead
import Derived.Laws.AppendOwnNone
namespace Go.Proofs.YtfbhdkkmcfnghaaGreatDoor
open Go.RowKit
set_option linter.unusedVariables false

/-- Headers with just one of a name. -/
def hdSet (L : List Hd) (n v : List UInt8) : List Hd := match hdAt L n with
  | none => L ++ [(n, v)]
  | some k => L.take k ++ [(n, v)] ++ hdKeep (inNames [n]) (L.drop k)
theorem inNames_one (n x : List UInt8) : inNames [n] x = (x == n) := by simp [inNames]

theorem ORow.cases_ {w : World} {B : Nat} {v : Value} {L : List Hd} (h : ORow w B v L) : (v = .slice none 0 0 ∧ L = []) ∨ ∃ g cap, v = .slice (some ⟨g, 0, none⟩) L.length cap ∧ ∀ j u, (L.flatMap Hd.cells)[j]? = some u → w.cell? ((⟨g, 0, none⟩ : Addr).add j) = some u := by
  have h0 := h
  rcases h.2 with ⟨rfl, h3⟩ | ⟨g, cap, cur, rfl, _⟩
  · exact .inl ⟨rfl, List.eq_nil_of_length_eq_zero h3⟩
  · exact .inr ⟨g, cap, rfl, fun j u hu => World.ownsRow.cells h0 rfl j u hu⟩
theorem SlR.drop2 {w : World} {b off n cap : Nat} {L : List (List Value)} {c : Nat} (h : SlR w c (.slice (some ⟨b, off, none⟩) n cap) L) (k : Nat) (hk : k < L.length) : SlR w c (.slice (some ⟨b, off + k * c, none⟩) (n - k) (cap - k)) (L.drop k) := by
  obtain ⟨A', cap', hv, h1, h2, h3⟩ := h
  simp only [Value.slice.injEq] at hv
  obtain ⟨hA, rfl, rfl⟩ := hv
  obtain ⟨b', off', hA', hlt, hc⟩ := h3 (by intro h; subst h; simp at hk)
  rw [← hA] at hA'
  simp only [Option.some.injEq, Addr.mk.injEq, and_true] at hA'
  obtain ⟨rfl, rfl⟩ := hA'
  refine ⟨_, _, by rw [List.length_drop], by rw [List.length_drop]; omega, by omega, fun _ => ⟨b, off + k * c, rfl, hlt, fun i x hx j u hu => ?_⟩⟩
  rw [List.getElem?_drop] at hx
  have := hc (k + i) x hx j u hu
  rw [show off + k * c + i * c + j = off + (k + i) * c + j by rw [Nat.add_mul]; omega]
  exact this

set_option maxHeartbeats 1000000 in
set_option maxRecDepth 100000 in
theorem hdAdd_any (n v : List UInt8) (A : Option Addr) (k cap : Nat) (L : List Hd) (hk : k = L.length) (w : World) (hS : SlR w 2 (.slice A k cap) (L.map Hd.cells)) (hn : L.length ≤ 1073741824) :
    Calls Tryz.prog 73 #[.slice A k cap, .string (bs n), .string (bs v)] w fun e w' => ∃ u, e = .returned u ∧ ORow w' w.heap.size u (L ++ [(n, v)]) ∧ Below w.heap.size w w' := by
  subst hk
  have HS := Stow.mk hS
  clear hS
  go_enter Tryz.func73, Tryz.ntmps73
  go_wp2_with fail
  refine (hdClone_any A cap L _ HS.out (by omega)).mono ?_
  rintro e w1 ⟨u, rfl, hO, hb1⟩
  obtain ⟨A1, c1, rfl⟩ := hO.form
  have HO := Stow.mk hO
  have HZ := Stow.mk hb1.size
  have k1 : ∀ u ∈ [Value.string (bs n), Value.string (bs v)], u.oneCell' = true := by intro u hu; simp at hu; rcases hu with rfl | rfl <;> rfl
  have K1 := Stow.mk k1
  clear k1 hO
  go_wp2_with (at_builtin; refine wpList_append_elem _ [Value.string (bs n), Value.string (bs v)] 64 rfl _ _ 22 rfl w.heap.size 64 _ 2 32 Tryz.underlying22 o_info _ L.length _ HO.out rfl w1.heap.size rfl rfl rfl (by decide) rfl K1.out (by omega) (by unfold maxLen; omega) HZ.out ?_; intro v4 w4 hown4 hg4 hb4 hs4)
  go_ret
  refine ⟨_, rfl, ?_, hb1.trans hb4⟩
  unfold ORow
  rw [List.length_append, List.flatMap_append]
  simpa [Hd.cells] using hown4

set_option maxHeartbeats 2000000 in
set_option maxRecDepth 100000 in
theorem hdSet_any (n v : List UInt8) (A : Option Addr) (cap : Nat) (L : List Hd) (w : World) (hS : SlR w 2 (.slice A L.length cap) (L.map Hd.cells)) (hn : L.length ≤ 1048576) :
    Calls Tryz.prog 34 #[.slice A L.length cap, .string (bs n), .string (bs v)] w fun e w' => ∃ u, e = .returned u ∧ ORow w' w.heap.size u (hdSet L n v) ∧ Below w.heap.size w w' := by
  have HS := Stow.mk hS
  obtain ⟨o, ho⟩ : ∃ o, hdAt L n = o := ⟨_, rfl⟩
  have HA := Stow.mk ho
  obtain ⟨S, hSe⟩ : ∃ S, hdSet L n v = S := ⟨_, rfl⟩
  rw [hSe]
  have hS0 := hSe
  unfold hdSet at hS0
  rw [ho] at hS0
  have HSE := Stow.mk hS0
  clear hSe hS0 hS
  cases o with
  | none =>
    simp only at HSE
    go_enter Tryz.func34, Tryz.ntmps34
    go_wp2_with fail
    refine (hdWhere_any n A cap L _ HS.out).mono ?_
    rw [HA.out]
    simp only [atInt]
    rintro e w1 ⟨rfl, hb1⟩
    have HS1 := Stow.mk (HS.out.keep hb1)
    go_wp2_with fail
    refine (hdAdd_any n v A _ cap L rfl _ HS1.out (by omega)).mono ?_
    rintro e w2 ⟨u, rfl, hO, hb2⟩
    go_wp2_with fail
    go_ret
    exact ⟨_, rfl, by rw [← HSE.out]; exact hO.base hb1.size, hb1.trans (hb2.mono hb1.size)⟩
  | some k =>
    have hk : k < L.length := by
      have h := ho
      unfold hdAt at h
      rw [List.findIdx?_eq_some_iff_getElem] at h
      exact h.1
    simp only at HSE
    obtain ⟨b, off, rfl, hblt, _⟩ := HS.out.open (by simp; omega)
    have HT := Stow.mk (HS.out.take k (by simp; omega))
    have HD := Stow.mk (HS.out.drop2 k (by simp; omega))
    rw [← List.map_take] at HT
    rw [← List.map_drop] at HD
    obtain ⟨_, cap', hcv, hcl, hcm⟩ := HS.out.form
    simp only [Value.slice.injEq, List.length_map] at hcv
    obtain ⟨rfl, -, rfl⟩ := hcv
    simp only [List.length_map] at hcl
    have hk0 : ¬ (k : Int) < 0 := by omega
    have HC0 := Stow.mk hcl
    clear ho
    go_enter Tryz.func34, Tryz.ntmps34
    go_wp2_with fail
    refine (hdWhere_any n _ _ L _ HS.out).mono ?_
    rw [HA.out]
    simp only [atInt]
    rintro e w1 ⟨rfl, hb1⟩
    have HT1 := Stow.mk (HT.out.keep hb1)
    have HD1 := Stow.mk (HD.out.keep hb1)
    have HB1 := Stow.mk hb1
    clear hb1
    go_wp2_with fail
    refine (hdAdd_any n v _ k _ (L.take k) (by simp; omega) _ HT1.out (by simp; omega)).mono ?_
    rintro e w2 ⟨u, rfl, hO, hb2⟩
    have HO := Stow.mk hO
    have HD2 := Stow.mk (HD1.out.keep hb2)
    have HB2 : Stow (Below w.heap.size w w2) := ⟨HB1.out.trans (hb2.mono HB1.out.size)⟩
    clear hO hb2
    go_wp2_with fail
    have KW := hdWithout_any [n] (some ⟨w2.heap.size, 0, none⟩) 1 (some ⟨b, off + k * 2, none⟩) (cap - k) (L.drop k) (w2.alloc (.cells #[.string (bs n)] 9)) (names_made w2 [n] _ rfl (by unfold maxLen; simp)) (by rw [List.length_drop]; exact HD2.out.alloc _) (by rw [List.length_drop]; omega)
    rw [List.length_drop] at KW
    refine KW.mono ?_
    clear KW
    rintro e w3 ⟨x, rfl, hX, hb3⟩
    have hb23 : Below w2.heap.size w2 w3 := Below.call (Below.alloc' (Below.self _) _) hb3
    have HO3 : Stow (ORow w3 w.heap.size u (L.take k ++ [(n, v)])) := ⟨(HO.out.kept hb23).base HB1.out.size⟩
    have HB3 : Stow (Below w.heap.size w w3) := ⟨HB2.out.trans (hb23.mono HB2.out.size)⟩
    have hlk := hdKeep_len (inNames [n]) (L.drop k)
    obtain ⟨R, hR⟩ : ∃ R, hdKeep (inNames [n]) (L.drop k) = R := ⟨_, rfl⟩
    obtain ⟨T, hTe⟩ : ∃ T, L.take k ++ [(n, v)] = T := ⟨_, rfl⟩
    have hTl := congrArg List.length hTe
    simp only [List.length_append, List.length_take, List.length_singleton] at hTl
    rw [hR] at hX hlk
    rw [List.length_drop] at hlk
    have hse := HSE.out
    rw [hR, hTe] at hse
    rw [hTe] at HO3
    have HSE2 := Stow.mk hse
    obtain ⟨i0, hi, hz, hsz, hby⟩ := info_parts o_info
    rcases hX.cases_ with ⟨rfl, rfl⟩ | ⟨g, c, rfl, hc⟩
    · clear hX hb23 hb3 hR hTe hse
      go_wp2_with (at_builtin; refine wpList_append_own_none rfl _ _ 22 rfl w.heap.size 64 i0 2 Tryz.underlying22 hi _ T.length _ rfl HO3.out rfl ?_)
      go_ret
      refine ⟨_, rfl, ?_, HB3.out⟩
      rw [← HSE2.out, List.append_nil]
      exact HO3.out
    · have HC := Stow.mk hc
      have HL := Stow.mk (hd_flat_len R)
      have H1 := Stow.mk (hd_flat_one (L := R))
      have hb3s := HB3.out.size
      clear hX hb23 hb3 hR hTe hse hc
      go_wp2_with (at_builtin; refine wpList_append_own _ rfl _ _ 22 rfl w.heap.size 64 i0 _ 2 32 Tryz.underlying22 hi hz hsz hby rfl (by decide) _ T.length _ rfl HO3.out ⟨g, 0, none⟩ R.length c (R.flatMap Hd.cells) rfl HL.out HC.out H1.out ?qc4 ?qc5 hb3s ?_)
      case qc4 => unfold maxLen; omega
      case qc5 => omega
      intro v' w4 hown hgrow hnil
      go_wp2_with fail
      go_ret
      refine ⟨v', rfl, ?_, HB3.out.grown hgrow hb3s (fun k hk => (World.ownsRow.lt HO3.out k hk).1)⟩
      rw [← HSE2.out]
      unfold ORow
      rw [List.length_append, List.flatMap_append]
      exact hown
end Go.Proofs.YtfbhdkkmcfnghaaGreatDoor
