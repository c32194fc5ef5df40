/- Walk of book's All. Conditions: the books' memory. -/
import Derived.Test.YthbpcdoddcacdaaBkGet
namespace Go.Proofs.Ythbpcdoddcacdaa
open Go.RowKit
set_option linter.unusedVariables false

theorem own_low {w : World} {B B' : Nat} {e : TypeId} {size n : Nat} {v : Value} {xs : List Value} (h : w.ownsRow B' e size v n xs) (hle : B ≤ B') : w.ownsRow B e size v n xs := by
  refine ⟨h.1, ?_⟩
  rcases h.2 with h | ⟨g, cap, cur, hv, hb, r⟩
  · exact .inl h
  · exact .inr ⟨g, cap, cur, hv, by omega, r⟩
/-- An entry's cells; entries in memory. -/
def enc (p : Bk.Tx × Bk.Tx) : List Value := [.string (bs p.1), .string (bs p.2)]
abbrev EnR (w : World) (A : Option Addr) (cap : Nat) (L : Bk.Bd) : Prop := SlR w 2 (.slice A L.length cap) (L.map enc)
theorem enc_len {L : Bk.Bd} : ∀ x ∈ L.map enc, x.length = 2 := by intro x hx; obtain ⟨m, _, rfl⟩ := List.mem_map.1 hx; rfl
theorem info_entry : (Try.prog.info? 90).map (fun i => (i.zero, i.size, i.bytes)) = some (some (.agg #[.string ⟨#[]⟩, .string ⟨#[]⟩]), 2, 32) := by kernel_rfl
theorem str_keys (L : Bk.Bd) : Go.strKeys (Bk.dat L) = L.map Prod.fst := by
  unfold Bk.dat Go.strKeys
  dsimp only
  rw [List.map_map]
  rfl
theorem Bk.get_at {L : Bk.Bd} (h : Bk.Sorted L) {j : Nat} (hj : j < L.length) : Bk.get L L[j].1 = some L[j].2 := by
  have hu := Bk.sorted_uniq h
  clear h
  induction L generalizing j with
  | nil => simp at hj
  | cons y r ih =>
    obtain ⟨h1, h2⟩ := List.pairwise_cons.1 hu
    cases j with
    | zero => simp [Bk.get]
    | succ j =>
      have hj' : j < r.length := by simpa using hj
      have hne := h1 _ (List.getElem_mem hj')
      have := ih hj' h2
      unfold Bk.get at this ⊢
      rw [List.getElem_cons_succ, List.find?_cons_of_neg (by simpa using hne)]
      exact this
theorem BK.get0 {w : World} {F : Nat → Prop} {g m N : Nat} {S : Bk.St} {Do : DataW Unit} {blk : Nat → Bool → Option Nat} (h : BK w F g S m N Do blk) {n : Nat} {s : Bool} (hn : n < S.nodes) {k v : Bk.Tx} (hk : k.length ≤ maxLen) (hg : Bk.get (S.bk n s) k = some v) :
    (Instr.lookup 142 (.map (blk n s)) (.string (bs k)) false).run Try.prog w = .ok (.agg #[.string (bs v)]) w := by
  have hkey : keyOf Try.prog 9 (.string (bs k)) = some (.string k) := WideMaps.keyOf_string_mk Try.underlying9 (by simpa using hk)
  have hz : (zeroValue 144).run Try.prog w = .ok (.agg #[.string (bs [])]) w := Try.zeroValue144 w
  cases hb : blk n s with
  | none => rw [h.nil n s hn hb] at hg; simp [Bk.get] at hg
  | some b =>
    obtain ⟨x, ps, hrun, hv⟩ := (h.inner n s b hn hb).lookup strK Try.underlying142 hz (rs_mk []) hkey
    rw [Bk.dat_at, hg] at hv
    rw [rs_inv hv] at hrun
    exact hrun
/-- Its keys, sorted. -/
theorem BK.sorted {w : World} {F : Nat → Prop} {g m N : Nat} {S : Bk.St} {Do : DataW Unit} {blk : Nat → Bool → Option Nat} (h : BK w F g S m N Do blk) {n : Nat} {s : Bool} (hn : n < S.nodes) :
    Calls Try.prog 90 #[.func (.func 111) #[] #[.pointer (some ⟨w.heap.size, 0, none⟩)]] (w.alloc (.cells #[.map (blk n s)] 142)) fun e w' => ∃ v,
      e = .returned v ∧ w'.ownsRow w.heap.size 9 1 v (S.bk n s).length ((S.bk n s).map fun p => .string (bs p.1)) ∧ Below w.heap.size w w' := by
  have hbl : Below w.heap.size w (w.alloc (.cells #[.map (blk n s)] 142)) := Below.alloc' (Below.self w) _
  have hfew := h.ok.few n s
  cases hb : blk n s with
  | none =>
    rw [hb] at hbl
    refine (Try.sorted_nil w).mono ?_
    rintro e w' ⟨v, ss, rfl, rfl, hr, _, hbw⟩
    refine ⟨v, rfl, ?_, hbl.trans (hbw.mono hbl.size)⟩
    rw [h.nil n s hn hb]
    rw [List.mergeSort_nil] at hr
    exact own_low hr hbl.size
  | some b =>
    rw [hb] at hbl
    have hin := h.inner n s b hn hb
    refine (Try.sorted_at b _ (Bk.dat (S.bk n s)) rs w hin (by rw [Bk.dat_size]; unfold maxLen; omega) (by rw [Bk.dat_size]; omega)).mono ?_
    rintro e w' ⟨v, ss, rfl, hp, hr, _, hbw⟩
    rw [str_keys] at hp
    have hl := hp.length_eq
    rw [List.length_map] at hl
    rw [Bk.keys_sorted (h.ok.sorted n s) hp, hl, List.map_map] at hr
    exact ⟨v, rfl, own_low hr hbl.size, hbl.trans (hbw.mono hbl.size)⟩

set_option maxHeartbeats 2000000 in
set_option maxRecDepth 100000 in
theorem bkAll_any (w : World) (F : Nat → Prop) (g c : Nat) (S : Bk.St) (n : Int) (s : Bool) (h : BKs w F g S c) (hkl : ∀ n s, ∀ p ∈ S.bk n s, p.1.length ≤ maxLen) :
    Calls Try.prog 55 #[.pointer (some ⟨g, 0, none⟩), .int .i64 n, .bool s] w fun e w' => ∃ A cap, e = .returned (.slice A (S.of n s).length cap) ∧ EnR w' A cap (S.of n s) ∧ Below w.heap.size w w' := by
  obtain ⟨m, N, Do, blk, _, hB⟩ := h
  have HK := Stow.mk (bkHas_any g S n _ _ w hB.head)
  obtain ⟨b, hb⟩ : ∃ b, hasB S n = b := ⟨_, rfl⟩
  rw [hb] at HK
  cases b
  · rw [hasB_no hb]
    clear hb hB
    go_enter Try.func55, Try.ntmps55
    go_wp2_with fail
    refine HK.out.mono ?_
    rintro e w1 ⟨rfl, rfl⟩
    go_wp2_with fail
    go_ret
    exact ⟨none, 0, rfl, SlR.nil _ _, Below.self _⟩
  · obtain ⟨n, rfl, hn, hof⟩ := hasB_yes hb
    rw [hof]
    have hl := hB.look (s := s) hn
    have q1 := hB.head.cell (i := 1) rfl
    have HSO := Stow.mk (hB.sorted (s := s) hn)
    have HG : Stow (∀ (W : World) (j : Nat) (p : Bk.Tx × Bk.Tx), (S.bk n s)[j]? = some p → Below w.heap.size w W → (Instr.lookup 142 (.map (blk n s)) (.string (bs p.1)) false).run Try.prog W = .ok (.agg #[.string (bs p.2)]) W) := ⟨fun W j p hp hW => by
      obtain ⟨hj, rfl⟩ := List.getElem?_eq_some_iff.1 hp
      exact (hB.keep hW).get0 hn (hkl n s _ (List.getElem_mem hj)) (Bk.get_at (hB.ok.sorted n s) hj)⟩
    have hfew := hB.ok.few n s
    obtain ⟨bb, hbb⟩ : ∃ bb, blk n s = bb := ⟨_, rfl⟩
    obtain ⟨L, hL⟩ : ∃ L, S.bk n s = L := ⟨_, rfl⟩
    rw [hbb] at hl HSO HG
    rw [hL] at HSO hfew HG ⊢
    unfold plv at hl
    have HKY := Stow.mk (Try.keys_at bb w)
    have hfr : ∀ (v : ByteArray) (w : World), (Instr.field 144 (.agg #[.string v]) 0).run Try.prog w = .ok (.string v) w := fun _ _ => rfl
    clear hb hB hof hbb hL hkl
    go_enter Try.func55, Try.ntmps55
    go_wp2_with fail
    refine HK.out.mono ?_
    rintro e w0 ⟨rfl, hw0⟩
    subst hw0
    go_wp2_with fail
    refine HKY.out.mono ?_
    rintro e w1 ⟨rfl, rfl⟩
    go_wp2_with fail
    refine HSO.out.mono ?_
    rintro e w2 ⟨v2, rfl, hr2, hb2⟩
    obtain ⟨A2, c2, rfl⟩ := own_form hr2
    have HR2 := Stow.mk hr2
    have HB2 := Stow.mk hb2
    clear hl q1 hr2 hb2
    go_wp2_with fail
    go_loopw [8, 27] (fun v u wr => ∃ j : Nat, u = .int .i64 (j : Int) ∧ j ≤ L.length ∧ Stow (wr.ownsRow w2.heap.size 90 2 v j ((L.take j).flatMap enc)) ∧ Stow (Below w2.heap.size w2 wr)) (fun _ u _ => L.length - (intOf u).toNat)
    case atStart => exact ⟨0, rfl, by omega, ⟨World.ownsRow_nil _ _ _ _⟩, ⟨Below.self _⟩⟩
    case round =>
      obtain ⟨j, rfl, hj, HO, HBR⟩ := hrel
      obtain ⟨Ao, co, rfl⟩ := own_form HO.out
      by_cases hlt : j < L.length
      · have hrw := own_kept HR2.out HBR.out
        obtain ⟨gg, rfl⟩ : ∃ gg, A2 = some ⟨gg, 0, none⟩ := by
          rcases hrw.2 with ⟨h1, h2⟩ | ⟨gg, cp, cur, hv, _⟩
          · omega
          · simp only [Value.slice.injEq] at hv
            exact ⟨gg, hv.1⟩
        have r0 := World.ownsRow.cells hrw rfl j (.string (bs L[j].1)) (by rw [List.getElem?_map, List.getElem?_eq_getElem hlt]; rfl)
        rw [Addr.add_lit, Nat.zero_add] at r0
        have hg0 := HG.out wr j _ (List.getElem?_eq_getElem hlt) (HB2.out.trans (HBR.out.mono HB2.out.size))
        have HTK : Stow ((L.take (j + 1)).flatMap enc = (L.take j).flatMap enc ++ enc L[j]) := ⟨by rw [List.take_succ_eq_append_getElem hlt, List.flatMap_append]; simp⟩
        obtain ⟨p, hp⟩ : ∃ p, L[j] = p := ⟨_, rfl⟩
        rw [hp] at r0 HTK
        rw [hp] at hg0
        obtain ⟨pk, pv⟩ := p
        simp only at r0 hg0
        have hjj : (j : Int) < L.length := by omega
        have HX1 : Stow (∀ u ∈ ([.string (bs pk), .string (bs pv)] : List Value), u.oneCell' = true) := ⟨by intro u hu; simp at hu; rcases hu with rfl | rfl <;> rfl⟩
        have K8 : Stow ((j + 1) * 32 ≤ 140737488355328 ∧ j + 1 ≤ maxLen) := ⟨by omega, by unfold maxLen; omega⟩
        clear hp hrw
        go_wp2_with (at_builtin; refine wpList_append_elem_form _ [.string (bs pk), .string (bs pv)] _ rfl (.tmp 31) (.tmp 38) 85 rfl w2.heap.size 90 _ 2 32 Try.underlying85 info_entry _ _ _ HO.out rfl _ rfl rfl rfl (by decide) rfl HX1.out K8.out.1 K8.out.2 HBR.out.size ?_; intro A4 c4 w4 h4 hg4 hb4 hs4)
        exact ⟨⟨j + 1, rfl, by omega, ⟨by rw [HTK.out]; exact h4⟩, ⟨HBR.out.trans hb4⟩⟩, by simp [intOf]; omega⟩
      · obtain rfl : j = L.length := by omega
        have hni : ¬ (L.length : Int) < L.length := by omega
        have HE : Stow (EnR wr Ao co L) := ⟨by
          have := HO.out
          rw [List.take_length] at this
          refine SlR.of_own this (by simp) ?_
          rw [List.flatMap_def]
          exact flat_at enc_len⟩
        have HBE : Stow (Below w0.heap.size w0 wr) := ⟨HB2.out.trans (HBR.out.mono HB2.out.size)⟩
        go_wp2_with fail
        go_ret
        exact ⟨Ao, co, rfl, HE.out, HBE.out⟩
theorem bkAll_nil (n : Int) (s : Bool) (w : World) : Calls Try.prog 55 #[.pointer none, .int .i64 n, .bool s] w fun e w' => e = .returned (.slice none 0 0) ∧ w' = w := by
  go_enter Try.func55, Try.ntmps55
  go_wp2_with fail
  refine (bkHas_nil n w).mono ?_
  rintro e w1 ⟨rfl, rfl⟩
  go_wp2_with fail
  go_ret
  exact ⟨rfl, rfl⟩
end Go.Proofs.Ythbpcdoddcacdaa
