/- Walk of the reference's with. Conditions: the books' memory. -/
import Derived.Test.YthbpcdoddcacdaaBkRefGet
namespace Go.Proofs.Ythbpcdoddcacdaa
open Go.RowKit
set_option linter.unusedVariables false

theorem Bk.wi_pass {L : Bk.Bd} {k v : Bk.Tx} {j : Nat} {d : Bool} (h : j < L.length) : Bk.wi k v (L.drop j) d =
    (if !d && !bytesBefore L[j].1 k then [(k, v)] else []) ++ ((if L[j].1 == k then [] else [L[j]]) ++ Bk.wi k v (L.drop (j + 1)) (d || !bytesBefore L[j].1 k)) := by
  rw [List.drop_eq_getElem_cons h]
  conv => lhs; unfold Bk.wi
  cases d <;> cases bytesBefore L[j].1 k <;> simp
theorem Bk.wi_tail {L : Bk.Bd} {k v : Bk.Tx} {d : Bool} : Bk.wi k v (L.drop L.length) d = if d then [] else [(k, v)] := by rw [List.drop_length]; rfl
abbrev EnO (w : World) (B : Nat) (A : Option Addr) (cap : Nat) (R : Bk.Bd) : Prop := w.ownsRow B 90 2 (.slice A R.length cap) R.length (R.flatMap enc)
theorem EnO.read {w : World} {B : Nat} {A : Option Addr} {cap : Nat} {R : Bk.Bd} (h : EnO w B A cap R) : EnR w A cap R := by
  refine SlR.of_own h (by simp) ?_
  rw [List.flatMap_def]
  exact flat_at enc_len
theorem EnO.more {w : World} {B : Nat} {A : Option Addr} {cap : Nat} {R : Bk.Bd} {p : Bk.Tx × Bk.Tx} (h : w.ownsRow B 90 2 (.slice A (R.length + 1) cap) (R.length + 1) (R.flatMap enc ++ enc p)) : EnO w B A cap (R ++ [p]) := by
  unfold EnO
  rw [List.flatMap_append, List.length_append]
  simpa using h

theorem EnO.more2 {w : World} {B : Nat} {A : Option Addr} {cap : Nat} {R : Bk.Bd} {p q : Bk.Tx × Bk.Tx} (h : w.ownsRow B 90 2 (.slice A (R.length + 1 + 1) cap) (R.length + 1 + 1) (R.flatMap enc ++ enc p ++ enc q)) : EnO w B A cap (R ++ [p] ++ [q]) := by
  unfold EnO
  rw [List.flatMap_append, List.flatMap_append, List.length_append, List.length_append]
  simpa using h

set_option maxHeartbeats 2000000 in
set_option maxRecDepth 100000 in
theorem refWith_any (w : World) (A : Option Addr) (cap : Nat) (L : Bk.Bd) (k v : Bk.Tx) (hS : EnR w A cap L) (h16 : L.length ≤ 16) (hso : Bk.Sorted L) :
    Calls Try.prog 86 #[.slice A L.length cap, .agg #[.string (bs k), .string (bs v)]] w fun e w' => ∃ A' c', e = .returned (.slice A' (Bk.put L k v).length c') ∧ EnO w' w.heap.size A' c' (Bk.put L k v) ∧ Below w.heap.size w w' := by
  have hb1 : Below w.heap.size w (w.alloc (.cells #[.string (bs k), .string (bs v)] 90)) := Below.alloc' (Below.self w) _
  have HB := Stow.mk hb1
  have HH := Stow.mk (Held.made w [.string (bs k), .string (bs v)] 90)
  have HS := Stow.mk (hS.keep hb1)
  have HW := Stow.mk (Bk.wi_put k v hso)
  obtain ⟨W1, hW1⟩ : ∃ W, w.alloc (.cells #[.string (bs k), .string (bs v)] 90) = W := ⟨_, rfl⟩
  clear hb1 hS hso
  rw [hW1] at HB HH HS
  go_enter Try.func86, Try.ntmps86
  go_wp2_with fail
  clear hW1
  go_loopw [5, 6, 7] (fun u d v1 wr => ∃ (j : Nat) (b : Bool) (R : Bk.Bd) (Ao : Option Addr) (co : Nat), v1 = .int .i64 (j : Int) ∧ d = .bool b ∧ u = .slice Ao R.length co ∧ j ≤ L.length ∧ R.length ≤ 2 * j ∧ Stow (R ++ Bk.wi k v (L.drop j) b = Bk.put L k v) ∧ Stow (EnO wr W1.heap.size Ao co R) ∧ Stow (Below W1.heap.size W1 wr)) (fun _ _ v1 _ => L.length - (intOf v1).toNat)
  case atStart => exact ⟨0, false, [], none, 0, rfl, rfl, rfl, by omega, by simp, ⟨by rw [List.drop_zero, HW.out]; rfl⟩, ⟨World.ownsRow_nil _ _ _ _⟩, ⟨Below.self _⟩⟩
  case round =>
    obtain ⟨j, b, R, Ao, co, rfl, rfl, rfl, hj, hR, HRW, HO, HBR⟩ := hrel
    have HHW := Stow.mk (HH.out.kept HBR.out)
    have q0 := HHW.out.cell (i := 0) rfl
    have q1 := HHW.out.cell (i := 1) rfl
    have HRX : Stow (wr.rangeAt w.heap.size 0 [.string (bs k), .string (bs v)]) := ⟨fun j v hj => by rw [Nat.zero_add]; exact HHW.out.cell hj⟩
    have HXX : Stow (∀ p : Bk.Tx × Bk.Tx, ∀ u ∈ ([.string (bs p.1), .string (bs p.2)] : List Value), u.oneCell' = true) := ⟨by intro p u hu; simp at hu; rcases hu with rfl | rfl <;> rfl⟩
    have K8 : Stow ((R.length + 1) * 32 ≤ 140737488355328 ∧ R.length + 1 ≤ maxLen ∧ (R.length + 1 + 1) * 32 ≤ 140737488355328 ∧ R.length + 1 + 1 ≤ maxLen) := ⟨by omega, by unfold maxLen; omega, by omega, by unfold maxLen; omega⟩
    by_cases hlt : j < L.length
    · have hE := HS.out.keep HBR.out
      obtain ⟨bb, off, rfl, hb, _⟩ := hE.open (by simp; omega)
      have hi : (L.map enc)[j]? = some (enc L[j]) := by rw [List.getElem?_map, List.getElem?_eq_getElem hlt]; rfl
      have c0 := (hE.cells hi).2 0 _ rfl
      have c1 := (hE.cells hi).2 1 _ rfl
      have hps := Bk.wi_pass (k := k) (v := v) (d := b) hlt
      rw [hps] at HRW
      obtain ⟨y, hy⟩ : ∃ y, L[j] = y := ⟨_, rfl⟩
      rw [hy] at c0 c1 HRW hi
      obtain ⟨x, z⟩ := y
      simp only [Nat.add_zero] at c0
      have HRY : Stow (wr.rangeAt bb (off + j * 2) [.string (bs x), .string (bs z)]) := ⟨fun i v hv => by
        rcases i with _ | _ | i
        · cases hv; exact c0
        · cases hv; exact c1
        · cases hv⟩
      have hji : (j : Int) < L.length := by omega
      have hj0 : (0 : Int) ≤ j := by omega
      have HI := Stow.mk hi
      clear hi hy hE hps
      simp only at HRW
      rcases (show (x = k) ∨ (bytesBefore x k = true ∧ bytesBefore k x = false ∧ (x == k) = false) ∨ (bytesBefore x k = false ∧ bytesBefore k x = true ∧ (x == k) = false) from by
        by_cases e : x = k
        · exact .inl e
        · have he : (x == k) = false := by simpa using e
          rcases WideAt.bytes_total _ _ e with h3 | h3
          · refine .inr (.inl ⟨h3, ?_, he⟩)
            cases h : bytesBefore k x
            · rfl
            · exact absurd (WideShapes.bytes_trans _ _ _ h3 h) (by rw [WideAt.bytes_irrefl]; simp)
          · refine .inr (.inr ⟨?_, h3, he⟩)
            cases h : bytesBefore x k
            · rfl
            · exact absurd (WideShapes.bytes_trans _ _ _ h3 h) (by rw [WideAt.bytes_irrefl]; simp)) with h0 | ⟨h1, h2, h3⟩ | ⟨h1, h2, h3⟩
      · -- the same key
        rw [h0] at c0 HRW HI
        rw [WideAt.bytes_irrefl] at HRW
        have h1 : Op.bytesLess k k = false := by rw [Bk.less_before]; exact WideAt.bytes_irrefl _
        clear h0 HRY
        cases b
        · have HNX : Stow ((R ++ [(k, v)]) ++ Bk.wi k v (L.drop (j + 1)) true = Bk.put L k v) := ⟨by rw [← HRW.out]; simp⟩
          clear HRW
          go_wp2_with fail
          go_region
          go_upto_region 9 with (first
            | (refine wpList_load_mid rfl 90 (.tmp 3) rfl w.heap.size 0 rfl [.string (bs k), .string (bs v)] _ HRX.out Try.underlying90 rfl (by kernel_rfl) ?_)
            | (at_builtin; refine wpList_append_elem_form wr.drew [.string (bs k), .string (bs v)] _ rfl (.tmp 26) (.tmp 28) 85 rfl W1.heap.size 90 _ 2 32 Try.underlying85 info_entry _ _ _ HO.out rfl _ rfl rfl rfl (by decide) rfl (HXX.out (k, v)) K8.out.1 K8.out.2.1 HBR.out.size ?_; intro A4 c4 w4 h4 hg hb hs))
          have HB4 : Stow (Below W1.heap.size W1 w4) := ⟨(Below.drew HBR.out).trans hb⟩
          clear hg hb hs c0 c1 q0 q1
          have hE := HS.out.keep HB4.out
          have c0 := (hE.cells HI.out).2 0 _ rfl
          have c1 := (hE.cells HI.out).2 1 _ rfl
          have q0 := (HH.out.kept HB4.out).cell (i := 0) rfl
          have q1 := (HH.out.kept HB4.out).cell (i := 1) rfl
          simp only [Nat.add_zero] at c0
          clear hE
          go_wp2_with fail
          go_region
          go_wp2_with fail
          exact ⟨⟨j + 1, true, R ++ [(k, v)], A4, c4, rfl, rfl, by simp, by omega, by simp; omega, HNX, ⟨EnO.more h4⟩, ⟨Below.drew HB4.out⟩⟩, by simp [intOf]; omega⟩
        · have HNX : Stow (R ++ Bk.wi k v (L.drop (j + 1)) true = Bk.put L k v) := ⟨by rw [← HRW.out]; simp⟩
          clear HRW
          go_wp2_with fail
          go_region
          go_wp2_with fail
          go_region
          go_wp2_with fail
          exact ⟨⟨j + 1, true, R, Ao, co, rfl, rfl, rfl, by omega, by omega, HNX, HO, ⟨Below.drew (Below.drew HBR.out)⟩⟩, by simp [intOf]; omega⟩
      · -- the row's key is less
        rw [h1] at HRW
        simp only [h3] at HRW
        rw [← Bk.less_before] at h1 h2
        have HNX : Stow ((R ++ [(x, z)]) ++ Bk.wi k v (L.drop (j + 1)) b = Bk.put L k v) := ⟨by rw [← HRW.out]; simp⟩
        clear HRW
        cases b
        · go_wp2_with fail
          go_region
          go_wp2_with fail
          go_region
          go_upto_region 5 with (first
            | (refine wpList_load_mid rfl 90 (.tmp 41) rfl bb (off + j * 2) rfl [.string (bs x), .string (bs z)] _ HRY.out Try.underlying90 rfl (by kernel_rfl) ?_)
            | (at_builtin; refine wpList_append_elem_form wr.drew.drew [.string (bs x), .string (bs z)] _ rfl (.tmp 38) (.tmp 43) 85 rfl W1.heap.size 90 _ 2 32 Try.underlying85 info_entry _ _ _ HO.out rfl _ rfl rfl rfl (by decide) rfl (HXX.out (x, z)) K8.out.1 K8.out.2.1 (Below.drew (Below.drew HBR.out)).size ?_; intro A4 c4 w4 h4 hg hb hs))
          have HB4 : Stow (Below W1.heap.size W1 w4) := ⟨(Below.drew (Below.drew HBR.out)).trans hb⟩
          clear hg hb hs
          go_wp2_with fail
          exact ⟨⟨j + 1, false, R ++ [(x, z)], A4, c4, rfl, rfl, by simp, by omega, by simp; omega, HNX, ⟨EnO.more h4⟩, HB4⟩, by simp [intOf]; omega⟩
        · go_wp2_with fail
          go_region
          go_wp2_with fail
          go_region
          go_upto_region 5 with (first
            | (refine wpList_load_mid rfl 90 (.tmp 41) rfl bb (off + j * 2) rfl [.string (bs x), .string (bs z)] _ HRY.out Try.underlying90 rfl (by kernel_rfl) ?_)
            | (at_builtin; refine wpList_append_elem_form wr.drew.drew [.string (bs x), .string (bs z)] _ rfl (.tmp 38) (.tmp 43) 85 rfl W1.heap.size 90 _ 2 32 Try.underlying85 info_entry _ _ _ HO.out rfl _ rfl rfl rfl (by decide) rfl (HXX.out (x, z)) K8.out.1 K8.out.2.1 (Below.drew (Below.drew HBR.out)).size ?_; intro A4 c4 w4 h4 hg hb hs))
          have HB4 : Stow (Below W1.heap.size W1 w4) := ⟨(Below.drew (Below.drew HBR.out)).trans hb⟩
          clear hg hb hs
          go_wp2_with fail
          exact ⟨⟨j + 1, true, R ++ [(x, z)], A4, c4, rfl, rfl, by simp, by omega, by simp; omega, HNX, ⟨EnO.more h4⟩, HB4⟩, by simp [intOf]; omega⟩
      · -- the row's key is greater
        rw [h1] at HRW
        simp only [h3] at HRW
        rw [← Bk.less_before] at h1 h2
        cases b
        · have HNX : Stow ((R ++ [(k, v)] ++ [(x, z)]) ++ Bk.wi k v (L.drop (j + 1)) true = Bk.put L k v) := ⟨by rw [← HRW.out]; simp⟩
          clear HRW
          go_wp2_with fail
          go_region
          go_upto_region 9 with (first
            | (refine wpList_load_mid rfl 90 (.tmp 3) rfl w.heap.size 0 rfl [.string (bs k), .string (bs v)] _ HRX.out Try.underlying90 rfl (by kernel_rfl) ?_)
            | (at_builtin; refine wpList_append_elem_form wr.drew [.string (bs k), .string (bs v)] _ rfl (.tmp 26) (.tmp 28) 85 rfl W1.heap.size 90 _ 2 32 Try.underlying85 info_entry _ _ _ HO.out rfl _ rfl rfl rfl (by decide) rfl (HXX.out (k, v)) K8.out.1 K8.out.2.1 HBR.out.size ?_; intro A4 c4 w4 h4 hg hb hs))
          have HB4 : Stow (Below W1.heap.size W1 w4) := ⟨(Below.drew HBR.out).trans hb⟩
          clear hg hb hs c0 c1 q0 q1
          have hE := HS.out.keep HB4.out
          have c0 := (hE.cells HI.out).2 0 _ rfl
          have c1 := (hE.cells HI.out).2 1 _ rfl
          have q0 := (HH.out.kept HB4.out).cell (i := 0) rfl
          have q1 := (HH.out.kept HB4.out).cell (i := 1) rfl
          simp only [Nat.add_zero] at c0
          clear hE
          have HRZ : Stow (w4.rangeAt bb (off + j * 2) [.string (bs x), .string (bs z)]) := ⟨fun i v hv => by
            rcases i with _ | _ | i
            · cases hv; exact c0
            · cases hv; exact c1
            · cases hv⟩
          go_wp2_with fail
          go_region
          go_upto_region 5 with (first
            | (refine wpList_load_mid rfl 90 (.tmp 41) rfl bb (off + j * 2) rfl [.string (bs x), .string (bs z)] _ HRZ.out Try.underlying90 rfl (by kernel_rfl) ?_)
            | (at_builtin; refine wpList_append_elem_form w4.drew [.string (bs x), .string (bs z)] _ rfl (.tmp 38) (.tmp 43) 85 rfl W1.heap.size 90 _ 2 32 Try.underlying85 info_entry _ _ _ h4 rfl _ rfl rfl rfl (by decide) rfl (HXX.out (x, z)) K8.out.2.2.1 K8.out.2.2.2 (Below.drew HB4.out).size ?_; intro A5 c5 w5 h5 hg hb hs))
          have HB5 : Stow (Below W1.heap.size W1 w5) := ⟨(Below.drew HB4.out).trans hb⟩
          clear hg hb hs
          go_wp2_with fail
          exact ⟨⟨j + 1, true, R ++ [(k, v)] ++ [(x, z)], A5, c5, rfl, rfl, by simp, by omega, by simp; omega, HNX, ⟨EnO.more2 h5⟩, HB5⟩, by simp [intOf]; omega⟩
        · have HNX : Stow ((R ++ [(x, z)]) ++ Bk.wi k v (L.drop (j + 1)) true = Bk.put L k v) := ⟨by rw [← HRW.out]; simp⟩
          clear HRW
          go_wp2_with fail
          go_region
          go_wp2_with fail
          go_region
          go_upto_region 5 with (first
            | (refine wpList_load_mid rfl 90 (.tmp 41) rfl bb (off + j * 2) rfl [.string (bs x), .string (bs z)] _ HRY.out Try.underlying90 rfl (by kernel_rfl) ?_)
            | (at_builtin; refine wpList_append_elem_form wr.drew.drew [.string (bs x), .string (bs z)] _ rfl (.tmp 38) (.tmp 43) 85 rfl W1.heap.size 90 _ 2 32 Try.underlying85 info_entry _ _ _ HO.out rfl _ rfl rfl rfl (by decide) rfl (HXX.out (x, z)) K8.out.1 K8.out.2.1 (Below.drew (Below.drew HBR.out)).size ?_; intro A4 c4 w4 h4 hg hb hs))
          have HB4 : Stow (Below W1.heap.size W1 w4) := ⟨(Below.drew (Below.drew HBR.out)).trans hb⟩
          clear hg hb hs
          go_wp2_with fail
          exact ⟨⟨j + 1, true, R ++ [(x, z)], A4, c4, rfl, rfl, by simp, by omega, by simp; omega, HNX, ⟨EnO.more h4⟩, HB4⟩, by simp [intOf]; omega⟩
    · obtain rfl : j = L.length := by omega
      rw [Bk.wi_tail] at HRW
      have hni : ¬ (L.length : Int) < L.length := by omega
      cases b
      · have HNX : Stow (R ++ [(k, v)] = Bk.put L k v) := ⟨by rw [← HRW.out]; simp⟩
        go_wp2_with (first
          | (refine wpList_load_mid rfl 90 (.tmp 3) rfl w.heap.size 0 rfl [.string (bs k), .string (bs v)] _ HRX.out Try.underlying90 rfl (by kernel_rfl) ?_)
          | (at_builtin; refine wpList_append_elem_form wr [.string (bs k), .string (bs v)] _ rfl (.tmp 47) (.tmp 49) 85 rfl W1.heap.size 90 _ 2 32 Try.underlying85 info_entry _ _ _ HO.out rfl _ rfl rfl rfl (by decide) rfl (HXX.out (k, v)) K8.out.1 K8.out.2.1 HBR.out.size ?_; intro A4 c4 w4 h4 hg hb hs))
        go_ret
        rw [← HNX.out]
        exact ⟨A4, c4, by simp, own_low (EnO.more h4) HB.out.size, HB.out.trans ((HBR.out.trans hb).mono HB.out.size)⟩
      · have HNX : Stow (R = Bk.put L k v) := ⟨by rw [← HRW.out]; simp⟩
        go_wp2_with fail
        go_ret
        rw [← HNX.out]
        exact ⟨Ao, co, rfl, own_low HO.out HB.out.size, HB.out.trans (HBR.out.mono HB.out.size)⟩
end Go.Proofs.Ythbpcdoddcacdaa
