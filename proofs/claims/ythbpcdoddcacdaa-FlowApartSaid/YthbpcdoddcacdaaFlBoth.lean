/- Walk of the flow laws' both: books, there and here, in which keys stand. Conditions: a slice's own. -/
import Derived.Test.YthbpcdoddcacdaaBkPlays
import Derived.Test.YthbpcdoddcacdaaFlOwn
namespace Go.Proofs.Ythbpcdoddcacdaa
open Go.RowKit Cells
set_option linter.unusedVariables false

/-- The reference's books turn, in their box, whatever the book's are. -/
theorem PB2.midG {w0 w w1 w' : World} {F : Nat → Prop} {g x : Nat} {A A' : Option Addr} {cap cap' : Nat} {rows rows' : List Value} {S T T' : Bk.St} {c : Nat} (h : PB2 w0 w F g x A cap rows S T c) (hb : Below w.heap.size w w1) (h2 : RfR w1 A' cap' rows' T') (hN : RfN (fun b => ((¬ F b ∧ b ≠ x) ∧ b < w.heap.size) ∨ (w.heap.size ≤ b ∧ b < w1.heap.size)) A' rows')
    (hO : Only x w1 w') (hH : Held w' x (rfc A' cap' T')) : PB2 w0 w' F g x A' cap' rows' S T' c := by
  have ht : Turn (fun k => k = x) w1 w' := Turn.of_grown hO (.inl rfl)
  have s1 := hb.size
  have s2 := ht.size
  have hxl := h.box.lt
  have hM : RfN (fun b => (¬ F b ∧ b ≠ x) ∧ b < w1.heap.size) A' rows' := hN.mono fun b hb => by
    rcases hb with hb | hb
    · exact ⟨hb.1, by omega⟩
    · exact ⟨⟨fun hf => by have := (h.low b hf).2; omega, by omega⟩, hb.2⟩
  exact ⟨(h.bk.keep hb).turn ht fun k hk e => h.fx (e ▸ hk), h2.turn ht (hM.mono fun b hb => hb.1.2), hH, hM.mono fun b hb => ⟨hb.1, by omega⟩, fun k hk => ⟨(h.low k hk).1, by have := (h.low k hk).2; omega⟩, h.x0, h.fx⟩
/-- The book turns, whatever the reference's are. -/
theorem PB2.putG {w0 w : World} {F : Nat → Prop} {g x : Nat} {A : Option Addr} {cap : Nat} {rows : List Value} {S T : Bk.St} {c : Nat} (n : Int) (s : Bool) (k v : Bk.Tx) (h : PB2 w0 w F g x A cap rows S T c) (hc : c < 1000000) (hk : k.length ≤ maxLen) (hv : v.length ≤ maxLen) (hW : Below w0.heap.size w0 w) :
    Calls Try.prog 50 #[.pointer (some ⟨g, 0, none⟩), .int .i64 n, .bool s, .string (bs k), .string (bs v)] w fun e w' => e = .returned (.bool (S.put n s k v).2) ∧ ∃ F1, PB2 w0 w' F1 g x A cap rows (S.put n s k v).1 T (c + 1) ∧ Turn F w w' ∧ Below w0.heap.size w0 w' := by
  refine (bkPut_any w F g c S n s k v h.bk hc hk hv).mono ?_
  rintro e w' ⟨he, F', k1, k2, k3⟩
  have s1 := k3.size
  have hxl := h.box.lt
  refine ⟨he, fun b => F' b ∧ b < w'.heap.size, ⟨k1.low', h.rf.turn k3 (h.off.mono fun b hb => hb.1.1), held_turn h.box k3 h.fx, h.off.mono fun b hb => ⟨⟨fun hf => ?_, hb.1.2⟩, by omega⟩, fun b hb => ⟨?_, hb.2⟩, h.x0, fun hf => ?_⟩, k3, hW.trans (k3.below (fun b hb => (h.low b hb).1) hW.size)⟩
  · rcases k2 b hf.1 with h1 | h1
    · exact hb.1.1 h1
    · omega
  · rcases k2 b hb.1 with h1 | h1
    · exact (h.low b h1).1
    · exact Nat.le_trans hW.size h1
  · rcases k2 x hf.1 with h1 | h1
    · exact h.fx h1
    · omega
theorem both_results (W : World) (g : Nat) (x z : Int) (v p : Value) (tmps : Array Value) (hH : Held W g [.int .i64 x, v, .int .i64 z])
    (h2 : tmps[2]?.getD undef = p) (h3 : tmps[3]?.getD undef = .pointer (some ⟨g, 0, none⟩)) :
    (results Try.f57 tmps).run Try.prog W = .ok (.tuple #[p, .agg #[.int .i64 x, v, .int .i64 z]]) W := by
  have c0 := hH.cell (i := 0) rfl
  have c1 := hH.cell (i := 1) rfl
  have c2 := hH.cell (i := 2) rfl
  simp [results, Try.results57, go_sem, h2, h3, c0, c1, c2]
set_option maxHeartbeats 4000000 in
set_option maxRecDepth 100000 in
theorem both_any (A0 : Option Addr) (cap0 : Nat) (L : List Mv4) (w : World) (hS : SlR w 4 (.slice A0 L.length cap0) (L.map Mv4.cells)) (hL : ∀ x ∈ L, x.ok) (hl : L.length ≤ 60) :
    Calls Try.prog 57 #[.slice A0 L.length cap0] w fun e w' => ∃ g A' cap' F, e = .returned (.tuple #[.pointer (some ⟨g, 0, none⟩), rfv A' cap' (Bk.play 4 L)]) ∧ BKs w' F g (Bk.play 4 L) L.length ∧ (∀ k, F k → w.heap.size ≤ k ∧ k < w'.heap.size) ∧ Below w.heap.size w w' := by
  have HR0 := Stow.mk (Held.made w [.int .i64 0, .slice none 0 0, .int .i64 0] 73)
  have hb0 := Below.alloc' (Below.self w) (.cells #[.int .i64 0, .slice none 0 0, .int .i64 0] 73)
  have HS := Stow.mk hS
  have HL := Stow.mk hL
  obtain ⟨W0, hW0⟩ : ∃ W, w.alloc (.cells #[.int .i64 0, .slice none 0 0, .int .i64 0] 73) = W := ⟨_, rfl⟩
  rw [show w.alloc (.cells [.int .i64 0, .slice none 0 0, .int .i64 0].toArray 73) = W0 from hW0] at HR0
  rw [hW0] at hb0
  have HB := Stow.mk hb0
  have HWS := Stow.mk hW0
  have HNW := Stow.mk (bkNew_any 4 W0)
  clear hS hL hb0 hW0
  go_enter Try.func57, Try.ntmps57
  go_upto_region 1 with fail
  rw [HWS.out]
  clear HWS
  go_wp2_with fail
  refine HNW.out.mono ?_
  rintro e w1 ⟨g, rfl, hB1, hW1⟩
  have HB1 := Stow.mk hB1
  have HW1 := Stow.mk hW1
  clear hB1 hW1 HNW
  go_wp2_with fail
  refine (refNew_any 4 w1).mono ?_
  rintro e w2 ⟨A, cap, rows, rfl, h2, hN2, hW2⟩
  have HPB := Stow.mk (PB2.start HB1.out HW1.out h2 hN2 hW2)
  have HW2 := Stow.mk (Below.alloc' (HW1.out.trans (hW2.mono HW1.out.size)) (.cells (rfc A cap (Bk.new 4)).toArray 73))
  clear h2 hN2 hW2 HB1 HW1
  obtain ⟨S0, hS0⟩ : ∃ S, Bk.new 4 = S := ⟨_, rfl⟩
  have HS0 := Stow.mk hS0
  rw [hS0] at HPB HW2
  rw [hS0]
  clear hS0
  go_upto_region 2 with fail
  obtain ⟨x, hx⟩ : ∃ x, w2.heap.size = x := ⟨_, rfl⟩
  obtain ⟨W2, hW2⟩ : ∃ W, w2.alloc (.cells (rfc A cap S0).toArray 73) = W := ⟨_, rfl⟩
  rw [show w2.alloc (.cells #[.int .i64 (S0.nodes : Nat), .slice A (2 * S0.nodes) cap, .int .i64 (S0.lost : Nat)] 73) = W2 from hW2]
  rw [hW2] at HPB HW2
  rw [hx] at HPB ⊢
  clear hW2 hx
  go_wp2_with fail
  go_loopw [6] (fun u wr => ∃ i : Nat, u = .int .i64 (i : Int) ∧ i ≤ L.length ∧ Stow (∃ F A cap rows, PB2 W0 wr F g x A cap rows (Bk.play 4 (L.take i)) (Bk.play 4 (L.take i)) i) ∧ Stow (Below W0.heap.size W0 wr)) (fun u _ => L.length - (intOf u).toNat)
  case atStart => exact ⟨0, rfl, by omega, ⟨_, _, _, _, by rw [List.take_zero]; exact (show Bk.play 4 [] = S0 from HS0.out) ▸ HPB.out⟩, HW2⟩
  case round =>
    obtain ⟨i, rfl, hi, HBX, HWR⟩ := hrel
    clear HPB HW2 HS0
    by_cases hlt : i < L.length
    · have hSW := SlR.keep HS.out (HB.out.trans (HWR.out.mono HB.out.size))
      obtain ⟨b, off, rfl, hblt, _⟩ := HS.out.open (by simp; omega)
      have HLO := Stow.mk (fun (W : World) (hb : Below w.heap.size w W) => ((SlR.keep HS.out hb).cells (i := i) (x := L[i].cells) (by rw [List.getElem?_map, List.getElem?_eq_getElem hlt]; rfl)).2)
      have HPN := Stow.mk (Bk.play_next 4 hlt)
      obtain ⟨F, A1, cap1, rows1, hPB⟩ := HBX.out
      have hok := HL.out _ (List.getElem_mem hlt)
      obtain ⟨y, hy⟩ : ∃ y, L[i] = y := ⟨_, rfl⟩
      rw [hy] at hok HLO HPN
      obtain ⟨xn, xs, xk, xv⟩ := y
      obtain ⟨S, hS⟩ : ∃ S, Bk.play 4 (L.take i) = S := ⟨_, rfl⟩
      rw [hS] at hPB HPN
      have HCF := Stow.mk (fun (W : World) (hb : Below w.heap.size w W) => show W.cell? ⟨b, off + i * 4, none⟩ = some (.int .i64 xn) ∧ W.cell? ⟨b, off + i * 4 + 1, none⟩ = some (.bool xs) ∧ W.cell? ⟨b, off + i * 4 + 2, none⟩ = some (.string (bs xk)) ∧ W.cell? ⟨b, off + i * 4 + 3, none⟩ = some (.string (bs xv)) from
        ⟨HLO.out W hb 0 _ rfl, HLO.out W hb 1 _ rfl, HLO.out W hb 2 _ rfl, HLO.out W hb 3 _ rfl⟩)
      have HPUT := Stow.mk (PB2.putG xn xs xk xv (hPB.keep (Below.drew (Below.self wr))) (by omega) hok.k hok.v (Below.drew HWR.out))
      have HWW := Stow.mk (HB.out.trans (HWR.out.mono HB.out.size))
      have hii : (i : Int) < L.length := by omega
      have hi0 : (0 : Int) ≤ i := by omega
      obtain ⟨q0, q1, q2, q3⟩ := HCF.out wr HWW.out
      have HOK := Stow.mk hPB.bk.ok'
      have HPB := Stow.mk hPB
      have HK2 := Stow.mk hok
      clear hy hPB hS hok hSW HBX
      go_wp2_with fail
      go_region_held3 (fun w' => w'.cell? ⟨b, off + i * 4, none⟩ = some (.int .i64 xn) ∧ w'.cell? ⟨b, off + i * 4 + 1, none⟩ = some (.bool xs) ∧ w'.cell? ⟨b, off + i * 4 + 2, none⟩ = some (.string (bs xk)) ∧ w'.cell? ⟨b, off + i * 4 + 3, none⟩ = some (.string (bs xv))) (first | go_keep | exact hkk)
        (first | (go_at_call 50; refine HPUT.out.mono ?_; rintro e w5 ⟨rfl, F5, h5, ht5, hb5⟩; have HB5 := Stow.mk hb5; have hkk := HCF.out w5 (HB.out.trans (hb5.mono HB.out.size))))
      have HPB := Stow.mk h5
      clear q0 q1 q2 q3 h5 ht5 hb5 hkk
      go_upto_region 6 with fail
      have hWW5 := HB.out.trans (HB5.out.mono HB.out.size)
      have HWW5 := Stow.mk hWW5
      have HRF := Stow.mk (fun (W : World) (hb : Below w5.heap.size w5 W) => refPut_any W A1 cap1 rows1 S xn xs xk xv (HPB.out.rf.keep hb) HOK.out)
      refine wp_region_held_drew (S := fun W => W.rangeAt x 0 (rfc A1 cap1 S) ∧ W.cell? ⟨b, off + i * 4, none⟩ = some (.int .i64 xn) ∧ W.cell? ⟨b, off + i * 4 + 1, none⟩ = some (.bool xs) ∧ W.cell? ⟨b, off + i * 4 + 2, none⟩ = some (.string (bs xk)) ∧ W.cell? ⟨b, off + i * 4 + 3, none⟩ = some (.string (bs xv))) (by kernel_rfl) ⟨(fun j v hj => by rw [Nat.zero_add]; exact HPB.out.box.cell hj), HCF.out w5 hWW5⟩ (fun hHeld => ?_)
      refine wpAnyH_take (i := 0) (v := .agg (rfc A1 cap1 S).toArray) rfl (by kernel_rfl) (by kernel_rfl) (by kernel_rfl) (fun _ _ _ h => h) (yieldsIf_load_mid ?yw0 73 (.tmp 5) ?yo0 x 0 ?yx0 (rfc A1 cap1 S) _ ?ys0 Try.underlying73 rfl ?yi0) (by assumption) ?rest0
      case yw0 => rfl
      case yo0 => rfl
      case yx0 => simp [Act.eval]
      case ys0 => exact fun W hW => hW.1
      case yi0 => first | kernel_rfl | (simp only [Fm.cells_len]; kernel_rfl)
      try simp only [List.getElem_toArray, List.getElem_cons_zero, Act.put, List.setIfInBounds_toArray, List.set_cons_zero, List.set_cons_succ]
      refine wpAnyH_take (i := 1) (v := ?v1p) rfl (by kernel_rfl) (by kernel_rfl) (by kernel_rfl) (fun _ _ _ h => h) (Or.inl ⟨by rfl, ?hy1p⟩) (by assumption) ?rest1p
      case hy1p =>
        intro W hSW
        try dsimp only at hSW
        obtain ⟨hs0, hs1, hs2, hs3, hs4⟩ := hSW
        go_simp
        try with_reducible rfl
      try simp only [List.getElem_toArray, List.getElem_cons_zero, List.getElem_cons_succ, Act.put, List.setIfInBounds_toArray, List.set_cons_zero, List.set_cons_succ]
      refine wpAnyH_take (i := 2) (v := ?v2p) rfl (by kernel_rfl) (by kernel_rfl) (by kernel_rfl) (fun _ _ _ h => h) (Or.inl ⟨by rfl, ?hy2p⟩) (by assumption) ?rest2p
      case hy2p =>
        intro W hSW
        try dsimp only at hSW
        obtain ⟨hs0, hs1, hs2, hs3, hs4⟩ := hSW
        go_simp
        try with_reducible rfl
      try simp only [List.getElem_toArray, List.getElem_cons_zero, List.getElem_cons_succ, Act.put, List.setIfInBounds_toArray, List.set_cons_zero, List.set_cons_succ]
      refine wpAnyH_take (i := 3) (v := ?v3p) rfl (by kernel_rfl) (by kernel_rfl) (by kernel_rfl) (fun _ _ _ h => h) (Or.inl ⟨by rfl, ?hy3p⟩) (by assumption) ?rest3p
      case hy3p =>
        intro W hSW
        try dsimp only at hSW
        obtain ⟨hs0, hs1, hs2, hs3, hs4⟩ := hSW
        go_simp
        try with_reducible rfl
      try simp only [List.getElem_toArray, List.getElem_cons_zero, List.getElem_cons_succ, Act.put, List.setIfInBounds_toArray, List.set_cons_zero, List.set_cons_succ]
      refine wpAnyH_take (i := 4) (v := ?v4p) rfl (by kernel_rfl) (by kernel_rfl) (by kernel_rfl) (fun _ _ _ h => h) (Or.inl ⟨by rfl, ?hy4p⟩) (by assumption) ?rest4p
      case hy4p =>
        intro W hSW
        try dsimp only at hSW
        obtain ⟨hs0, hs1, hs2, hs3, hs4⟩ := hSW
        go_simp
        try with_reducible rfl
      try simp only [List.getElem_toArray, List.getElem_cons_zero, List.getElem_cons_succ, Act.put, List.setIfInBounds_toArray, List.set_cons_zero, List.set_cons_succ]
      refine wpAnyH_take (i := 5) (v := ?v5p) rfl (by kernel_rfl) (by kernel_rfl) (by kernel_rfl) (fun _ _ _ h => h) (Or.inl ⟨by rfl, ?hy5p⟩) (by assumption) ?rest5p
      case hy5p =>
        intro W hSW
        try dsimp only at hSW
        obtain ⟨hs0, hs1, hs2, hs3, hs4⟩ := hSW
        go_simp
        try with_reducible rfl
      try simp only [List.getElem_toArray, List.getElem_cons_zero, List.getElem_cons_succ, Act.put, List.setIfInBounds_toArray, List.set_cons_zero, List.set_cons_succ]
      refine wpAnyH_take (i := 6) (v := ?v6p) rfl (by kernel_rfl) (by kernel_rfl) (by kernel_rfl) (fun _ _ _ h => h) (Or.inl ⟨by rfl, ?hy6p⟩) (by assumption) ?rest6p
      case hy6p =>
        intro W hSW
        try dsimp only at hSW
        obtain ⟨hs0, hs1, hs2, hs3, hs4⟩ := hSW
        go_simp
        try with_reducible rfl
      try simp only [List.getElem_toArray, List.getElem_cons_zero, List.getElem_cons_succ, Act.put, List.setIfInBounds_toArray, List.set_cons_zero, List.set_cons_succ]
      refine wpAnyH_take (i := 7) (v := ?v7p) rfl (by kernel_rfl) (by kernel_rfl) (by kernel_rfl) (fun _ _ _ h => h) (Or.inl ⟨by rfl, ?hy7p⟩) (by assumption) ?rest7p
      case hy7p =>
        intro W hSW
        try dsimp only at hSW
        obtain ⟨hs0, hs1, hs2, hs3, hs4⟩ := hSW
        go_simp
        try with_reducible rfl
      try simp only [List.getElem_toArray, List.getElem_cons_zero, List.getElem_cons_succ, Act.put, List.setIfInBounds_toArray, List.set_cons_zero, List.set_cons_succ]
      refine wpAnyH_take (i := 8) (v := ?v8p) rfl (by kernel_rfl) (by kernel_rfl) (by kernel_rfl) (fun _ _ _ h => h) (Or.inl ⟨by rfl, ?hy8p⟩) (by assumption) ?rest8p
      case hy8p =>
        intro W hSW
        try dsimp only at hSW
        obtain ⟨hs0, hs1, hs2, hs3, hs4⟩ := hSW
        go_simp
        try with_reducible rfl
      try simp only [List.getElem_toArray, List.getElem_cons_zero, List.getElem_cons_succ, Act.put, List.setIfInBounds_toArray, List.set_cons_zero, List.set_cons_succ]
      refine wpAnyH_take (i := 9) (v := ?v9p) rfl (by kernel_rfl) (by kernel_rfl) (by kernel_rfl) (fun _ _ _ h => h) (Or.inl ⟨by rfl, ?hy9p⟩) (by assumption) ?rest9p
      case hy9p =>
        intro W hSW
        try dsimp only at hSW
        obtain ⟨hs0, hs1, hs2, hs3, hs4⟩ := hSW
        go_simp
        try with_reducible rfl
      try simp only [List.getElem_toArray, List.getElem_cons_zero, List.getElem_cons_succ, Act.put, List.setIfInBounds_toArray, List.set_cons_zero, List.set_cons_succ]
      refine wpAnyH_take (i := 10) (v := ?v10p) rfl (by kernel_rfl) (by kernel_rfl) (by kernel_rfl) (fun _ _ _ h => h) (Or.inl ⟨by rfl, ?hy10p⟩) (by assumption) ?rest10p
      case hy10p =>
        intro W hSW
        try dsimp only at hSW
        obtain ⟨hs0, hs1, hs2, hs3, hs4⟩ := hSW
        go_simp
        try with_reducible rfl
      try simp only [List.getElem_toArray, List.getElem_cons_zero, List.getElem_cons_succ, Act.put, List.setIfInBounds_toArray, List.set_cons_zero, List.set_cons_succ]
      refine wpAnyH_take (i := 11) (v := ?v11p) rfl (by kernel_rfl) (by kernel_rfl) (by kernel_rfl) (fun _ _ _ h => h) (Or.inl ⟨by rfl, ?hy11p⟩) (by assumption) ?rest11p
      case hy11p =>
        intro W hSW
        try dsimp only at hSW
        obtain ⟨hs0, hs1, hs2, hs3, hs4⟩ := hSW
        go_simp
        try with_reducible rfl
      try simp only [List.getElem_toArray, List.getElem_cons_zero, List.getElem_cons_succ, Act.put, List.setIfInBounds_toArray, List.set_cons_zero, List.set_cons_succ]
      refine wpAnyH_take (i := 12) (v := ?v12p) rfl (by kernel_rfl) (by kernel_rfl) (by kernel_rfl) (fun _ _ _ h => h) (Or.inl ⟨by rfl, ?hy12p⟩) (by assumption) ?rest12p
      case hy12p =>
        intro W hSW
        try dsimp only at hSW
        obtain ⟨hs0, hs1, hs2, hs3, hs4⟩ := hSW
        go_simp
        try with_reducible rfl
      try simp only [List.getElem_toArray, List.getElem_cons_zero, List.getElem_cons_succ, Act.put, List.setIfInBounds_toArray, List.set_cons_zero, List.set_cons_succ]
      refine wpAnyH_take (i := 13) (v := ?v13p) rfl (by kernel_rfl) (by kernel_rfl) (by kernel_rfl) (fun _ _ _ h => h) (Or.inl ⟨by rfl, ?hy13p⟩) (by assumption) ?rest13p
      case hy13p =>
        intro W hSW
        try dsimp only at hSW
        obtain ⟨hs0, hs1, hs2, hs3, hs4⟩ := hSW
        go_simp
        try with_reducible rfl
      try simp only [List.getElem_toArray, List.getElem_cons_zero, List.getElem_cons_succ, Act.put, List.setIfInBounds_toArray, List.set_cons_zero, List.set_cons_succ]
      refine wpAnyH_take (i := 14) (v := ?v14p) rfl (by kernel_rfl) (by kernel_rfl) (by kernel_rfl) (fun _ _ _ h => h) (Or.inl ⟨by rfl, ?hy14p⟩) (by assumption) ?rest14p
      case hy14p =>
        intro W hSW
        try dsimp only at hSW
        obtain ⟨hs0, hs1, hs2, hs3, hs4⟩ := hSW
        go_simp
        try with_reducible rfl
      try simp only [List.getElem_toArray, List.getElem_cons_zero, List.getElem_cons_succ, Act.put, List.setIfInBounds_toArray, List.set_cons_zero, List.set_cons_succ]
      refine wpAnyH_take (i := 15) (v := ?v15p) rfl (by kernel_rfl) (by kernel_rfl) (by kernel_rfl) (fun _ _ _ h => h) (Or.inl ⟨by rfl, ?hy15p⟩) (by assumption) ?rest15p
      case hy15p =>
        intro W hSW
        try dsimp only at hSW
        obtain ⟨hs0, hs1, hs2, hs3, hs4⟩ := hSW
        go_simp
        try with_reducible rfl
      try simp only [List.getElem_toArray, List.getElem_cons_zero, List.getElem_cons_succ, Act.put, List.setIfInBounds_toArray, List.set_cons_zero, List.set_cons_succ]
      refine wpAnyH_take (i := 16) (v := ?v16p) rfl (by kernel_rfl) (by kernel_rfl) (by kernel_rfl) (fun _ _ _ h => h) (Or.inl ⟨by rfl, ?hy16p⟩) (by assumption) ?rest16p
      case hy16p =>
        intro W hSW
        try dsimp only at hSW
        obtain ⟨hs0, hs1, hs2, hs3, hs4⟩ := hSW
        go_simp
        try with_reducible rfl
      try simp only [List.getElem_toArray, List.getElem_cons_zero, List.getElem_cons_succ, Act.put, List.setIfInBounds_toArray, List.set_cons_zero, List.set_cons_succ]
      refine wpAnyH_take (i := 17) (v := ?v17p) rfl (by kernel_rfl) (by kernel_rfl) (by kernel_rfl) (fun _ _ _ h => h) (Or.inl ⟨by rfl, ?hy17p⟩) (by assumption) ?rest17p
      case hy17p =>
        intro W hSW
        try dsimp only at hSW
        obtain ⟨hs0, hs1, hs2, hs3, hs4⟩ := hSW
        go_simp
        try with_reducible rfl
      try simp only [List.getElem_toArray, List.getElem_cons_zero, List.getElem_cons_succ, Act.put, List.setIfInBounds_toArray, List.set_cons_zero, List.set_cons_succ]
      refine wpAnyH_take (i := 18) (v := ?v18p) rfl (by kernel_rfl) (by kernel_rfl) (by kernel_rfl) (fun _ _ _ h => h) (Or.inl ⟨by rfl, ?hy18p⟩) (by assumption) ?rest18p
      case hy18p =>
        intro W hSW
        try dsimp only at hSW
        obtain ⟨hs0, hs1, hs2, hs3, hs4⟩ := hSW
        go_simp
        try with_reducible rfl
      try simp only [List.getElem_toArray, List.getElem_cons_zero, List.getElem_cons_succ, Act.put, List.setIfInBounds_toArray, List.set_cons_zero, List.set_cons_succ]
      refine wpAnyH_take (i := 19) (v := ?v19p) rfl (by kernel_rfl) (by kernel_rfl) (by kernel_rfl) (fun _ _ _ h => h) (Or.inl ⟨by rfl, ?hy19p⟩) (by assumption) ?rest19p
      case hy19p =>
        intro W hSW
        try dsimp only at hSW
        obtain ⟨hs0, hs1, hs2, hs3, hs4⟩ := hSW
        go_simp
        try with_reducible rfl
      try simp only [List.getElem_toArray, List.getElem_cons_zero, List.getElem_cons_succ, Act.put, List.setIfInBounds_toArray, List.set_cons_zero, List.set_cons_succ]
      refine wpAnyH_take (i := 20) (v := ?v20p) rfl (by kernel_rfl) (by kernel_rfl) (by kernel_rfl) (fun _ _ _ h => h) (Or.inl ⟨by rfl, ?hy20p⟩) (by assumption) ?rest20p
      case hy20p =>
        intro W hSW
        try dsimp only at hSW
        obtain ⟨hs0, hs1, hs2, hs3, hs4⟩ := hSW
        go_simp
        try with_reducible rfl
      try simp only [List.getElem_toArray, List.getElem_cons_zero, List.getElem_cons_succ, Act.put, List.setIfInBounds_toArray, List.set_cons_zero, List.set_cons_succ]
      refine wpAnyH_ready (rs := [21, 25]) (by kernel_rfl) (by simp) ?_
      refine AllReadyH.cons rfl (fun K hK => ?_) (AllReadyH.cons rfl (fun K hK => ?_) AllReadyH.nil)
      · rw [if_pos (by rfl)]
        go_simp
        refine (HRF.out _ (Below.drew (Below.self w5))).mono ?_
        rintro e w6 ⟨A6, cap6, rows6, rfl, h6, hN6, hb6⟩
        have hb6' := ((Below.drew (Below.self w5))).trans (hb6.mono ((Below.drew (Below.self w5))).size)
        obtain ⟨T6, hT6⟩ : ∃ T, S.put xn xs xk xv = T := ⟨_, rfl⟩
        rw [hT6] at h6 ⊢
        have HT6 := Stow.mk hT6
        have H6 := Stow.mk h6
        have HN6 := Stow.mk (hN6 _ HPB.out.off)
        have HB6 := Stow.mk hb6'
        have hrg : w6.rangeAt x 0 (rfc A1 cap1 S) := fun j v hj => by rw [Nat.zero_add]; exact (HPB.out.box.kept hb6').cell hj
        have hcf := HCF.out w6 (HB.out.trans (HB5.out.mono HB.out.size) |>.trans (hb6'.mono (HB.out.trans (HB5.out.mono HB.out.size)).size))
        dsimp only
        refine hK.out _ _ ⟨hrg, hcf⟩ (fun hHeld => ?_)
        clear hK K hrg hcf hT6 h6 hN6
        try simp only [List.getElem_toArray, List.getElem_cons_zero, List.getElem_cons_succ, Act.put, List.setIfInBounds_toArray, List.set_cons_zero, List.set_cons_succ]
        refine wpAnyH_take (i := 22) (v := ?v22a) rfl (by kernel_rfl) (by kernel_rfl) (by kernel_rfl) (fun _ _ _ h => h) (Or.inl ⟨by rfl, ?hy22a⟩) (by assumption) ?rest22a
        case hy22a =>
          intro W hSW
          clear hSW
          go_simp
          try with_reducible rfl
        try simp only [List.getElem_toArray, List.getElem_cons_zero, List.getElem_cons_succ, Act.put, List.setIfInBounds_toArray, List.set_cons_zero, List.set_cons_succ]
        refine wpAnyH_take (i := 23) (v := ?v23a) rfl (by kernel_rfl) (by kernel_rfl) (by kernel_rfl) (fun _ _ _ h => h) (Or.inl ⟨by rfl, ?hy23a⟩) (by assumption) ?rest23a
        case hy23a =>
          intro W hSW
          clear hSW
          go_simp
          try with_reducible rfl
        try simp only [List.getElem_toArray, List.getElem_cons_zero, List.getElem_cons_succ, Act.put, List.setIfInBounds_toArray, List.set_cons_zero, List.set_cons_succ]
        refine wpAnyH_take (i := 24) (v := ?v24a) rfl (by kernel_rfl) (by kernel_rfl) (by kernel_rfl) (fun _ _ _ h => h) (Or.inl ⟨by rfl, ?hy24a⟩) (by assumption) ?rest24a
        case hy24a =>
          intro W hSW
          clear hSW
          go_simp
          try with_reducible rfl
        try simp only [List.getElem_toArray, List.getElem_cons_zero, List.getElem_cons_succ, Act.put, List.setIfInBounds_toArray, List.set_cons_zero, List.set_cons_succ]
        refine wpAnyH_ready (rs := [25]) (by kernel_rfl) (by simp) ?_
        refine AllReadyH.cons rfl (fun K hK => ?_) AllReadyH.nil
        rw [if_pos (by rfl)]
        go_simp
        have ba := Below.alloc' (Below.self w6) (.cells #[.int .i64 0, .slice none 0 0, .int .i64 0] 73)
        have HQ := Stow.mk (Held.made w6 [.int .i64 0, .slice none 0 0, .int .i64 0] 73)
        have H6 := Stow.mk (H6.out.keep ba)
        have hcf := HCF.out (w6.alloc (.cells #[.int .i64 0, .slice none 0 0, .int .i64 0] 73)) (HWW5.out.trans ((HB6.out.trans (ba.mono HB6.out.size)).mono HWW5.out.size))
        have hrg : (w6.alloc (.cells #[.int .i64 0, .slice none 0 0, .int .i64 0] 73)).rangeAt x 0 (rfc A1 cap1 S) := fun j v hj => by rw [Nat.zero_add]; exact (HPB.out.box.kept (HB6.out.trans (ba.mono HB6.out.size))).cell hj
        have HB7 := Stow.mk (HB6.out.trans (ba.mono HB6.out.size))
        have hs6 : (w6.alloc (.cells #[.int .i64 0, .slice none 0 0, .int .i64 0] 73)).heap.size = w6.heap.size + 1 := by simp
        have hy5 : w5.heap.size ≤ w6.heap.size := HB6.out.size
        obtain ⟨y, hy⟩ : ∃ y, w6.heap.size = y := ⟨_, rfl⟩
        obtain ⟨W6, hW6⟩ : ∃ W, w6.alloc (.cells #[.int .i64 0, .slice none 0 0, .int .i64 0] 73) = W := ⟨_, rfl⟩
        rw [show w6.alloc (.cells [.int .i64 0, .slice none 0 0, .int .i64 0].toArray 73) = W6 from hW6] at HQ
        rw [hW6] at H6 HB7 hcf hrg hs6
        rw [hy] at hy5 hs6 HQ
        have HN7 := Stow.mk (HN6.out.mono (N' := fun b => ((¬ F5 b ∧ b ≠ x) ∧ b < w5.heap.size) ∨ (w5.heap.size ≤ b ∧ b < W6.heap.size ∧ b ≠ y)) fun b hb => by
          rcases hb with hb | hb
          · exact .inl hb
          · have h1 := hb.1
            simp at h1
            exact .inr ⟨h1, by omega, by omega⟩)
        rw [hW6, hy]
        refine hK.out _ _ ⟨hrg, hcf⟩ (fun hHeld => ?_)
        clear hK K hW6 hcf hrg hy
        try simp only [List.getElem_toArray, List.getElem_cons_zero, List.getElem_cons_succ, Act.put, List.setIfInBounds_toArray, List.set_cons_zero, List.set_cons_succ]
        clear hb6 hb6'
        refine wpAnyH_ready (rs := [26]) (by kernel_rfl) (by simp) ?_
        refine AllReadyH.cons rfl (fun K hK => ?_) AllReadyH.nil
        rw [if_pos (by rfl)]
        refine wp_store_mid 73 (.tmp 7) (.tmp 62) ?zoa y 0 (rfc A6 cap6 T6.1).toArray ?zxa ?zya ?zta ?zia (all_oneCell_toArray (by intro u hu; simp [rfc] at hu; rcases hu with rfl | rfl | rfl <;> rfl)) ?zha
        case zoa => rfl
        case zxa => rfl
        case zya => rfl
        case zta => exact HQ.out.there
        case zia => rfl
        rw [List.toList_toArray]
        have hO9 : Only y W6 (W6.setCells y 0 (rfc A6 cap6 T6.1)) := only_all _ _ _
        have HQ := Stow.mk (HQ.out.over (rfc A6 cap6 T6.1) rfl)
        have H7 := Stow.mk (H6.out.turn (Turn.of_grown (F := fun k => k = y) hO9 (.inl rfl)) (HN7.out.mono fun b hb => by
          rcases hb with hb | hb
          · have := hb.2; omega
          · exact hb.2.2))
        have hs9 := hO9.size
        have hxl := HPB.out.box.lt
        have HN8 := Stow.mk (HN7.out.mono (N' := fun b => ((¬ F5 b ∧ b ≠ x) ∧ b < w5.heap.size) ∨ (w5.heap.size ≤ b ∧ b < (W6.setCells y 0 (rfc A6 cap6 T6.1)).heap.size)) fun b hb => by
          rcases hb with hb | hb
          · exact .inl hb
          · exact .inr ⟨hb.1, by omega⟩)
        have HB8 := Stow.mk (HB7.out.trans (hO9.belw hy5 HB7.out.size))
        obtain ⟨W7, hW7⟩ : ∃ W, W6.setCells y 0 (rfc A6 cap6 T6.1) = W := ⟨_, rfl⟩
        rw [hW7] at HQ H7 HN8 HB8
        rw [hW7]
        have hcf := HCF.out W7 (HWW5.out.trans (HB8.out.mono HWW5.out.size))
        have hrg : W7.rangeAt x 0 (rfc A1 cap1 S) := fun j v hj => by rw [Nat.zero_add]; exact (HPB.out.box.kept HB8.out).cell hj
        refine hK.out _ _ ⟨hrg, hcf⟩ (fun hHeld => ?_)
        clear hK K hO9 hW7 hcf hrg H6 HN6 HN7 HB6 HB7 hs9
        try simp only [List.getElem_toArray, List.getElem_cons_zero, List.getElem_cons_succ, Act.put]
        refine wpAnyH_take (i := 27) (v := ?v27a) rfl (by kernel_rfl) (by kernel_rfl) (by kernel_rfl) (fun _ _ _ h => h) (Or.inl ⟨by rfl, ?hy27a⟩) (by assumption) ?rest27a
        case hy27a =>
          intro W hSW
          clear hSW
          go_simp
          try with_reducible rfl
        try simp only [List.getElem_toArray, List.getElem_cons_zero, List.getElem_cons_succ, Act.put, List.setIfInBounds_toArray, List.set_cons_zero, List.set_cons_succ]
        refine wpAnyH_done (by kernel_rfl) ?_ _
        try simp only [List.getElem_toArray, List.getElem_cons_zero, List.getElem_cons_succ, Act.put]
        clear hHeld
        have HX7 := Stow.mk (HPB.out.box.kept HB8.out)
        have q0 := HX7.out.cell (i := 0) rfl
        have q1 := HX7.out.cell (i := 1) rfl
        have q2 := HX7.out.cell (i := 2) rfl
        have f0 := HX7.out.free 0
        have f1 := HX7.out.free 1
        have f2 := HX7.out.free 2
        have y0 := HQ.out.cell (i := 0) rfl
        have y1 := HQ.out.cell (i := 1) rfl
        have y2 := HQ.out.cell (i := 2) rfl
        have hT := HT6.out
        rw [hT] at HPB
        obtain ⟨T, hTT⟩ : ∃ T, T6.1 = T := ⟨_, rfl⟩
        rw [show S.put xn xs xk xv = T6 from hT, hTT] at HPN
        rw [hTT] at HPB HQ H7 y0 y1 y2
        have hO1 : Only x W7 (W7.setCell ⟨x, 0, none⟩ (.int .i64 (T.nodes : Nat))) := Only.set _ _ 0 _
        have hO2 : Only x (W7.setCell ⟨x, 0, none⟩ (.int .i64 (T.nodes : Nat))) ((W7.setCell ⟨x, 0, none⟩ (.int .i64 (T.nodes : Nat))).setCell ⟨x, 1, none⟩ (.slice A6 (2 * T.nodes) cap6)) := Only.set _ _ 1 _
        have hO3 : Only x ((W7.setCell ⟨x, 0, none⟩ (.int .i64 (T.nodes : Nat))).setCell ⟨x, 1, none⟩ (.slice A6 (2 * T.nodes) cap6)) (((W7.setCell ⟨x, 0, none⟩ (.int .i64 (T.nodes : Nat))).setCell ⟨x, 1, none⟩ (.slice A6 (2 * T.nodes) cap6)).setCell ⟨x, 2, none⟩ (.int .i64 (T.lost : Nat))) := Only.set _ _ 2 _
        have hO := (hO1.trans hO2).trans hO3
        have HX8 := Stow.mk (((HX7.out.set 0 (.int .i64 (T.nodes : Nat))).set 1 (.slice A6 (2 * T.nodes) cap6)).set 2 (.int .i64 (T.lost : Nat)))
        have HPM := Stow.mk (PB2.midG HPB.out HB8.out H7.out HN8.out hO HX8.out)
        have HB9 := Stow.mk ((HB5.out.trans (HB8.out.mono HB5.out.size)).trans (hO.below HPB.out.x0 (HB5.out.trans (HB8.out.mono HB5.out.size)).size))
        clear hO hO1 hO2 hO3
        go_wp2_with fail
        refine ⟨⟨i + 1, ?_, by omega, ?_, HB9⟩, ?_⟩
        · congr 1
        · rw [HPN.out]
          exact Stow.mk ⟨_, _, _, _, HPM.out⟩
        · show L.length - ((i : Int) + 1).toNat < L.length - ((i : Int)).toNat
          omega
      · rw [if_pos (by rfl)]
        go_simp
        have ba : Below w5.heap.size w5 (w5.alloc (.cells #[.int .i64 0, .slice none 0 0, .int .i64 0] 73)).drew := Below.drew (Below.alloc' (Below.self w5) (.cells #[.int .i64 0, .slice none 0 0, .int .i64 0] 73))
        have HQ := Stow.mk (show Held (w5.alloc (.cells #[.int .i64 0, .slice none 0 0, .int .i64 0] 73)).drew w5.heap.size [.int .i64 0, .slice none 0 0, .int .i64 0] from (Held.made w5 [.int .i64 0, .slice none 0 0, .int .i64 0] 73).drew)
        have hcf := HCF.out (w5.alloc (.cells #[.int .i64 0, .slice none 0 0, .int .i64 0] 73)).drew (HWW5.out.trans (ba.mono HWW5.out.size))
        have hrg : (w5.alloc (.cells #[.int .i64 0, .slice none 0 0, .int .i64 0] 73)).drew.rangeAt x 0 (rfc A1 cap1 S) := fun j v hj => by rw [Nat.zero_add]; exact (HPB.out.box.kept ba).cell hj
        have HBa := Stow.mk ba
        have hs6 : (w5.alloc (.cells #[.int .i64 0, .slice none 0 0, .int .i64 0] 73)).drew.heap.size = w5.heap.size + 1 := by simp
        have hy5 : w5.heap.size ≤ w5.heap.size := Nat.le_refl _
        obtain ⟨y, hy⟩ : ∃ y, w5.heap.size = y := ⟨_, rfl⟩
        have hye := hy
        obtain ⟨Wa, hWa⟩ : ∃ W, (w5.alloc (.cells #[.int .i64 0, .slice none 0 0, .int .i64 0] 73)).drew = W := ⟨_, rfl⟩
        rw [hWa] at HQ HBa hcf hrg hs6
        rw [hy] at HQ
        have hy5 : w5.heap.size ≤ y := by omega
        rw [hWa, hy]
        refine hK.out _ _ ⟨hrg, hcf⟩ (fun hHeld => ?_)
        clear hK K hWa hcf hrg ba
        try simp only [List.getElem_toArray, List.getElem_cons_zero, List.getElem_cons_succ, Act.put, List.setIfInBounds_toArray, List.set_cons_zero, List.set_cons_succ]
        refine wpAnyH_ready (rs := [21]) (by kernel_rfl) (by simp) ?_
        refine AllReadyH.cons rfl (fun K hK => ?_) AllReadyH.nil
        rw [if_pos (by rfl)]
        go_simp
        refine (HRF.out _ HBa.out).mono ?_
        rintro e w6 ⟨A6, cap6, rows6, rfl, h6, hN6, hb6⟩
        have hb6' := (HBa.out).trans (hb6.mono (HBa.out).size)
        obtain ⟨T6, hT6⟩ : ∃ T, S.put xn xs xk xv = T := ⟨_, rfl⟩
        rw [hT6] at h6 ⊢
        have HT6 := Stow.mk hT6
        have H6 := Stow.mk h6
        have HN6 := Stow.mk (hN6 _ HPB.out.off)
        have HB6 := Stow.mk hb6'
        have hrg : w6.rangeAt x 0 (rfc A1 cap1 S) := fun j v hj => by rw [Nat.zero_add]; exact (HPB.out.box.kept hb6').cell hj
        have hcf := HCF.out w6 (HB.out.trans (HB5.out.mono HB.out.size) |>.trans (hb6'.mono (HB.out.trans (HB5.out.mono HB.out.size)).size))
        dsimp only
        refine hK.out _ _ ⟨hrg, hcf⟩ (fun hHeld => ?_)
        clear hK K hrg hcf hT6 h6 hN6
        try simp only [List.getElem_toArray, List.getElem_cons_zero, List.getElem_cons_succ, Act.put, List.setIfInBounds_toArray, List.set_cons_zero, List.set_cons_succ]
        refine wpAnyH_take (i := 22) (v := ?v22b) rfl (by kernel_rfl) (by kernel_rfl) (by kernel_rfl) (fun _ _ _ h => h) (Or.inl ⟨by rfl, ?hy22b⟩) (by assumption) ?rest22b
        case hy22b =>
          intro W hSW
          clear hSW
          go_simp
          try with_reducible rfl
        try simp only [List.getElem_toArray, List.getElem_cons_zero, List.getElem_cons_succ, Act.put, List.setIfInBounds_toArray, List.set_cons_zero, List.set_cons_succ]
        refine wpAnyH_take (i := 23) (v := ?v23b) rfl (by kernel_rfl) (by kernel_rfl) (by kernel_rfl) (fun _ _ _ h => h) (Or.inl ⟨by rfl, ?hy23b⟩) (by assumption) ?rest23b
        case hy23b =>
          intro W hSW
          clear hSW
          go_simp
          try with_reducible rfl
        try simp only [List.getElem_toArray, List.getElem_cons_zero, List.getElem_cons_succ, Act.put, List.setIfInBounds_toArray, List.set_cons_zero, List.set_cons_succ]
        refine wpAnyH_take (i := 24) (v := ?v24b) rfl (by kernel_rfl) (by kernel_rfl) (by kernel_rfl) (fun _ _ _ h => h) (Or.inl ⟨by rfl, ?hy24b⟩) (by assumption) ?rest24b
        case hy24b =>
          intro W hSW
          clear hSW
          go_simp
          try with_reducible rfl
        try simp only [List.getElem_toArray, List.getElem_cons_zero, List.getElem_cons_succ, Act.put, List.setIfInBounds_toArray, List.set_cons_zero, List.set_cons_succ]
        have HQ := Stow.mk (HQ.out.kept hb6)
        have HB7 := HB6
        obtain ⟨W6, hW6⟩ : ∃ W, w6 = W := ⟨_, rfl⟩
        rw [hW6] at HQ H6 HN6 hHeld hb6
        rw [hW6] at HB7
        rw [hW6]
        have hs7 := hb6.size
        have HN7 := Stow.mk (HN6.out.mono (N' := fun b => ((¬ F5 b ∧ b ≠ x) ∧ b < w5.heap.size) ∨ (w5.heap.size ≤ b ∧ b < W6.heap.size ∧ b ≠ y)) fun b hb => by
          rcases hb with hb | hb
          · exact .inl hb
          · have h1 := hb.1
            exact .inr ⟨by omega, hb.2, by omega⟩)
        clear hW6
        clear hb6 hb6'
        refine wpAnyH_ready (rs := [26]) (by kernel_rfl) (by simp) ?_
        refine AllReadyH.cons rfl (fun K hK => ?_) AllReadyH.nil
        rw [if_pos (by rfl)]
        refine wp_store_mid 73 (.tmp 7) (.tmp 62) ?zob y 0 (rfc A6 cap6 T6.1).toArray ?zxb ?zyb ?ztb ?zib (all_oneCell_toArray (by intro u hu; simp [rfc] at hu; rcases hu with rfl | rfl | rfl <;> rfl)) ?zhb
        case zob => rfl
        case zxb => rfl
        case zyb => rfl
        case ztb => exact HQ.out.there
        case zib => rfl
        rw [List.toList_toArray]
        have hO9 : Only y W6 (W6.setCells y 0 (rfc A6 cap6 T6.1)) := only_all _ _ _
        have HQ := Stow.mk (HQ.out.over (rfc A6 cap6 T6.1) rfl)
        have H7 := Stow.mk (H6.out.turn (Turn.of_grown (F := fun k => k = y) hO9 (.inl rfl)) (HN7.out.mono fun b hb => by
          rcases hb with hb | hb
          · have := hb.2; omega
          · exact hb.2.2))
        have hs9 := hO9.size
        have hxl := HPB.out.box.lt
        have HN8 := Stow.mk (HN7.out.mono (N' := fun b => ((¬ F5 b ∧ b ≠ x) ∧ b < w5.heap.size) ∨ (w5.heap.size ≤ b ∧ b < (W6.setCells y 0 (rfc A6 cap6 T6.1)).heap.size)) fun b hb => by
          rcases hb with hb | hb
          · exact .inl hb
          · exact .inr ⟨hb.1, by omega⟩)
        have HB8 := Stow.mk (HB7.out.trans (hO9.belw hy5 HB7.out.size))
        obtain ⟨W7, hW7⟩ : ∃ W, W6.setCells y 0 (rfc A6 cap6 T6.1) = W := ⟨_, rfl⟩
        rw [hW7] at HQ H7 HN8 HB8
        rw [hW7]
        have hcf := HCF.out W7 (HWW5.out.trans (HB8.out.mono HWW5.out.size))
        have hrg : W7.rangeAt x 0 (rfc A1 cap1 S) := fun j v hj => by rw [Nat.zero_add]; exact (HPB.out.box.kept HB8.out).cell hj
        refine hK.out _ _ ⟨hrg, hcf⟩ (fun hHeld => ?_)
        clear hK K hO9 hW7 hcf hrg H6 HN6 HN7 HB6 HB7 hs9
        try simp only [List.getElem_toArray, List.getElem_cons_zero, List.getElem_cons_succ, Act.put]
        refine wpAnyH_take (i := 27) (v := ?v27b) rfl (by kernel_rfl) (by kernel_rfl) (by kernel_rfl) (fun _ _ _ h => h) (Or.inl ⟨by rfl, ?hy27b⟩) (by assumption) ?rest27b
        case hy27b =>
          intro W hSW
          clear hSW
          go_simp
          try with_reducible rfl
        try simp only [List.getElem_toArray, List.getElem_cons_zero, List.getElem_cons_succ, Act.put, List.setIfInBounds_toArray, List.set_cons_zero, List.set_cons_succ]
        refine wpAnyH_done (by kernel_rfl) ?_ _
        try simp only [List.getElem_toArray, List.getElem_cons_zero, List.getElem_cons_succ, Act.put]
        clear hHeld
        have HX7 := Stow.mk (HPB.out.box.kept HB8.out)
        have q0 := HX7.out.cell (i := 0) rfl
        have q1 := HX7.out.cell (i := 1) rfl
        have q2 := HX7.out.cell (i := 2) rfl
        have f0 := HX7.out.free 0
        have f1 := HX7.out.free 1
        have f2 := HX7.out.free 2
        have y0 := HQ.out.cell (i := 0) rfl
        have y1 := HQ.out.cell (i := 1) rfl
        have y2 := HQ.out.cell (i := 2) rfl
        have hT := HT6.out
        rw [hT] at HPB
        obtain ⟨T, hTT⟩ : ∃ T, T6.1 = T := ⟨_, rfl⟩
        rw [show S.put xn xs xk xv = T6 from hT, hTT] at HPN
        rw [hTT] at HPB HQ H7 y0 y1 y2
        have hO1 : Only x W7 (W7.setCell ⟨x, 0, none⟩ (.int .i64 (T.nodes : Nat))) := Only.set _ _ 0 _
        have hO2 : Only x (W7.setCell ⟨x, 0, none⟩ (.int .i64 (T.nodes : Nat))) ((W7.setCell ⟨x, 0, none⟩ (.int .i64 (T.nodes : Nat))).setCell ⟨x, 1, none⟩ (.slice A6 (2 * T.nodes) cap6)) := Only.set _ _ 1 _
        have hO3 : Only x ((W7.setCell ⟨x, 0, none⟩ (.int .i64 (T.nodes : Nat))).setCell ⟨x, 1, none⟩ (.slice A6 (2 * T.nodes) cap6)) (((W7.setCell ⟨x, 0, none⟩ (.int .i64 (T.nodes : Nat))).setCell ⟨x, 1, none⟩ (.slice A6 (2 * T.nodes) cap6)).setCell ⟨x, 2, none⟩ (.int .i64 (T.lost : Nat))) := Only.set _ _ 2 _
        have hO := (hO1.trans hO2).trans hO3
        have HX8 := Stow.mk (((HX7.out.set 0 (.int .i64 (T.nodes : Nat))).set 1 (.slice A6 (2 * T.nodes) cap6)).set 2 (.int .i64 (T.lost : Nat)))
        have HPM := Stow.mk (PB2.midG HPB.out HB8.out H7.out HN8.out hO HX8.out)
        have HB9 := Stow.mk ((HB5.out.trans (HB8.out.mono HB5.out.size)).trans (hO.below HPB.out.x0 (HB5.out.trans (HB8.out.mono HB5.out.size)).size))
        clear hO hO1 hO2 hO3
        go_wp2_with fail
        refine ⟨⟨i + 1, ?_, by omega, ?_, HB9⟩, ?_⟩
        · congr 1
        · rw [HPN.out]
          exact Stow.mk ⟨_, _, _, _, HPM.out⟩
        · show L.length - ((i : Int) + 1).toNat < L.length - ((i : Int)).toNat
          omega
    · obtain rfl : i = L.length := by omega
      obtain ⟨F, A1, cap1, rows1, hPB⟩ := HBX.out
      rw [List.take_length] at hPB
      have hii : ¬ ((L.length : Int) < L.length) := by omega
      have HPB := Stow.mk hPB
      have q0 := hPB.box.cell (i := 0) rfl
      have q1 := hPB.box.cell (i := 1) rfl
      have q2 := hPB.box.cell (i := 2) rfl
      have HR := Stow.mk (HR0.out.kept HWR.out)
      have f0 := HR.out.free 0
      have f1 := HR.out.free 1
      have f2 := HR.out.free 2
      have p0 := HR.out.cell (i := 0) rfl
      have p1 := HR.out.cell (i := 1) rfl
      have p2 := HR.out.cell (i := 2) rfl
      obtain ⟨S, hS⟩ : ∃ S, Bk.play 4 L = S := ⟨_, rfl⟩
      rw [hS] at HPB q0 q1 q2
      have HSE := Stow.mk hS
      clear hPB hS HBX
      have hne : (x == w.heap.size) = false := by have := HR0.out.lt; have := HPB.out.x0; simp; omega
      have hne' : (w.heap.size == x) = false := by have := HR0.out.lt; have := HPB.out.x0; simp; omega
      go_wp2_with fail
      go_region
      all_goals
        have hO1 : Only w.heap.size wr (wr.setCell ⟨w.heap.size, 0, none⟩ (.int .i64 (S.nodes : Nat))) := Only.set _ _ 0 _
        have hO2 : Only w.heap.size (wr.setCell ⟨w.heap.size, 0, none⟩ (.int .i64 (S.nodes : Nat))) ((wr.setCell ⟨w.heap.size, 0, none⟩ (.int .i64 (S.nodes : Nat))).setCell ⟨w.heap.size, 1, none⟩ (.slice A1 (2 * S.nodes) cap1)) := Only.set _ _ 1 _
        have hO3 : Only w.heap.size ((wr.setCell ⟨w.heap.size, 0, none⟩ (.int .i64 (S.nodes : Nat))).setCell ⟨w.heap.size, 1, none⟩ (.slice A1 (2 * S.nodes) cap1)) (((wr.setCell ⟨w.heap.size, 0, none⟩ (.int .i64 (S.nodes : Nat))).setCell ⟨w.heap.size, 1, none⟩ (.slice A1 (2 * S.nodes) cap1)).setCell ⟨w.heap.size, 2, none⟩ (.int .i64 (S.lost : Nat))) := Only.set _ _ 2 _
        have hO := (hO1.trans hO2).trans hO3
        have HN := Stow.mk (((HR.out.set 0 (.int .i64 (S.nodes : Nat))).set 1 (.slice A1 (2 * S.nodes) cap1)).set 2 (.int .i64 (S.lost : Nat))).drew
        obtain ⟨W9, hW9⟩ : ∃ W, (((wr.setCell ⟨w.heap.size, 0, none⟩ (.int .i64 (S.nodes : Nat))).setCell ⟨w.heap.size, 1, none⟩ (.slice A1 (2 * S.nodes) cap1)).setCell ⟨w.heap.size, 2, none⟩ (.int .i64 (S.lost : Nat))) = W := ⟨_, rfl⟩
        rw [hW9] at hO HN
        rw [hW9]
        have hwl := HR0.out.lt
        have hs9 := hO.size
        have HBK := Stow.mk ((HPB.out.bk.turn (Turn.of_grown (F := fun k => k = w.heap.size) hO (.inl rfl)) (fun k hk e => by have := (HPB.out.low k hk).1; omega)).keep (Below.drew (Below.self W9)))
        have HLW := Stow.mk (show ∀ k, F k → w.heap.size ≤ k ∧ k < W9.drew.heap.size from fun k hk => ⟨by have := (HPB.out.low k hk).1; omega, by have := (HPB.out.low k hk).2; show k < W9.heap.size; omega⟩)
        have HB9 := Stow.mk (Below.drew ((HB.out.trans (HWR.out.mono HB.out.size)).trans (hO.below (Nat.le_refl _) (HB.out.trans (HWR.out.mono HB.out.size)).size)))
        clear hO hO1 hO2 hO3
        go_wp2_with fail
        refine bodyPost_ret (both_results _ w.heap.size _ _ _ (.pointer (some ⟨g, 0, none⟩)) _ HN.out rfl rfl) rfl ?_
        exact ⟨g, A1, cap1, F, by rw [HSE.out], by rw [HSE.out]; exact HBK.out, HLW.out, HB9.out⟩
end Go.Proofs.Ythbpcdoddcacdaa
