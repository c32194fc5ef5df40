/- Walk of the statement on a collector against the document's. Conditions: the texts' memory. -/
import Derived.Test.YtfbhdkkmcfnghaaGreatM45

section
namespace Go.Proofs.YtfbhdkkmcfnghaaGreat
open Go.RowKit
set_option linter.unusedVariables false
set_option linter.unusedSimpArgs false

/-- A collector and the reference's beside it, after m messages. -/
structure CoX (w : World) (g gx m : Nat) (c : Co) (v : Value) (W : List Wm) (A : Option Addr) (cap : Nat) (R : List Km) : Prop where
  com : CoM w (fun k => k ≠ g ∧ k ≠ gx) g c
  rf : RfS w c v W A cap R
  inw : InW (fun k => k ≠ g ∧ k ≠ gx) v W
  box : Held w gx (c.cells v A R.length cap)
  ok : c.Ok m
  un : c.trs.Nodup
theorem CoX.keep {w w' : World} {g gx m : Nat} {c : Co} {v : Value} {W : List Wm} {A : Option Addr} {cap : Nat} {R : List Km} (h : CoX w g gx m c v W A cap R) (hb : Below w.heap.size w w') : CoX w' g gx m c v W A cap R :=
  ⟨h.com.keep hb, h.rf.keep hb, h.inw, h.box.kept hb, h.ok, h.un⟩
theorem Co.noX {w : World} {c : Co} {v : Value} {W : List Wm} {A : Option Addr} {cap : Nat} {R : List Km} (h : RfS w c v W A cap R) : NoU (c.cells v A R.length cap) := by
  obtain ⟨A', cap', rfl⟩ := h.win.form
  intro k hk
  simp [Co.cells] at hk
set_option maxHeartbeats 8000000 in
set_option maxRecDepth 100000 in
theorem plays33 (r : Int) (A : Option Addr) (cap : Nat) (l : List (List UInt8)) (hi lo : Nat) (w : World) (hr : -9223372036854775808 ≤ r ∧ r ≤ 9223372036854775807) (hl : TxR w A cap l) (hlen : ∀ t ∈ l, t.length ≤ 140737488355328) :
    Calls Tryz.prog 3 #[.int .i64 r, .slice A l.length cap, .agg #[.int .u64 (hi : Int), .int .u64 (lo : Int)]] w fun e w' => e = .returned (.bool true) ∧ Below w.heap.size w w' := by
  have HL0 := Stow.mk hl
  have HLN := Stow.mk hlen
  have hmx : l.length ≤ 9223372036854775807 := by have := SlR.len hl; simpa using this
  have hb0 := Below.alloc' (Below.self w) (.cells #[.int .u64 (hi : Int), .int .u64 (lo : Int)] 25)
  have HT0 := Stow.mk (Held.made w [.int .u64 (hi : Int), .int .u64 (lo : Int)] 25)
  have HB0 := Stow.mk hb0
  clear hl hlen hb0
  by_cases h60 : 60 < l.length
  · have h60i : (60 : Int) < l.length := by omega
    go_enter Tryz.func3, Tryz.ntmps3
    go_wp2_with fail
    refine (known33_any _).mono ?_
    rintro e wk ⟨rfl, hbk⟩
    have HBK := Stow.mk (HB0.out.trans (hbk.mono HB0.out.size))
    clear hbk
    go_wp2_with fail
    go_ret
    exact ⟨rfl, HBK.out⟩
  have h60i : ¬ (60 : Int) < l.length := by omega
  go_enter Tryz.func3, Tryz.ntmps3
  go_upto_region 3 with fail
  obtain ⟨W0, hW0⟩ : ∃ W, w.alloc (.cells #[.int .u64 (hi : Int), .int .u64 (lo : Int)] 25) = W := ⟨_, rfl⟩
  rw [show w.alloc (.cells [.int .u64 (hi : Int), .int .u64 (lo : Int)].toArray 25) = W0 from hW0] at HT0
  rw [hW0] at HB0 ⊢
  clear hW0
  have hgt := HT0.out.lt
  go_wp2_with fail
  refine (coNew_any r _).mono ?_
  rintro e w1 ⟨g, rfl, hg0, hg1, hM, hb1⟩
  have HM := Stow.mk (hM (fun k => k ≠ g ∧ k ≠ w1.heap.size) (fun h => h.1 rfl))
  have HB := Stow.mk (HB0.out.trans (hb1.mono HB0.out.size))
  have HT := Stow.mk (HT0.out.kept hb1)
  have hb2 := Below.alloc' (Below.self w1) (.cells #[.int .i64 r, .slice none 0 0, .slice none 0 0, .int .i64 0, .int .i64 0, .int .i64 0, .int .i64 0] 32)
  have HX := Stow.mk (Held.made w1 [.int .i64 r, .slice none 0 0, .slice none 0 0, .int .i64 0, .int .i64 0, .int .i64 0, .int .i64 0] 32)
  go_upto_region 5 with fail
  obtain ⟨w2, hW2⟩ : ∃ W, w1.alloc (.cells #[.int .i64 r, .slice none 0 0, .slice none 0 0, .int .i64 0, .int .i64 0, .int .i64 0, .int .i64 0] 32) = W := ⟨_, rfl⟩
  rw [show w1.alloc (.cells [.int .i64 r, .slice none 0 0, .slice none 0 0, .int .i64 0, .int .i64 0, .int .i64 0, .int .i64 0].toArray 32) = w2 from hW2] at HX
  rw [hW2] at hb2 ⊢
  have HM := Stow.mk (HM.out.keep hb2)
  have HB := Stow.mk (HB.out.trans (hb2.mono HB.out.size))
  have HT := Stow.mk (HT.out.kept hb2)
  obtain ⟨gx, hgx⟩ : ∃ k, w1.heap.size = k := ⟨_, rfl⟩
  rw [hgx] at HM HX hg1 ⊢
  have hxl := HX.out.lt
  have HCX : Stow (CoX w2 g gx 0 ⟨r, [], [], 0, 0, 0, 0⟩ (.slice none 0 0) [] none 0 []) := ⟨HM.out, ⟨WinR.none _, rfl, ⟨SlR.nil _ _, by simp⟩, rfl, fun _ => rfl⟩, ⟨fun a n c e => by simp at e, by simp⟩, HX.out, Co.new_ok hr, by simp [Co.trs]⟩
  have hgg : g < gx := hg1
  have hgt0 : w.heap.size < g := by omega
  have hgt1 : W0.heap.size ≤ g := hg0
  clear hM hb1 hb2 hg0 hg1 hW2 hgx HM HX HT0 HB0
  go_wp2_with fail
  go_loopw [9, 10, 11, 12, 13, 14] (fun u _ _ _ _ _ wr => ∃ i : Nat, u = .int .i64 (i : Int) ∧ i ≤ l.length ∧ Stow (∃ c v W A' cap' R, CoX wr g gx i c v W A' cap' R) ∧ Stow (Below w.heap.size w wr) ∧ Stow (Held wr w.heap.size [.int .u64 (hi : Int), .int .u64 (lo : Int)]) ∧ gx < wr.heap.size) (fun u _ _ _ _ _ _ => l.length - (intOf u).toNat)
  case atStart => exact ⟨0, rfl, by omega, ⟨_, _, _, _, _, _, HCX.out⟩, HB, HT, hxl⟩
  case round =>
    obtain ⟨i, rfl, hil, HE, HB, HT, hxr⟩ := hrel
    obtain ⟨c, v, W, Ax, capx, R, hX⟩ := HE.out
    obtain ⟨Av, kv, rfl⟩ := hX.rf.win.form
    obtain ⟨n, hn⟩ : ∃ n, W.length = n := ⟨_, rfl⟩
    rw [hn] at hX
    clear HCX
    by_cases hlt : i < l.length
    · obtain ⟨b, off, rfl, hblt, _⟩ := SlR.open HL0.out (by simp; omega)
      have hmem := HLN.out _ (List.getElem_mem hlt)
      have HTX := Stow.mk (fun W' (hb : Below w.heap.size w W') => tx_at (TxR.keep HL0.out hb) hlt)
      obtain ⟨t, ht⟩ : ∃ t, l[i] = t := ⟨_, rfl⟩
      rw [ht] at hmem HTX
      have q0 := HTX.out wr HB.out
      have hii : (i : Int) < l.length := by omega
      have hi0 : (0 : Int) ≤ i := by omega
      clear ht HE
      by_cases h3 : 3000 < t.length
      · have h3i : (3000 : Int) < t.length := by omega
        go_wp2_with fail
        refine (known33_any _).mono ?_
        rintro e wk ⟨rfl, hbk⟩
        have HBK := Stow.mk (HB.out.trans (hbk.mono HB.out.size))
        clear hbk
        go_wp2_with fail
        go_ret
        exact ⟨rfl, HBK.out⟩
      · have h3i : ¬ (3000 : Int) < t.length := by omega
        have HX := Stow.mk hX
        obtain ⟨⟨c', sa, ea⟩, hq⟩ : ∃ q, c.recv t = q := ⟨_, rfl⟩
        have hk := coRecv_any hX.com hX.ok (by omega) (fun k hk => ⟨by omega, by omega⟩) t (by omega)
        have hrr := fun W' (hb : RfS W' c (.slice Av n kv) W Ax capx R) => rRecv_any hb hX.ok (by omega) t (by omega)
        have hok2 := Co.recv_ok hX.ok (l := t) (by omega)
        have hun2 := Co.recv_un hX.un t
        rw [hq] at hk hrr hok2 hun2
        simp only at hk hok2 hun2
        have HK := Stow.mk hk
        have HRR0 := Stow.mk hrr
        have HOK2 := Stow.mk hok2
        have HUN2 := Stow.mk hun2
        clear hX hk hrr hok2 hun2 hq
        go_wp2_with fail
        refine HK.out.mono ?_
        rintro e w3 ⟨rfl, hM3, ht3⟩
        obtain ⟨v6, W6, A6, cap6, R6, h6⟩ := HX.out.com
        have HS3 := Stow.mk (HX.out.rf.turn h6.head (Co.noU h6.row) ⟨fun a n c e => (HX.out.inw.1 a n c e).1, fun p hp a e => (HX.out.inw.2 p hp a e).1⟩ ht3)
        have HX3 := Stow.mk (HX.out.box.turn ht3 (by omega))
        have HT3 := Stow.mk (HT.out.turn ht3 (by omega))
        have HB3 := Stow.mk (HB.out.trans (ht3.below (fun i hi => by omega) HB.out.size))
        have HM3 := Stow.mk hM3
        have hs3 := ht3.size
        have q0 := HTX.out w3 HB3.out
        have HRR := Stow.mk (fun W' (hb : Below w3.heap.size w3 W') => HRR0.out W' (HS3.out.keep hb))
        have HIN := Stow.mk HX.out.inw
        have HNX : Stow (NoU (c.cells (.slice Av n kv) Ax R.length capx)) := ⟨by intro k hk; simp [Co.cells] at hk⟩
        have HRM := Stow.mk HX.out.ok.room
        have HOK := Stow.mk HX.out.ok
        clear h6 hM3 ht3 HK HT HB HX
        have hwb := HB3.out.size
        have hbw3 : b < w3.heap.size := by omega
        have HQ0 := Stow.mk (fun W' (hb : Below w3.heap.size w3 W') => HTX.out W' (HB3.out.trans (hb.mono HB3.out.size)))
        have HIN2 : Stow (InW (fun k => k ≠ g ∧ k ≠ gx ∧ k < w3.heap.size) (.slice Av n kv) W) := ⟨⟨fun a n c e => ⟨(HIN.out.1 a n c e).1, (HIN.out.1 a n c e).2, (HOK.out.inw HS3.out).1 a n c e⟩, fun p hp a e => ⟨(HIN.out.2 p hp a e).1, (HIN.out.2 p hp a e).2, (HOK.out.inw HS3.out).2 p hp a e⟩⟩⟩
        clear q0
        go_upto_region 11 with fail
        refine wp_region_held_drew (S := fun X => X.rangeAt gx 0 (c.cells (.slice Av n kv) Ax R.length capx) ∧ X.cell? ⟨b, off + i, none⟩ = some (.string (bs t))) (by kernel_rfl) ⟨HX3.out.range, HQ0.out w3 (Below.self w3)⟩ (fun hHeld => ?_)
        refine wpAnyH_take (i := 0) (v := .agg (c.cells (.slice Av n kv) Ax R.length capx).toArray) rfl (by kernel_rfl) (by kernel_rfl) (by kernel_rfl) (fun _ _ _ h => h) (yieldsIf_load_mid ?yw0 32 (.tmp 8) ?yo0 gx 0 ?yx0 (c.cells (.slice Av n kv) Ax R.length capx) _ ?ys0 Tryz.underlying32 rfl ?yi0) (by assumption) ?rest0
        case yw0 => rfl
        case yo0 => rfl
        case yx0 => simp [Act.eval]
        case ys0 => exact fun W hW => hW.1
        case yi0 => first | kernel_rfl | (simp only [Fm.cells_len]; kernel_rfl)
        try simp only [List.getElem_toArray, List.getElem_cons_zero, List.getElem_cons_succ, Act.put, List.setIfInBounds_toArray, List.set_cons_zero, List.set_cons_succ]
        refine wpAnyH_take (i := 1) (v := ?v1) rfl (by kernel_rfl) (by kernel_rfl) (by kernel_rfl) (fun _ _ _ h => h) (Or.inl ⟨by rfl, ?hy1⟩) (by assumption) ?rest1
        case hy1 =>
          intro W hSW
          try dsimp only at hSW
          obtain ⟨hs0, hs1⟩ := hSW
          go_simp
          try with_reducible rfl
        try simp only [List.getElem_toArray, List.getElem_cons_zero, List.getElem_cons_succ, Act.put, List.setIfInBounds_toArray, List.set_cons_zero, List.set_cons_succ]
        refine wpAnyH_take (i := 2) (v := ?v2) rfl (by kernel_rfl) (by kernel_rfl) (by kernel_rfl) (fun _ _ _ h => h) (Or.inl ⟨by rfl, ?hy2⟩) (by assumption) ?rest2
        case hy2 =>
          intro W hSW
          try dsimp only at hSW
          obtain ⟨hs0, hs1⟩ := hSW
          go_simp
          try with_reducible rfl
        try simp only [List.getElem_toArray, List.getElem_cons_zero, List.getElem_cons_succ, Act.put, List.setIfInBounds_toArray, List.set_cons_zero, List.set_cons_succ]
        refine wpAnyH_take (i := 3) (v := ?v3) rfl (by kernel_rfl) (by kernel_rfl) (by kernel_rfl) (fun _ _ _ h => h) (Or.inl ⟨by rfl, ?hy3⟩) (by assumption) ?rest3
        case hy3 =>
          intro W hSW
          try dsimp only at hSW
          obtain ⟨hs0, hs1⟩ := hSW
          go_simp
          try with_reducible rfl
        try simp only [List.getElem_toArray, List.getElem_cons_zero, List.getElem_cons_succ, Act.put, List.setIfInBounds_toArray, List.set_cons_zero, List.set_cons_succ]
        refine wpAnyH_take (i := 4) (v := ?v4) rfl (by kernel_rfl) (by kernel_rfl) (by kernel_rfl) (fun _ _ _ h => h) (Or.inl ⟨by rfl, ?hy4⟩) (by assumption) ?rest4
        case hy4 =>
          intro W hSW
          try dsimp only at hSW
          obtain ⟨hs0, hs1⟩ := hSW
          go_simp
          try with_reducible rfl
        try simp only [List.getElem_toArray, List.getElem_cons_zero, List.getElem_cons_succ, Act.put, List.setIfInBounds_toArray, List.set_cons_zero, List.set_cons_succ]
        refine wpAnyH_ready (rs := [5, 10]) (by kernel_rfl) (by simp) ?_
        refine AllReadyH.cons rfl (fun K hK => ?_) (AllReadyH.cons rfl (fun K hK => ?_) AllReadyH.nil)
        · rw [if_pos (by rfl)]
          go_simp
          refine (HRR.out _ (Below.drew (Below.self w3))).mono ?_
          rintro e w4 ⟨v4, W4, A4, cap4, R4, rfl, hS4, hb4, hP4⟩
          have hin4 := hP4 (fun k => k ≠ g ∧ k ≠ gx ∧ (k < w3.heap.size ∨ w3.heap.size ≤ k)) (fun k hk => by
            have hk' : w3.heap.size ≤ k := hk
            omega) ⟨fun a n c e => by have := HIN2.out.1 a n c e; omega, fun p hp a e => by have := HIN2.out.2 p hp a e; omega⟩
          have HI4 : Stow (InW (fun k => k ≠ g ∧ k ≠ gx ∧ k ≠ w4.heap.size) v4 W4) := ⟨⟨fun a n c e => by
            have h1 := hin4.1 a n c e
            have h2 := (HOK2.out.inw hS4).1 a n c e
            omega, fun p hp a e => by
            have h1 := hin4.2 p hp a e
            have h2 := (HOK2.out.inw hS4).2 p hp a e
            omega⟩⟩
          obtain ⟨Av4, kv4, rfl⟩ := hS4.win.form
          have HS4 := Stow.mk hS4
          have HB4 := Stow.mk ((Below.drew (Below.self w3)).trans hb4)
          dsimp only
          refine hK.out _ _ ⟨(HX3.out.kept HB4.out).range, HQ0.out _ HB4.out⟩ (fun hHeld => ?_)
          clear hK K hS4 hb4 hP4 hin4
          try simp only [List.getElem_toArray, List.getElem_cons_zero, List.getElem_cons_succ, Act.put, List.setIfInBounds_toArray, List.set_cons_zero, List.set_cons_succ]
          refine wpAnyH_take (i := 6) (v := ?v6a) rfl (by kernel_rfl) (by kernel_rfl) (by kernel_rfl) (fun _ _ _ h => h) (Or.inl ⟨by rfl, ?hy6a⟩) (by assumption) ?rest6a
          case hy6a =>
            intro W hSW
            clear hSW
            go_simp
            try with_reducible rfl
          try simp only [List.getElem_toArray, List.getElem_cons_zero, List.getElem_cons_succ, Act.put, List.setIfInBounds_toArray, List.set_cons_zero, List.set_cons_succ]
          refine wpAnyH_take (i := 7) (v := ?v7a) rfl (by kernel_rfl) (by kernel_rfl) (by kernel_rfl) (fun _ _ _ h => h) (Or.inl ⟨by rfl, ?hy7a⟩) (by assumption) ?rest7a
          case hy7a =>
            intro W hSW
            clear hSW
            go_simp
            try with_reducible rfl
          try simp only [List.getElem_toArray, List.getElem_cons_zero, List.getElem_cons_succ, Act.put, List.setIfInBounds_toArray, List.set_cons_zero, List.set_cons_succ]
          refine wpAnyH_take (i := 8) (v := ?v8a) rfl (by kernel_rfl) (by kernel_rfl) (by kernel_rfl) (fun _ _ _ h => h) (Or.inl ⟨by rfl, ?hy8a⟩) (by assumption) ?rest8a
          case hy8a =>
            intro W hSW
            clear hSW
            go_simp
            try with_reducible rfl
          try simp only [List.getElem_toArray, List.getElem_cons_zero, List.getElem_cons_succ, Act.put, List.setIfInBounds_toArray, List.set_cons_zero, List.set_cons_succ]
          refine wpAnyH_take (i := 9) (v := ?v9a) rfl (by kernel_rfl) (by kernel_rfl) (by kernel_rfl) (fun _ _ _ h => h) (Or.inl ⟨by rfl, ?hy9a⟩) (by assumption) ?rest9a
          case hy9a =>
            intro W hSW
            clear hSW
            go_simp
            try with_reducible rfl
          try simp only [List.getElem_toArray, List.getElem_cons_zero, List.getElem_cons_succ, Act.put, List.setIfInBounds_toArray, List.set_cons_zero, List.set_cons_succ]
          refine wpAnyH_ready (rs := [10]) (by kernel_rfl) (by simp) ?_
          refine AllReadyH.cons rfl (fun K hK => ?_) AllReadyH.nil
          rw [if_pos (by rfl)]
          go_simp
          have ba := Below.alloc' (Below.self w4) (.cells #[.int .i64 0, .slice none 0 0, .slice none 0 0, .int .i64 0, .int .i64 0, .int .i64 0, .int .i64 0] 32)
          have HZ := Stow.mk (Held.made w4 [.int .i64 0, .slice none 0 0, .slice none 0 0, .int .i64 0, .int .i64 0, .int .i64 0, .int .i64 0] 32)
          obtain ⟨y, hy⟩ : ∃ y, w4.heap.size = y := ⟨_, rfl⟩
          obtain ⟨W5, hW5⟩ : ∃ W, w4.alloc (.cells #[.int .i64 0, .slice none 0 0, .slice none 0 0, .int .i64 0, .int .i64 0, .int .i64 0, .int .i64 0] 32) = W := ⟨_, rfl⟩
          rw [show w4.alloc (.cells [.int .i64 0, .slice none 0 0, .slice none 0 0, .int .i64 0, .int .i64 0, .int .i64 0, .int .i64 0].toArray 32) = W5 from hW5, hy] at HZ
          have HS5 := Stow.mk (HS4.out.keep ba)
          have HB5 := Stow.mk (HB4.out.trans (ba.mono HB4.out.size))
          have HI5 := HI4
          have hyl : w3.heap.size ≤ y := by have := HB4.out.size; omega
          rw [hW5] at HS5 HB5 ⊢
          rw [hy] at HI5 ⊢
          refine hK.out _ _ ⟨(HX3.out.kept HB5.out).range, HQ0.out _ HB5.out⟩ (fun hHeld => ?_)
          clear hK K ba hW5 hy HS4 HB4 HI4
          try simp only [List.getElem_toArray, List.getElem_cons_zero, List.getElem_cons_succ, Act.put, List.setIfInBounds_toArray, List.set_cons_zero, List.set_cons_succ]
          refine wpAnyH_ready (rs := [11]) (by kernel_rfl) (by simp) ?_
          refine AllReadyH.cons rfl (fun K hK => ?_) AllReadyH.nil
          rw [if_pos (by rfl)]
          refine wp_store_mid 32 (.tmp 12) (.tmp 56) ?zoa y 0 (c'.cells (.slice Av4 W4.length kv4) A4 R4.length cap4).toArray ?zxa ?zya ?zta ?zia (all_oneCell_toArray (by intro u hu; simp [Co.cells] at hu; rcases hu with rfl | rfl | rfl | rfl | rfl | rfl | rfl <;> rfl)) ?zha
          case zoa => rfl
          case zxa => rfl
          case zya => rfl
          case zta => exact HZ.out.there
          case zia => rfl
          rw [List.toList_toArray]
          have hO6 : Only y W5 (W5.setCells y 0 (c'.cells (.slice Av4 W4.length kv4) A4 R4.length cap4)) := only_all _ _ _
          have HY := Stow.mk (HZ.out.over (c'.cells (.slice Av4 W4.length kv4) A4 R4.length cap4) rfl)
          have HS6 := Stow.mk (HS5.out.turn HZ.out (by intro k hk; simp at hk) ⟨fun a n c e => (HI5.out.1 a n c e).2.2, fun p hp a e => (HI5.out.2 p hp a e).2.2⟩ (Turn.of_grown (F := (· = y)) hO6 (.inl rfl)))
          have HB6 := Stow.mk (HB5.out.trans (hO6.below hyl HB5.out.size))
          obtain ⟨W6, hW6⟩ : ∃ W, W5.setCells y 0 (c'.cells (.slice Av4 W4.length kv4) A4 R4.length cap4) = W := ⟨_, rfl⟩
          rw [hW6] at HY HS6 HB6
          rw [hW6]
          refine hK.out _ _ ⟨(HX3.out.kept HB6.out).range, HQ0.out _ HB6.out⟩ (fun hHeld => ?_)
          clear hK K hO6 hW6 HS5 HB5 HZ
          try simp only [List.getElem_toArray, List.getElem_cons_zero, List.getElem_cons_succ, Act.put, List.setIfInBounds_toArray, List.set_cons_zero, List.set_cons_succ]
          refine wpAnyH_take (i := 12) (v := ?v12a) rfl (by kernel_rfl) (by kernel_rfl) (by kernel_rfl) (fun _ _ _ h => h) (Or.inl ⟨by rfl, ?hy12a⟩) (by assumption) ?rest12a
          case hy12a =>
            intro W hSW
            clear hSW
            go_simp
            try with_reducible rfl
          try simp only [List.getElem_toArray, List.getElem_cons_zero, List.getElem_cons_succ, Act.put, List.setIfInBounds_toArray, List.set_cons_zero, List.set_cons_succ]
          refine wpAnyH_take (i := 13) (v := ?v13a) rfl (by kernel_rfl) (by kernel_rfl) (by kernel_rfl) (fun _ _ _ h => h) (Or.inl ⟨by rfl, ?hy13a⟩) (by assumption) ?rest13a
          case hy13a =>
            intro W hSW
            clear hSW
            go_simp
            try with_reducible rfl
          try simp only [List.getElem_toArray, List.getElem_cons_zero, List.getElem_cons_succ, Act.put, List.setIfInBounds_toArray, List.set_cons_zero, List.set_cons_succ]
          refine wpAnyH_done (by kernel_rfl) ?_ _
          try simp only [List.getElem_toArray, List.getElem_cons_zero, List.getElem_cons_succ, Act.put]
          clear hHeld HRR
          have HX6 := Stow.mk (HX3.out.kept HB6.out)
          have HT6 := Stow.mk (HT3.out.kept HB6.out)
          have HM6 := Stow.mk (HM3.out.keep HB6.out)
          have HB7 := Stow.mk (HB3.out.trans (HB6.out.mono HB3.out.size))
          have hyg : gx < W6.heap.size := by have := HB6.out.size; omega
          clear HX3 HT3 HM3 HB3 HB6
          as_aux_lemma =>
            have hO7 : Only gx W6 (W6.setCells gx 0 (c'.cells (.slice Av4 W4.length kv4) A4 R4.length cap4)) := only_all _ _ _
            have hT7 : Turn (· = gx) W6 (W6.setCells gx 0 (c'.cells (.slice Av4 W4.length kv4) A4 R4.length cap4)) := Turn.of_grown hO7 (.inl rfl)
            have HCX : Stow (CoX (W6.setCells gx 0 (c'.cells (.slice Av4 W4.length kv4) A4 R4.length cap4)) g gx (i + 1) c' (.slice Av4 W4.length kv4) W4 A4 cap4 R4) := ⟨HM6.out.other hT7 (fun i hi hP => hP.2 hi) (by omega), HS6.out.turn HX6.out HNX.out ⟨fun a n c e => (HI5.out.1 a n c e).2.1, fun p hp a e => (HI5.out.2 p hp a e).2.1⟩ hT7, ⟨fun a n c e => ⟨(HI5.out.1 a n c e).1, (HI5.out.1 a n c e).2.1⟩, fun p hp a e => ⟨(HI5.out.2 p hp a e).1, (HI5.out.2 p hp a e).2.1⟩⟩, HX6.out.over _ rfl, HOK2.out, HUN2.out⟩
            have HB8 := Stow.mk (HB7.out.trans (hO7.below (by omega) HB7.out.size))
            have HT8 := Stow.mk (HT6.out.turn hT7 (by omega))
            have hs8 := Nat.lt_of_lt_of_le hyg hO7.size
            have HXT := Stow.mk HX6.out.there
            have HYR := Stow.mk HY.out.range
            clear hO7 hT7
            go_upto_region 13 with (first
              | (refine wpList_load_mid rfl 32 (.tmp 12) rfl y 0 rfl (c'.cells (.slice Av4 W4.length kv4) A4 R4.length cap4) _ HYR.out Tryz.underlying32 rfl (by kernel_rfl) ?_)
              | (refine wpList_store_hx rfl 32 (.tmp 8) (.tmp 59) rfl rfl gx 0 (c'.cells (.slice Av4 W4.length kv4) A4 R4.length cap4) rfl rfl HXT.out (by kernel_rfl) (by intro u hu; simp [Co.cells] at hu; rcases hu with rfl | rfl | rfl | rfl | rfl | rfl | rfl <;> rfl) ?_))
            obtain ⟨w7, hw7⟩ : ∃ W, W6.setCells gx 0 (c'.cells (.slice Av4 W4.length kv4) A4 R4.length cap4) = W := ⟨_, rfl⟩
            rw [hw7] at HCX HB8 HT8 hs8
            rw [hw7]
            clear hw7 HXT HYR
            go_wp2_with fail
            exact ⟨⟨i + 1, by simp, by omega, ⟨_, _, _, _, _, _, HCX.out⟩, HB8, HT8, hs8⟩, by simp [intOf]; omega⟩
        · rw [if_pos (by rfl)]
          go_simp
          have ba : Below w3.heap.size w3 (w3.alloc (.cells #[.int .i64 0, .slice none 0 0, .slice none 0 0, .int .i64 0, .int .i64 0, .int .i64 0, .int .i64 0] 32)).drew := Below.drew (Below.alloc' (Below.self w3) (.cells #[.int .i64 0, .slice none 0 0, .slice none 0 0, .int .i64 0, .int .i64 0, .int .i64 0, .int .i64 0] 32))
          have hz : Held (w3.alloc (.cells #[.int .i64 0, .slice none 0 0, .slice none 0 0, .int .i64 0, .int .i64 0, .int .i64 0, .int .i64 0] 32)).drew w3.heap.size [.int .i64 0, .slice none 0 0, .slice none 0 0, .int .i64 0, .int .i64 0, .int .i64 0, .int .i64 0] := (Held.made w3 [.int .i64 0, .slice none 0 0, .slice none 0 0, .int .i64 0, .int .i64 0, .int .i64 0, .int .i64 0] 32).drew
          have hsz : (w3.alloc (.cells #[.int .i64 0, .slice none 0 0, .slice none 0 0, .int .i64 0, .int .i64 0, .int .i64 0, .int .i64 0] 32)).drew.heap.size = w3.heap.size + 1 := by simp
          obtain ⟨Wa, hWa⟩ : ∃ W, (w3.alloc (.cells #[.int .i64 0, .slice none 0 0, .slice none 0 0, .int .i64 0, .int .i64 0, .int .i64 0, .int .i64 0] 32)).drew = W := ⟨_, rfl⟩
          obtain ⟨y, hy⟩ : ∃ y, w3.heap.size = y := ⟨_, rfl⟩
          have hyl : w3.heap.size ≤ y := by omega
          rw [hWa] at ba hz hsz ⊢
          rw [hy] at hz ⊢
          have HBA := Stow.mk ba
          have HZA := Stow.mk hz
          have HSZ := Stow.mk hsz
          refine hK.out _ _ ⟨(HX3.out.kept HBA.out).range, HQ0.out _ HBA.out⟩ (fun hHeld => ?_)
          clear hK K hWa ba hz hsz
          try simp only [List.getElem_toArray, List.getElem_cons_zero, List.getElem_cons_succ, Act.put, List.setIfInBounds_toArray, List.set_cons_zero, List.set_cons_succ]
          refine wpAnyH_ready (rs := [5]) (by kernel_rfl) (by simp) ?_
          refine AllReadyH.cons rfl (fun K hK => ?_) AllReadyH.nil
          rw [if_pos (by rfl)]
          go_simp
          refine (HRR.out _ HBA.out).mono ?_
          rintro e w4 ⟨v4, W4, A4, cap4, R4, rfl, hS4, hb4, hP4⟩
          have hin4 := hP4 (fun k => k ≠ g ∧ k ≠ gx ∧ (k < w3.heap.size ∨ w3.heap.size + 1 ≤ k)) (fun k hk => by have := HSZ.out; omega) ⟨fun a n c e => by have := HIN2.out.1 a n c e; omega, fun p hp a e => by have := HIN2.out.2 p hp a e; omega⟩
          have HI5 : Stow (InW (fun k => k ≠ g ∧ k ≠ gx ∧ k ≠ y) v4 W4) := ⟨⟨fun a n c e => by
            have h1 := hin4.1 a n c e
            omega, fun p hp a e => by
            have h1 := hin4.2 p hp a e
            omega⟩⟩
          obtain ⟨Av4, kv4, rfl⟩ := hS4.win.form
          have HS5 := Stow.mk hS4
          have HB5 := Stow.mk (HBA.out.trans (hb4.mono HBA.out.size))
          have HZ := Stow.mk (HZA.out.kept hb4)
          dsimp only
          refine hK.out _ _ ⟨(HX3.out.kept HB5.out).range, HQ0.out _ HB5.out⟩ (fun hHeld => ?_)
          clear hK K hS4 hb4 hP4 hin4 HBA HZA HSZ hy
          try simp only [List.getElem_toArray, List.getElem_cons_zero, List.getElem_cons_succ, Act.put, List.setIfInBounds_toArray, List.set_cons_zero, List.set_cons_succ]
          refine wpAnyH_take (i := 6) (v := ?v6b) rfl (by kernel_rfl) (by kernel_rfl) (by kernel_rfl) (fun _ _ _ h => h) (Or.inl ⟨by rfl, ?hy6b⟩) (by assumption) ?rest6b
          case hy6b =>
            intro W hSW
            clear hSW
            go_simp
            try with_reducible rfl
          try simp only [List.getElem_toArray, List.getElem_cons_zero, List.getElem_cons_succ, Act.put, List.setIfInBounds_toArray, List.set_cons_zero, List.set_cons_succ]
          refine wpAnyH_take (i := 7) (v := ?v7b) rfl (by kernel_rfl) (by kernel_rfl) (by kernel_rfl) (fun _ _ _ h => h) (Or.inl ⟨by rfl, ?hy7b⟩) (by assumption) ?rest7b
          case hy7b =>
            intro W hSW
            clear hSW
            go_simp
            try with_reducible rfl
          try simp only [List.getElem_toArray, List.getElem_cons_zero, List.getElem_cons_succ, Act.put, List.setIfInBounds_toArray, List.set_cons_zero, List.set_cons_succ]
          refine wpAnyH_take (i := 8) (v := ?v8b) rfl (by kernel_rfl) (by kernel_rfl) (by kernel_rfl) (fun _ _ _ h => h) (Or.inl ⟨by rfl, ?hy8b⟩) (by assumption) ?rest8b
          case hy8b =>
            intro W hSW
            clear hSW
            go_simp
            try with_reducible rfl
          try simp only [List.getElem_toArray, List.getElem_cons_zero, List.getElem_cons_succ, Act.put, List.setIfInBounds_toArray, List.set_cons_zero, List.set_cons_succ]
          refine wpAnyH_take (i := 9) (v := ?v9b) rfl (by kernel_rfl) (by kernel_rfl) (by kernel_rfl) (fun _ _ _ h => h) (Or.inl ⟨by rfl, ?hy9b⟩) (by assumption) ?rest9b
          case hy9b =>
            intro W hSW
            clear hSW
            go_simp
            try with_reducible rfl
          try simp only [List.getElem_toArray, List.getElem_cons_zero, List.getElem_cons_succ, Act.put, List.setIfInBounds_toArray, List.set_cons_zero, List.set_cons_succ]
          obtain ⟨W5, hW5⟩ : ∃ W, w4 = W := ⟨_, rfl⟩
          rw [hW5] at HS5 HB5 HZ hHeld ⊢
          clear hW5
          refine wpAnyH_ready (rs := [11]) (by kernel_rfl) (by simp) ?_
          refine AllReadyH.cons rfl (fun K hK => ?_) AllReadyH.nil
          rw [if_pos (by rfl)]
          refine wp_store_mid 32 (.tmp 12) (.tmp 56) ?zob y 0 (c'.cells (.slice Av4 W4.length kv4) A4 R4.length cap4).toArray ?zxb ?zyb ?ztb ?zib (all_oneCell_toArray (by intro u hu; simp [Co.cells] at hu; rcases hu with rfl | rfl | rfl | rfl | rfl | rfl | rfl <;> rfl)) ?zhb
          case zob => rfl
          case zxb => rfl
          case zyb => rfl
          case ztb => exact HZ.out.there
          case zib => rfl
          rw [List.toList_toArray]
          have hO6 : Only y W5 (W5.setCells y 0 (c'.cells (.slice Av4 W4.length kv4) A4 R4.length cap4)) := only_all _ _ _
          have HY := Stow.mk (HZ.out.over (c'.cells (.slice Av4 W4.length kv4) A4 R4.length cap4) rfl)
          have HS6 := Stow.mk (HS5.out.turn HZ.out (by intro k hk; simp at hk) ⟨fun a n c e => (HI5.out.1 a n c e).2.2, fun p hp a e => (HI5.out.2 p hp a e).2.2⟩ (Turn.of_grown (F := (· = y)) hO6 (.inl rfl)))
          have HB6 := Stow.mk (HB5.out.trans (hO6.below hyl HB5.out.size))
          obtain ⟨W6, hW6⟩ : ∃ W, W5.setCells y 0 (c'.cells (.slice Av4 W4.length kv4) A4 R4.length cap4) = W := ⟨_, rfl⟩
          rw [hW6] at HY HS6 HB6
          rw [hW6]
          refine hK.out _ _ ⟨(HX3.out.kept HB6.out).range, HQ0.out _ HB6.out⟩ (fun hHeld => ?_)
          clear hK K hO6 hW6 HS5 HB5 HZ
          try simp only [List.getElem_toArray, List.getElem_cons_zero, List.getElem_cons_succ, Act.put, List.setIfInBounds_toArray, List.set_cons_zero, List.set_cons_succ]
          refine wpAnyH_take (i := 12) (v := ?v12b) rfl (by kernel_rfl) (by kernel_rfl) (by kernel_rfl) (fun _ _ _ h => h) (Or.inl ⟨by rfl, ?hy12b⟩) (by assumption) ?rest12b
          case hy12b =>
            intro W hSW
            clear hSW
            go_simp
            try with_reducible rfl
          try simp only [List.getElem_toArray, List.getElem_cons_zero, List.getElem_cons_succ, Act.put, List.setIfInBounds_toArray, List.set_cons_zero, List.set_cons_succ]
          refine wpAnyH_take (i := 13) (v := ?v13b) rfl (by kernel_rfl) (by kernel_rfl) (by kernel_rfl) (fun _ _ _ h => h) (Or.inl ⟨by rfl, ?hy13b⟩) (by assumption) ?rest13b
          case hy13b =>
            intro W hSW
            clear hSW
            go_simp
            try with_reducible rfl
          try simp only [List.getElem_toArray, List.getElem_cons_zero, List.getElem_cons_succ, Act.put, List.setIfInBounds_toArray, List.set_cons_zero, List.set_cons_succ]
          refine wpAnyH_done (by kernel_rfl) ?_ _
          try simp only [List.getElem_toArray, List.getElem_cons_zero, List.getElem_cons_succ, Act.put]
          clear hHeld HRR
          have HX6 := Stow.mk (HX3.out.kept HB6.out)
          have HT6 := Stow.mk (HT3.out.kept HB6.out)
          have HM6 := Stow.mk (HM3.out.keep HB6.out)
          have HB7 := Stow.mk (HB3.out.trans (HB6.out.mono HB3.out.size))
          have hyg : gx < W6.heap.size := by have := HB6.out.size; omega
          clear HX3 HT3 HM3 HB3 HB6
          as_aux_lemma =>
            have hO7 : Only gx W6 (W6.setCells gx 0 (c'.cells (.slice Av4 W4.length kv4) A4 R4.length cap4)) := only_all _ _ _
            have hT7 : Turn (· = gx) W6 (W6.setCells gx 0 (c'.cells (.slice Av4 W4.length kv4) A4 R4.length cap4)) := Turn.of_grown hO7 (.inl rfl)
            have HCX : Stow (CoX (W6.setCells gx 0 (c'.cells (.slice Av4 W4.length kv4) A4 R4.length cap4)) g gx (i + 1) c' (.slice Av4 W4.length kv4) W4 A4 cap4 R4) := ⟨HM6.out.other hT7 (fun i hi hP => hP.2 hi) (by omega), HS6.out.turn HX6.out HNX.out ⟨fun a n c e => (HI5.out.1 a n c e).2.1, fun p hp a e => (HI5.out.2 p hp a e).2.1⟩ hT7, ⟨fun a n c e => ⟨(HI5.out.1 a n c e).1, (HI5.out.1 a n c e).2.1⟩, fun p hp a e => ⟨(HI5.out.2 p hp a e).1, (HI5.out.2 p hp a e).2.1⟩⟩, HX6.out.over _ rfl, HOK2.out, HUN2.out⟩
            have HB8 := Stow.mk (HB7.out.trans (hO7.below (by omega) HB7.out.size))
            have HT8 := Stow.mk (HT6.out.turn hT7 (by omega))
            have hs8 := Nat.lt_of_lt_of_le hyg hO7.size
            have HXT := Stow.mk HX6.out.there
            have HYR := Stow.mk HY.out.range
            clear hO7 hT7
            go_upto_region 13 with (first
              | (refine wpList_load_mid rfl 32 (.tmp 12) rfl y 0 rfl (c'.cells (.slice Av4 W4.length kv4) A4 R4.length cap4) _ HYR.out Tryz.underlying32 rfl (by kernel_rfl) ?_)
              | (refine wpList_store_hx rfl 32 (.tmp 8) (.tmp 59) rfl rfl gx 0 (c'.cells (.slice Av4 W4.length kv4) A4 R4.length cap4) rfl rfl HXT.out (by kernel_rfl) (by intro u hu; simp [Co.cells] at hu; rcases hu with rfl | rfl | rfl | rfl | rfl | rfl | rfl <;> rfl) ?_))
            obtain ⟨w7, hw7⟩ : ∃ W, W6.setCells gx 0 (c'.cells (.slice Av4 W4.length kv4) A4 R4.length cap4) = W := ⟨_, rfl⟩
            rw [hw7] at HCX HB8 HT8 hs8
            rw [hw7]
            clear hw7 HXT HYR
            go_wp2_with fail
            exact ⟨⟨i + 1, by simp, by omega, ⟨_, _, _, _, _, _, HCX.out⟩, HB8, HT8, hs8⟩, by simp [intOf]; omega⟩
    · obtain rfl : i = l.length := by omega
      have hii : ¬ (l.length : Int) < l.length := by omega
      have HX := Stow.mk hX
      have HNX : Stow (NoU (c.cells (.slice Av n kv) Ax R.length capx)) := ⟨by intro k hk; simp [Co.cells] at hk⟩
      have t0 := HT.out.cell (i := 0) rfl
      have t1 := HT.out.cell (i := 1) rfl
      have HK1 := Stow.mk (fun W' (hb : Below wr.heap.size wr W') => coKept_any (hX.com.keep hb) hX.ok hi lo)
      have HK2 := Stow.mk (fun W' (hb : Below wr.heap.size wr W') => rGet_any Ax capx R hi lo W' (hX.rf.keep hb).ks (by
        have h1 := hX.ok.fine.len
        rw [← hX.rf.kk, List.length_map] at h1
        omega))
      have HV1 := Stow.mk (fun W' (hb : Below wr.heap.size wr W') => coVerdict_any (hX.com.keep hb) hX.ok hi lo)
      have HV2 := Stow.mk (fun W' (hb : Below wr.heap.size wr W') => rVerdict_any (hX.rf.keep hb) hX.ok hi lo)
      have HSM := Stow.mk (fun W' (hb : Below wr.heap.size wr W') => same33_any (hX.com.keep hb) (hX.rf.keep hb) hX.ok (by omega) hX.un)
      have hkk := hX.rf.kk
      rw [hkk] at HK2
      obtain ⟨q, hq⟩ : ∃ q, St.get c.K hi lo = q := ⟨_, rfl⟩
      rw [hq] at HK1 HK2 HV1 HV2
      obtain ⟨sd, hsd⟩ : ∃ n, saidK q = n := ⟨_, rfl⟩
      rw [hsd] at HV1 HV2
      obtain ⟨qk, qb⟩ := q
      have HBW := HB
      have HX2 := Stow.mk (hX.box.cell (i := 2) rfl)
      clear hX hkk hq hsd HE HL0 HLN
      unfold Co.cells at HV2 HSM
      go_wp2_with fail
      refine (HK1.out _ (Below.self wr)).mono ?_
      rintro e w4 ⟨⟨⟨mh, ml, mL, mx, mc⟩, mA, mcap⟩, rfl, hk4, hR4, hb4⟩
      simp only at hk4
      subst hk4
      have hx4 := Below.alloc' (Below.self w4) (.cells #[.int .u64 (mh : Int), .int .u64 (ml : Int), .slice mA mL.length mcap, .bool mx, .bool mc] 40)
      have hH4 := Held.made w4 [.int .u64 (mh : Int), .int .u64 (ml : Int), .slice mA mL.length mcap, .bool mx, .bool mc] 40
      have HR4 := Stow.mk (hR4.keep hx4)
      have HB4 := Stow.mk (hb4.trans (hx4.mono hb4.size))
      have HT4 := Stow.mk (HT.out.kept HB4.out)
      have HX4 := Stow.mk (HX.out.keep HB4.out)
      obtain ⟨W4, hW4⟩ : ∃ W, w4.alloc (.cells #[.int .u64 (mh : Int), .int .u64 (ml : Int), .slice mA mL.length mcap, .bool mx, .bool mc] 40) = W := ⟨_, rfl⟩
      rw [show w4.alloc (.cells [.int .u64 (mh : Int), .int .u64 (ml : Int), .slice mA mL.length mcap, .bool mx, .bool mc].toArray 40) = W4 from hW4] at hH4
      have HH4 := Stow.mk hH4
      rw [hW4] at HR4 HB4 HT4 HX4
      have HW4 := Stow.mk hW4
      clear hx4 hH4 hR4 hb4 hW4 t0 t1
      dsimp only [Km.cells]
      go_upto_region 16 with fail
      rw [HW4.out]
      have t0 := HT4.out.cell (i := 0) rfl
      have t1 := HT4.out.cell (i := 1) rfl
      have x2 := HX4.out.box.cell (i := 2) rfl
      go_wp2_with fail
      refine (HK2.out _ HB4.out).mono ?_
      rintro e w5 ⟨⟨⟨nh, nl, nL, nx, nc⟩, nA, ncap⟩, rfl, hk5, hR5, hb5⟩
      simp only at hk5
      obtain ⟨e1, e2, e3, e4, e5⟩ := Kp.mk.inj hk5
      subst e1 e2 e3 e4 e5
      have hx5 := Below.alloc' (Below.self w5) (.cells #[.int .u64 (nh : Int), .int .u64 (nl : Int), .slice nA nL.length ncap, .bool nx, .bool nc] 40)
      have hH5 := Held.made w5 [.int .u64 (nh : Int), .int .u64 (nl : Int), .slice nA nL.length ncap, .bool nx, .bool nc] 40
      have HR5 := Stow.mk (hR5.keep hx5)
      have HB5 := Stow.mk (HB4.out.trans ((hb5.trans (hx5.mono hb5.size)).mono HB4.out.size))
      have HR4 := Stow.mk ((HR4.out.keep hb5).keep hx5)
      have HH4 := Stow.mk ((HH4.out.kept hb5).kept hx5)
      obtain ⟨W5, hW5⟩ : ∃ W, w5.alloc (.cells #[.int .u64 (nh : Int), .int .u64 (nl : Int), .slice nA nL.length ncap, .bool nx, .bool nc] 40) = W := ⟨_, rfl⟩
      rw [show w5.alloc (.cells [.int .u64 (nh : Int), .int .u64 (nl : Int), .slice nA nL.length ncap, .bool nx, .bool nc].toArray 40) = W5 from hW5] at hH5
      have HH5 := Stow.mk hH5
      rw [hW5] at HR4 HR5 HB5 HH4
      have HW5 := Stow.mk hW5
      clear hx5 hH5 hR5 hb5 hW5 t0 t1 x2 hk5
      dsimp only [Km.cells]
      go_upto_region 17 with fail
      rw [HW5.out]
      clear HW5 HW4
      have HT5 := Stow.mk (HT.out.kept HB5.out)
      have HX5 := Stow.mk (HX.out.box.kept HB5.out)
      have HONE := Stow.mk (fun W (hb : Below W5.heap.size W5 W) => rOne_any ⟨⟨nh, nl, nL, nx, nc⟩, mA, mcap⟩ ⟨⟨nh, nl, nL, nx, nc⟩, nA, ncap⟩ W rfl (HR4.out.keep hb) (HR5.out.keep hb))
      have HBR := Stow.mk (fun W' (hb : Below W5.heap.size W5 W') => HB5.out.trans (hb.mono HB5.out.size))
      have HSF : Stow (∀ W', Below W5.heap.size W5 W' → W'.cell? ⟨gx, 0, none⟩ = some (.int .i64 c.room) ∧ W'.cell? ⟨gx, 1, none⟩ = some (.slice Av n kv) ∧ W'.cell? ⟨gx, 2, none⟩ = some (.slice Ax R.length capx) ∧ W'.cell? ⟨gx, 3, none⟩ = some (.int .i64 (c.tk : Nat)) ∧ W'.cell? ⟨gx, 4, none⟩ = some (.int .i64 (c.tw : Nat)) ∧ W'.cell? ⟨gx, 5, none⟩ = some (.int .i64 (c.bd : Nat)) ∧ W'.cell? ⟨gx, 6, none⟩ = some (.int .i64 (c.ev : Nat)) ∧ W'.cell? ⟨w4.heap.size, 0, none⟩ = some (.int .u64 (nh : Int)) ∧ W'.cell? ⟨w4.heap.size, 1, none⟩ = some (.int .u64 (nl : Int)) ∧ W'.cell? ⟨w4.heap.size, 2, none⟩ = some (.slice mA nL.length mcap) ∧ W'.cell? ⟨w4.heap.size, 3, none⟩ = some (.bool nx) ∧ W'.cell? ⟨w4.heap.size, 4, none⟩ = some (.bool nc) ∧ W'.cell? ⟨w5.heap.size, 0, none⟩ = some (.int .u64 (nh : Int)) ∧ W'.cell? ⟨w5.heap.size, 1, none⟩ = some (.int .u64 (nl : Int)) ∧ W'.cell? ⟨w5.heap.size, 2, none⟩ = some (.slice nA nL.length ncap) ∧ W'.cell? ⟨w5.heap.size, 3, none⟩ = some (.bool nx) ∧ W'.cell? ⟨w5.heap.size, 4, none⟩ = some (.bool nc) ∧ W'.cell? ⟨w.heap.size, 0, none⟩ = some (.int .u64 (hi : Int)) ∧ W'.cell? ⟨w.heap.size, 1, none⟩ = some (.int .u64 (lo : Int))) := ⟨fun W' hb => ⟨(HX5.out.kept hb).cell (i := 0) rfl, (HX5.out.kept hb).cell (i := 1) rfl, (HX5.out.kept hb).cell (i := 2) rfl, (HX5.out.kept hb).cell (i := 3) rfl, (HX5.out.kept hb).cell (i := 4) rfl, (HX5.out.kept hb).cell (i := 5) rfl, (HX5.out.kept hb).cell (i := 6) rfl, (HH4.out.kept hb).cell (i := 0) rfl, (HH4.out.kept hb).cell (i := 1) rfl, (HH4.out.kept hb).cell (i := 2) rfl, (HH4.out.kept hb).cell (i := 3) rfl, (HH4.out.kept hb).cell (i := 4) rfl, (HH5.out.kept hb).cell (i := 0) rfl, (HH5.out.kept hb).cell (i := 1) rfl, (HH5.out.kept hb).cell (i := 2) rfl, (HH5.out.kept hb).cell (i := 3) rfl, (HH5.out.kept hb).cell (i := 4) rfl, (HT5.out.kept hb).cell (i := 0) rfl, (HT5.out.kept hb).cell (i := 1) rfl⟩⟩
      have hkk := HSF.out W5 (Below.self W5)
      obtain ⟨k0, k1, k2, k3, k4, k5, k6, k7, k8, k9, k10, k11, k12, k13, k14, k15, k16, k17, k18⟩ := HSF.out W5 (Below.self W5)
      have hdd : Below W5.heap.size W5 W5.drew := Below.drew (Below.self W5)
      have HBZ := Stow.mk (HBW.out.trans (HB5.out.mono HBW.out.size))
      clear HH4 HH5 HT5 HX5 HR4 HR5 HX4 HT4 HX HK1 HK2 HB4
      as_aux_lemma =>
        go_region_held3 (fun W' => W'.cell? ⟨gx, 0, none⟩ = some (.int .i64 c.room) ∧ W'.cell? ⟨gx, 1, none⟩ = some (.slice Av n kv) ∧ W'.cell? ⟨gx, 2, none⟩ = some (.slice Ax R.length capx) ∧ W'.cell? ⟨gx, 3, none⟩ = some (.int .i64 (c.tk : Nat)) ∧ W'.cell? ⟨gx, 4, none⟩ = some (.int .i64 (c.tw : Nat)) ∧ W'.cell? ⟨gx, 5, none⟩ = some (.int .i64 (c.bd : Nat)) ∧ W'.cell? ⟨gx, 6, none⟩ = some (.int .i64 (c.ev : Nat)) ∧ W'.cell? ⟨w4.heap.size, 0, none⟩ = some (.int .u64 (nh : Int)) ∧ W'.cell? ⟨w4.heap.size, 1, none⟩ = some (.int .u64 (nl : Int)) ∧ W'.cell? ⟨w4.heap.size, 2, none⟩ = some (.slice mA nL.length mcap) ∧ W'.cell? ⟨w4.heap.size, 3, none⟩ = some (.bool nx) ∧ W'.cell? ⟨w4.heap.size, 4, none⟩ = some (.bool nc) ∧ W'.cell? ⟨w5.heap.size, 0, none⟩ = some (.int .u64 (nh : Int)) ∧ W'.cell? ⟨w5.heap.size, 1, none⟩ = some (.int .u64 (nl : Int)) ∧ W'.cell? ⟨w5.heap.size, 2, none⟩ = some (.slice nA nL.length ncap) ∧ W'.cell? ⟨w5.heap.size, 3, none⟩ = some (.bool nx) ∧ W'.cell? ⟨w5.heap.size, 4, none⟩ = some (.bool nc) ∧ W'.cell? ⟨w.heap.size, 0, none⟩ = some (.int .u64 (hi : Int)) ∧ W'.cell? ⟨w.heap.size, 1, none⟩ = some (.int .u64 (lo : Int))) (first | go_keep | exact hkk)
          (first
            | (go_at_call 12; (first | have HC := HBm | have HC := Stow.mk hdd); refine (HSM.out _ (HBR.out _ HC.out)).mono ?_; rintro e w6 ⟨rfl, hb6⟩; have HBm := Stow.mk (HC.out.trans (hb6.mono HC.out.size)); have hkk := HSF.out _ HBm.out)
            | (go_at_call 13; have HC := HBm; refine (HONE.out _ HC.out).mono ?_; rintro e w7 ⟨rfl, hb7⟩; have HBm := Stow.mk (HC.out.trans (hb7.mono HC.out.size)); have hkk := HSF.out _ HBm.out)
            | (go_at_call 14; have HC := HBm; refine (HV1.out _ (HBR.out _ HC.out)).mono ?_; rintro e w8 ⟨rfl, hb8⟩; have HBm := Stow.mk (HC.out.trans (hb8.mono HC.out.size)); have hkk := HSF.out _ HBm.out)
            | (go_at_call 15; have HC := HBm; refine (HV2.out _ (HBR.out _ HC.out)).mono ?_; rintro e w9 ⟨rfl, hb9⟩; have HBm := Stow.mk (HC.out.trans (hb9.mono HC.out.size)); have hkk := HSF.out _ HBm.out)
            | (go_at_call 6; have HC := HBm; refine (known33_any _).mono ?_; rintro e w10 ⟨rfl, hb10⟩; have HBm := Stow.mk (HC.out.trans (hb10.mono HC.out.size)); have hkk := HSF.out _ HBm.out))
        all_goals
          have HBE := Stow.mk (HBZ.out.trans (HBm.out.mono HBZ.out.size))
          clear hkk k0 k1 k2 k3 k4 k5 k6 k7 k8 k9 k10 k11 k12 k13 k14 k15 k16 k17 k18
          go_wp2_with fail
          go_ret
          exact ⟨rfl, HBE.out⟩
end Go.Proofs.YtfbhdkkmcfnghaaGreat
end
