/- Walk of the statement on batches that come in another order. Conditions: the batches' memory.; The statement on batches in another order, of arguments as they come in. Conditions: those of the form. -/
import Derived.Test.YtfbhdkkmcfnghaaGreatM39
import Derived.Test.YtfbhdkkmcfnghaaGreatM44
import Derived.Test.YtfbhdkkmcfnghaaGreatM46
import Derived.Test.YtfbhdkkmcfnghaaGreatM31

section
namespace Go.Proofs.YtfbhdkkmcfnghaaGreat
open Go.RowKit
set_option linter.unusedVariables false
set_option linter.unusedSimpArgs false

/-- A batch, and where its spans lie. -/
structure Bx where
  m : Bm
  A : Option Addr
  cap : Nat
def Bx.cells (b : Bx) : List Value := [.int .i64 b.m.n, .int .i64 b.m.q, .slice b.A b.m.L.length b.cap]
def Bx.ok (w : World) (b : Bx) : Prop := SlR w 11 (.slice b.A b.m.L.length b.cap) (b.m.L.map Sp.cells) ∧ ∀ s ∈ b.m.L, s.fits
theorem bx_at {w : World} {b off n cap k : Nat} {l : List Bx} (h : SlR w 3 (.slice (some ⟨b, off, none⟩) n cap) (l.map Bx.cells)) (hk : k < l.length) : w.cell? ⟨b, off + k * 3, none⟩ = some (.int .i64 l[k].m.n) ∧ w.cell? ⟨b, off + k * 3 + 1, none⟩ = some (.int .i64 l[k].m.q) ∧ w.cell? ⟨b, off + k * 3 + 2, none⟩ = some (.slice l[k].A l[k].m.L.length l[k].cap) := by
  obtain ⟨hb, hc⟩ := h.cells (i := k) (x := l[k].cells) (by rw [List.getElem?_map, List.getElem?_eq_getElem hk]; rfl)
  exact ⟨hc 0 _ rfl, hc 1 _ rfl, hc 2 _ rfl⟩
def tv (m : Bm) : Value := .string (bs (Co.txt m))
set_option maxHeartbeats 8000000 in
set_option maxRecDepth 100000 in
theorem order33 (A : Option Addr) (cap : Nat) (l : List Bx) (w : World) (hl : SlR w 3 (.slice A l.length cap) (l.map Bx.cells)) (hok : ∀ b ∈ l, b.ok w) :
    Calls Tryz.prog 5 #[.slice A l.length cap] w fun e w' => e = .returned (.bool true) ∧ Below w.heap.size w w' := by
  have HL0 := Stow.mk hl
  have HOK := Stow.mk hok
  have hmx : l.length ≤ 9223372036854775807 := by have := SlR.len hl; simpa using this
  clear hl hok
  go_enter Tryz.func5, Tryz.ntmps5
  go_wp2_with fail
  refine (coNew_any 32 _).mono ?_
  rintro e w1 ⟨ga, rfl, ha0, ha1, hMa, hb1⟩
  have HMA := Stow.mk hMa
  have HB1 := Stow.mk hb1
  clear hMa hb1
  go_wp2_with fail
  refine (coNew_any 32 _).mono ?_
  rintro e w2 ⟨gb, rfl, hg0, hg1, hMb, hb2⟩
  have hgab : ga < gb := by omega
  have HA := Stow.mk ((HMA.out (fun k => k ≠ ga ∧ k ≠ gb) (fun h => h.1 rfl)).keep hb2)
  have HBB := Stow.mk (hMb (fun k => k ≠ ga ∧ k ≠ gb) (fun h => h.2 rfl))
  have HB2 := Stow.mk (HB1.out.trans (hb2.mono HB1.out.size))
  obtain ⟨B, hB⟩ : ∃ B, w2.heap.size = B := ⟨_, rfl⟩
  have hgw : w.heap.size ≤ ga := ha0
  rw [hB] at hg1
  have HBE := Stow.mk hB
  have hwB : w.heap.size ≤ B := by omega
  clear hMb hb2 HMA HB1 ha0 ha1 hg0 hB
  go_wp2_with fail
  go_loopw [5, 6, 7, 8, 9] (fun o u _ _ _ wr => ∃ i : Nat, u = .int .i64 (i : Int) ∧ i ≤ l.length ∧ Stow (Co.Seen33 ((l.take i).map Bx.m)) ∧ Stow (wr.ownsRow B 9 1 o (((l.take i).map Bx.m).filter Co.good).length ((((l.take i).map Bx.m).filter Co.good).map tv)) ∧ Stow (Below w.heap.size w wr) ∧ Stow (Below B w2 wr) ∧ Stow (0 < i → l.length ≤ 12)) (fun _ u _ _ _ _ => l.length - (intOf u).toNat)
  case atStart => exact ⟨0, rfl, by omega, ⟨Co.Seen33.nil⟩, ⟨World.ownsRow_nil _ _ _ _⟩, HB2, ⟨Below.refl _ _⟩, ⟨by omega⟩⟩
  case round =>
    obtain ⟨i, rfl, hil, HS, HO, HBW, HBR, H12⟩ := hrel
    obtain ⟨G, hG⟩ : ∃ G, ((l.take i).map Bx.m).filter Co.good = G := ⟨_, rfl⟩
    have HG := Stow.mk hG
    rw [hG] at HO
    clear hG
    obtain ⟨Ao, co, rfl⟩ := own_form HO.out
    by_cases hlt : i < l.length
    · obtain ⟨b, off, rfl, hblt, _⟩ := SlR.open HL0.out (by simp; omega)
      obtain ⟨q0, q1, q2⟩ := bx_at (SlR.keep HL0.out HBW.out) hlt
      have HMEM := Stow.mk (HOK.out _ (List.getElem_mem hlt))
      have HNX : Stow ((l.take (i + 1)).map Bx.m = (l.take i).map Bx.m ++ [l[i].m]) := ⟨by rw [List.take_succ_eq_append_getElem hlt, List.map_append]; rfl⟩
      obtain ⟨y, hy⟩ : ∃ y, l[i] = y := ⟨_, rfl⟩
      have HY := Stow.mk hy
      rw [hy] at q0 q1 q2 HMEM HNX
      obtain ⟨⟨yn, yq, yL⟩, yA, ycap⟩ := y
      simp only at q0 q1 q2 HMEM HNX
      have hii : (i : Int) < l.length := by omega
      have hi0 : (0 : Int) ≤ i := by omega
      clear hy
      by_cases h12 : 12 < l.length
      · have h12i : (12 : Int) < l.length := by omega
        go_wp2_with fail
        refine (known33_any _).mono ?_
        rintro e wk ⟨rfl, hbk⟩
        have HBK := Stow.mk (HBW.out.trans (hbk.mono HBW.out.size))
        clear hbk
        go_wp2_with fail
        go_ret
        exact ⟨rfl, HBK.out⟩
      have h12i : ¬ (12 : Int) < l.length := by omega
      by_cases h5 : 5 < yL.length
      · have h5i : (5 : Int) < yL.length := by omega
        go_wp2_with fail
        refine (known33_any _).mono ?_
        rintro e wk ⟨rfl, hbk⟩
        have HBK := Stow.mk (HBW.out.trans (hbk.mono HBW.out.size))
        clear hbk
        go_wp2_with fail
        go_ret
        exact ⟨rfl, HBK.out⟩
      have h5i : ¬ (5 : Int) < yL.length := by omega
      by_cases h99 : 99 < yq
      · go_wp2_with fail
        refine (known33_any _).mono ?_
        rintro e wk ⟨rfl, hbk⟩
        have HBK := Stow.mk (HBW.out.trans (hbk.mono HBW.out.size))
        clear hbk
        go_wp2_with fail
        go_ret
        exact ⟨rfl, HBK.out⟩
      have HQ := Stow.mk (And.intro h5 h99)
      obtain ⟨W0, hW0⟩ : ∃ W, W = wr := ⟨_, rfl⟩
      subst hW0
      go_upto_region 9 with fail
      clear q0 q1 q2
      go_loopw [7] (fun u wr => ∃ k : Nat, u = .int .i64 (k : Int) ∧ k ≤ i ∧ Stow (∀ j (hj : j < l.length), j < k → ¬ (l[j].m.n = yn ∧ l[j].m.q = yq)) ∧ Stow (Below W0.heap.size W0 wr)) (fun u _ => i - (intOf u).toNat)
      case atStart => exact ⟨0, rfl, by omega, ⟨fun j hj h => by omega⟩, ⟨Below.self _⟩⟩
      case round =>
        obtain ⟨k, rfl, hki, HN, HBK⟩ := hrel
        have hbw := HBW.out.trans (HBK.out.mono HBW.out.size)
        have HBWK := Stow.mk hbw
        obtain ⟨q0, q1, q2⟩ := bx_at (SlR.keep HL0.out hbw) hlt
        rw [HY.out] at q0 q1 q2
        simp only at q0 q1 q2
        by_cases hk : k < i
        · obtain ⟨p0, p1, p2⟩ := bx_at (SlR.keep HL0.out hbw) (show k < l.length by omega)
          have HKJ : Stow ((l[k]'(by omega)).m.n = (l[k]'(by omega)).m.n) := ⟨rfl⟩
          obtain ⟨z, hz⟩ : ∃ z, l[k]'(show k < l.length by omega) = z := ⟨_, rfl⟩
          have HZ := Stow.mk hz
          rw [hz] at p0 p1 p2
          obtain ⟨⟨zn, zq, zL⟩, zA, zcap⟩ := z
          simp only at p0 p1 p2
          have hkk : (k : Int) < i := by omega
          have hk0 : (0 : Int) ≤ k := by omega
          have hkl : (k : Int) < l.length := by omega
          clear hz HKJ hbw p2 q2
          by_cases hn : zn = yn
          · by_cases hq : zq = yq
            · subst hn hq
              go_wp2_with fail
              go_quiet (fail)
              go_wp2_with fail
              refine (known33_any _).mono ?_
              rintro e wk ⟨rfl, hbk⟩
              have HBK := Stow.mk (Below.trans (Below.drewN' HBWK.out _) (hbk.mono (Below.drewN' HBWK.out _).size))
              clear hbk
              go_wp2_with fail
              go_ret
              exact ⟨rfl, HBK.out⟩
            · have hqd : decide (zq = yq) = false := by simpa using hq
              subst hn
              go_wp2_with fail
              go_quiet (fail)
              go_wp2_with fail
              exact ⟨⟨k + 1, by simp, by omega, ⟨fun j hj hjk => by
                by_cases hjl : j < k
                · exact HN.out j hj hjl
                · obtain rfl : j = k := by omega
                  rw [HZ.out]
                  simpa using hq⟩, ⟨Below.drewN' HBK.out _⟩⟩, by simp [intOf]; omega⟩
          · have hnd : decide (zn = yn) = false := by simpa using hn
            go_wp2_with fail
            go_quiet (fail)
            go_wp2_with fail
            exact ⟨⟨k + 1, by simp, by omega, ⟨fun j hj hjk => by
              by_cases hjl : j < k
              · exact HN.out j hj hjl
              · obtain rfl : j = k := by omega
                rw [HZ.out]
                intro h; exact hn h.1⟩, ⟨Below.drewN' HBK.out _⟩⟩, by simp [intOf]; omega⟩
        · obtain rfl : k = i := by omega
          have hkk : ¬ (k : Int) < k := by omega
          have HB0 := Stow.mk hbw
          have HO0 := Stow.mk (own_kept HO.out HBK.out)
          have HR0 := Stow.mk (HBR.out.trans (HBK.out.mono (by have h1 := HBR.out.size; have h2 := HBE.out; omega)))
          have HWR := Stow.mk (refBtWrite_any yn yq yA ycap yL wr (SlR.keep HMEM.out.1 hbw) HMEM.out.2)
          have HSN : Stow (Co.Seen33 ((l.take (k + 1)).map Bx.m)) := ⟨by
            rw [HNX.out]
            refine HS.out.more (by have := HQ.out.2; simp only; omega) (by have := HQ.out.1; simp only; omega) (fun x hx => ?_)
            obtain ⟨z, hz, rfl⟩ := List.mem_map.1 hx
            obtain ⟨j, hj, rfl⟩ := List.getElem_of_mem hz
            rw [List.length_take] at hj
            rw [List.getElem_take]
            exact HN.out j (by omega) (by omega)⟩
          have h12' : Stow (0 < k + 1 → l.length ≤ 12) := ⟨fun _ => by omega⟩
          cases hgd : Co.good ⟨yn, yq, yL⟩ with
          | false =>
            have hwb := Co.write_bad hgd
            simp only at hwb
            obtain ⟨⟨tx, er⟩, htx⟩ : ∃ q, btWrite yn yq yL = q := ⟨_, rfl⟩
            rw [htx] at HWR hwb
            simp only at HWR hwb
            have hGN : Stow (((l.take (k + 1)).map Bx.m).filter Co.good = G) := ⟨by rw [HNX.out, List.filter_append, HG.out]; simp [hgd]⟩
            have her : ¬ (er : Int) = 0 := by omega
            clear hbw htx hgd hwb
            go_wp2_with fail
            refine HWR.out.mono ?_
            rintro e w5 ⟨rfl, hb5⟩
            have HB5 := Stow.mk (HB0.out.trans (hb5.mono HB0.out.size))
            have HO5 := Stow.mk (own_kept HO0.out hb5)
            have HR5 := Stow.mk (HR0.out.trans (hb5.mono (by have h1 := HR0.out.size; have h2 := HBE.out; omega)))
            clear hb5 q0 q1 q2 HWR
            go_wp2_with fail
            exact ⟨⟨k + 1, by simp, by omega, HSN, ⟨by rw [hGN.out]; exact HO5.out⟩, HB5, HR5, h12'⟩, by simp [intOf]; omega⟩
          | true =>
            have hwg := Co.write_good hgd
            have htl := Co.txt_len hgd
            simp only at hwg
            rw [hwg] at HWR
            simp only at HWR
            have hGN : Stow (((l.take (k + 1)).map Bx.m).filter Co.good = G ++ [⟨yn, yq, yL⟩]) := ⟨by rw [HNX.out, List.filter_append, HG.out]; simp [hgd]⟩
            have hGl : G.length ≤ k := by
              rw [← HG.out]
              refine Nat.le_trans (List.length_filter_le _ _) ?_
              simp; omega
            have K8 : Stow ((G.length + 1) * 16 ≤ 140737488355328 ∧ G.length + 1 ≤ maxLen) := ⟨by omega, by unfold maxLen; omega⟩
            have HBS := Stow.mk (show ∀ W, Below wr.heap.size wr W → B ≤ W.heap.size from fun W h => by
              have h1 := HR0.out.size
              have h2 := h.size
              have h3 := HBE.out
              omega)
            obtain ⟨tx, htx⟩ : ∃ t, Co.txt ⟨yn, yq, yL⟩ = t := ⟨_, rfl⟩
            rw [htx] at HWR
            have HTV : Stow (tv ⟨yn, yq, yL⟩ = .string (bs tx)) := ⟨by unfold tv; rw [htx]⟩
            clear hbw htx hgd hwg htl hGl
            go_wp2_with fail
            refine HWR.out.mono ?_
            rintro e w5 ⟨rfl, hb5⟩
            have HB5 := Stow.mk (HB0.out.trans (hb5.mono HB0.out.size))
            have HO5 := Stow.mk (own_kept HO0.out hb5)
            have HR5 := Stow.mk (HR0.out.trans (hb5.mono (by have h1 := HR0.out.size; have h2 := HBE.out; omega)))
            have hB5 := HBS.out w5 hb5
            clear hb5 q0 q1 q2 HWR
            go_upto_region 5 with (at_builtin; refine wpList_append_elem_form w5 [.string (bs tx)] _ rfl (.tmp 86) (.tmp 88) 22 rfl B 9 _ 1 16 Tryz.underlying22 info_txt _ _ _ HO5.out rfl _ rfl rfl rfl (by decide) rfl (by intro u hu; simp at hu; subst hu; rfl) K8.out.1 K8.out.2 hB5 ?_; intro A6 cap6 w6 hown6 hg6 hb6 hs6; have H6 := Stow.mk hown6; have HB6 := Stow.mk (HB5.out.trans (hb6.mono hwB)); have HR6 := Stow.mk (HR5.out.trans hb6); clear hown6 hg6 hb6 hs6)
            go_wp2_with fail
            refine ⟨⟨k + 1, by simp, by omega, HSN, ⟨?_⟩, HB6, HR6, h12'⟩, by simp [intOf]; omega⟩
            rw [hGN.out, List.length_append, List.map_append, List.map_cons, List.map_nil, HTV.out]
            exact H6.out
    · obtain rfl : i = l.length := by omega
      have hii : ¬ (l.length : Int) < l.length := by omega
      rw [List.take_length] at HS HG
      have hG := HG.out
      have hgl : G.length ≤ l.length := by
        rw [← hG]
        refine Nat.le_trans (List.length_filter_le _ _) ?_
        simp
      have H12L : Stow (l.length ≤ 12) := ⟨by
        rcases Nat.eq_zero_or_pos l.length with h | h
        · omega
        · exact H12.out h⟩
      have HGD : Stow (∀ m ∈ G, Co.good m = true ∧ ∀ s ∈ m.L, s.fits) := ⟨fun m hm => by
        rw [← hG] at hm
        obtain ⟨h1, h2⟩ := List.mem_filter.1 hm
        obtain ⟨z, hz, rfl⟩ := List.mem_map.1 h1
        exact ⟨h2, (HOK.out z hz).2⟩⟩
      have h2B := HBE.out
      have HAR := Stow.mk (HA.out.keep (by rw [h2B]; exact HBR.out))
      have HBR2 := Stow.mk (HBB.out.keep (by rw [h2B]; exact HBR.out))
      have hBs : B ≤ wr.heap.size := by have := HBR.out.size; omega
      clear hG h2B HA HBB HBR HOK HL0
      go_upto_region 17 with fail
      have HFO := Stow.mk (Co.feed_order HS.out (by rw [List.length_map]; exact H12L.out) 32)
      rw [HG.out] at HFO
      have HAR : Stow (CoM wr (fun k => k ≠ ga ∧ k ≠ gb) ga (Co.feed ⟨32, [], [], 0, 0, 0, 0⟩ (G.take 0)) ∧ (Co.feed ⟨32, [], [], 0, 0, 0, 0⟩ (G.take 0)).Ok 0) := ⟨HAR.out, Co.new_ok (by decide)⟩
      have HBR2 : Stow (CoM wr (fun k => k ≠ ga ∧ k ≠ gb) gb (Co.feed ⟨32, [], [], 0, 0, 0, 0⟩ (G.reverse.take 0)) ∧ (Co.feed ⟨32, [], [], 0, 0, 0, 0⟩ (G.reverse.take 0)).Ok 0) := ⟨HBR2.out, Co.new_ok (by decide)⟩
      have hgl12 : G.length ≤ 12 := Nat.le_trans hgl H12L.out
      obtain ⟨W9, hW9⟩ : ∃ W, W = wr := ⟨_, rfl⟩
      subst hW9
      clear HS HG HBE hgl H12 H12L
      as_aux_lemma =>
        go_loopw [10] (fun u wr => ∃ i : Nat, u = .int .i64 (i : Int) ∧ i ≤ G.length ∧ Stow (CoM wr (fun k => k ≠ ga ∧ k ≠ gb) ga (Co.feed ⟨32, [], [], 0, 0, 0, 0⟩ (G.take i)) ∧ (Co.feed ⟨32, [], [], 0, 0, 0, 0⟩ (G.take i)).Ok i) ∧ Stow (CoM wr (fun k => k ≠ ga ∧ k ≠ gb) gb (Co.feed ⟨32, [], [], 0, 0, 0, 0⟩ (G.reverse.take i)) ∧ (Co.feed ⟨32, [], [], 0, 0, 0, 0⟩ (G.reverse.take i)).Ok i) ∧ Stow (wr.ownsRow B 9 1 (.slice Ao G.length co) G.length (G.map tv)) ∧ Stow (Below w.heap.size w wr) ∧ B ≤ wr.heap.size) (fun u _ => G.length - (intOf u).toNat)
        case atStart => exact ⟨0, rfl, by omega, HAR, HBR2, HO, HBW, hBs⟩
        case round =>
          obtain ⟨i, rfl, hi, HCA, HCB, HO, HBW, hBs⟩ := hrel
          clear HAR HBR2
          by_cases hlt : i < G.length
          · obtain ⟨p, hp⟩ : ∃ p : Nat, G.length = i + 1 + p := ⟨G.length - 1 - i, by omega⟩
            have hpl : p < G.length := by omega
            have hir : i < G.reverse.length := by rw [List.length_reverse]; exact hlt
            have hrp : G.reverse[i] = G[p] := by rw [List.getElem_reverse]; congr 1; omega
            obtain ⟨hg1, hf1⟩ := HGD.out _ (List.getElem_mem hlt)
            obtain ⟨hg2, hf2⟩ := HGD.out _ (List.getElem_mem hpl)
            obtain ⟨go, cpo, hvo, _, hgo⟩ := World.ownsRow.form HO.out (by omega)
            simp only [Value.slice.injEq] at hvo
            obtain ⟨rfl, _, rfl⟩ := hvo
            have q1 := World.ownsRow.cells HO.out rfl i (tv G[i]) (by simp [hlt])
            have q2 := World.ownsRow.cells HO.out rfl p (tv G[p]) (by simp [hpl])
            rw [Addr.add_lit, Nat.zero_add] at q1 q2
            have t1 : Co.feed ⟨32, [], [], 0, 0, 0, 0⟩ (G.take (i + 1)) = (Co.feed ⟨32, [], [], 0, 0, 0, 0⟩ (G.take i)).add G[i].n G[i].q G[i].L := by rw [List.take_succ_eq_append_getElem hlt, Co.feed_snoc]
            have t2 : Co.feed ⟨32, [], [], 0, 0, 0, 0⟩ (G.reverse.take (i + 1)) = (Co.feed ⟨32, [], [], 0, 0, 0, 0⟩ (G.reverse.take i)).add G[p].n G[p].q G[p].L := by rw [List.take_succ_eq_append_getElem hir, Co.feed_snoc, hrp]
            rw [← Co.recv_txt _ hg1 hf1] at t1
            rw [← Co.recv_txt _ hg2 hf2] at t2
            have l1 := Co.txt_len hg1
            have l2 := Co.txt_len hg2
            have K1 := coRecv_any HCA.out.1 HCA.out.2 (by omega) (fun k hk => ⟨by omega, by omega⟩) (Co.txt G[i]) (by omega)
            have HRB := Stow.mk (fun W' (hM : CoM W' (fun k => k ≠ ga ∧ k ≠ gb) gb (Co.feed ⟨32, [], [], 0, 0, 0, 0⟩ (G.reverse.take i))) (hs : B ≤ W'.heap.size) => coRecv_any hM HCB.out.2 (by omega) (fun k hk => ⟨by omega, by omega⟩) (Co.txt G[p]) (by omega))
            have o1 := Co.recv_ok HCA.out.2 (l := Co.txt G[i]) (by omega)
            have o2 := Co.recv_ok HCB.out.2 (l := Co.txt G[p]) (by omega)
            rw [← t1] at K1 o1
            rw [← t2] at HRB o2
            have HK1 := Stow.mk K1
            have HO1 := Stow.mk o1
            have HO2 := Stow.mk o2
            have HCBM := Stow.mk HCB.out.1
            unfold tv at q1 q2
            generalize Co.txt G[i] = tx1 at q1 HK1
            generalize Co.txt G[p] = tx2 at q2 HRB
            have HHP := Stow.mk hp
            have HQ2 : Stow (∀ W, Only ga W9 W → True) := ⟨fun _ _ => trivial⟩
            have hii : (i : Int) < G.length := by omega
            have hi0 : (0 : Int) ≤ i := by omega
            have hpp : (G.length : Int) - 1 - i = p := by omega
            clear hg1 hg2 hf1 hf2 t1 t2 l1 l2 K1 o1 o2 hrp hp HCA HCB
            go_wp2_with fail
            refine HK1.out.mono ?_
            rintro e w3 ⟨rfl, hM3, ht3⟩
            have HMA := Stow.mk hM3
            have HMB := Stow.mk (HCBM.out.other ht3 (fun i hi hP => hP.1 hi) (by omega))
            have HO3 := Stow.mk (own_undr HO.out (turn_only ht3) (by omega))
            have HB3 := Stow.mk (HBW.out.trans (ht3.below (fun i hi => by omega) HBW.out.size))
            have hB3 := Nat.le_trans hBs ht3.size
            have q2 : w3.cell? ⟨go, p, none⟩ = some (.string (bs tx2)) := by
              have := World.cell?_of_block (w := wr) (w' := w3) (a := ⟨go, p, none⟩) (ht3.block go hgo (by omega))
              rw [this]
              exact q2
            have HRC := Stow.mk (HRB.out w3 HMB.out hB3)
            clear hM3 ht3 HK1 HCBM HO HBW q1 HRB
            go_wp2_with fail
            refine HRC.out.mono ?_
            rintro e w4 ⟨rfl, hM4, ht4⟩
            have HMB := Stow.mk hM4
            have HMA := Stow.mk (HMA.out.other ht4 (fun i hi hP => hP.2 hi) (by omega))
            have HO4 := Stow.mk (own_undr HO3.out (turn_only ht4) (by omega))
            have HB4 := Stow.mk (HB3.out.trans (ht4.below (fun i hi => by omega) HB3.out.size))
            have hB4 := Nat.le_trans hB3 ht4.size
            clear hM4 ht4 HRC HO3 HB3 q2
            go_wp2_with fail
            exact ⟨⟨i + 1, by simp, by omega, ⟨HMA.out, HO1.out⟩, ⟨HMB.out, HO2.out⟩, HO4, HB4, hB4⟩, by simp [intOf]; omega⟩
          · obtain rfl : i = G.length := by omega
            have hii : ¬ (G.length : Int) < G.length := by omega
            rw [List.take_length] at HCA
            rw [List.take_of_length_le (by simp)] at HCB
            have hMA := HCA.out.1
            have hMB := HCB.out.1
            have hOA := HCA.out.2
            have hOB := HCB.out.2
            have hfo := HFO.out
            generalize Co.feed ⟨32, [], [], 0, 0, 0, 0⟩ G = ca at *
            generalize Co.feed ⟨32, [], [], 0, 0, 0, 0⟩ G.reverse = cb at *
            have HMA := Stow.mk hMA
            have HMB := Stow.mk hMB
            have HOA := Stow.mk hOA
            have HOB := Stow.mk hOB
            clear hMA hMB hOA hOB HCA HCB HGD HFO
            have HTR := Stow.mk (coTraces_any HMA.out HOA.out)
            by_cases ea : ca.ev = 0
            · by_cases eb : cb.ev = 0
              · obtain ⟨f1, f2, f3⟩ := hfo ea eb
                have HF1 := Stow.mk f1
                have HF2 := Stow.mk f2
                have HF3 := Stow.mk f3
                have HEA := Stow.mk (fun W (hM : CoM W (fun k => k ≠ ga ∧ k ≠ gb) ga ca) => coEvicted_any hM)
                have HEB := Stow.mk (fun W (hM : CoM W (fun k => k ≠ ga ∧ k ≠ gb) gb cb) => coEvicted_any hM)
                rw [ea] at HEA
                rw [eb] at HEB
                have htn := HOA.out.fine.len
                have htl : ca.trs.length = ca.K.length := by simp [Co.trs]
                have htn32 : ca.trs.length ≤ 32 := by omega
                clear f1 f2 f3 hfo ea eb htn htl
                go_wp2_with fail
                refine HTR.out.mono ?_
                rintro e w5 ⟨At, ct, rfl, ht5, hb5⟩
                have HT := Stow.mk ht5
                have HMA := Stow.mk (HMA.out.keep hb5)
                have HMB := Stow.mk (HMB.out.keep hb5)
                have HB5 := Stow.mk (HBW.out.trans (hb5.mono HBW.out.size))
                clear ht5 hb5 HTR
                go_wp2_with fail
                refine (HEA.out _ HMA.out).mono ?_
                rintro e w6 ⟨rfl, rfl⟩
                go_wp2_with fail
                refine (HEB.out _ HMB.out).mono ?_
                rintro e w7 ⟨rfl, rfl⟩
                go_upto_region 25 with fail
                obtain ⟨W5, hW5⟩ : ∃ W, W = w7 := ⟨_, rfl⟩
                subst hW5
                clear HEA HEB
                as_aux_lemma =>
                  go_loopw [12, 13, 14, 15, 16] (fun u _ _ _ _ wr => ∃ j : Nat, u = .int .i64 (j : Int) ∧ j ≤ ca.trs.length ∧ Stow (Below W5.heap.size W5 wr)) (fun u _ _ _ _ _ => ca.trs.length - (intOf u).toNat)
                  case atStart => exact ⟨0, rfl, by omega, ⟨Below.self _⟩⟩
                  case round =>
                    obtain ⟨j, rfl, hj, HBR⟩ := hrel
                    by_cases hjt : j < ca.trs.length
                    · have hjk : j < ca.K.length := by simpa [Co.trs] using hjt
                      obtain ⟨b, off, rfl, hblt, _⟩ := SlR.open HT.out (by simp; omega)
                      have hkj : ca.trs[j] = (ca.K[j].hi, ca.K[j].lo) := by simp [Co.trs, Kp.tr]
                      obtain ⟨s1, s2, s3⟩ := HF3.out _ (List.getElem_mem hjk)
                      have HQ := Stow.mk (fun W' (hb : Below W5.heap.size W5 W') => tr_at (SlR.keep HT.out hb) hjt)
                      rw [hkj] at HQ
                      have htr := fun W' (hb : Below W5.heap.size W5 W') => coTree_any (HMA.out.keep hb) HOA.out ca.K[j].hi ca.K[j].lo
                      have hrt := fun W' (hb : Below W5.heap.size W5 W') => coTree_any (HMB.out.keep hb) HOB.out ca.K[j].hi ca.K[j].lo
                      have hcv := fun W' (hb : Below W5.heap.size W5 W') => coVerdict_any (HMA.out.keep hb) HOA.out ca.K[j].hi ca.K[j].lo
                      have hrv := fun W' (hb : Below W5.heap.size W5 W') => coVerdict_any (HMB.out.keep hb) HOB.out ca.K[j].hi ca.K[j].lo
                      rw [← s1] at hrv
                      rw [← s2, ← s3] at hrt
                      obtain ⟨M, hM⟩ : ∃ M, treeK (St.get ca.K ca.K[j].hi ca.K[j].lo) = M := ⟨_, rfl⟩
                      obtain ⟨tb, htb⟩ : ∃ b, wholeK (St.get ca.K ca.K[j].hi ca.K[j].lo) = b := ⟨_, rfl⟩
                      obtain ⟨sd, hsd⟩ : ∃ b, saidK (St.get ca.K ca.K[j].hi ca.K[j].lo) = b := ⟨_, rfl⟩
                      rw [hM, htb] at htr hrt
                      rw [hsd] at hcv hrv
                      have HTR := Stow.mk htr
                      have HRT := Stow.mk hrt
                      have HCV := Stow.mk hcv
                      have HRV := Stow.mk hrv
                      clear htr hrt hcv hrv s1 s2 s3 hM htb hsd hkj
                      generalize ca.K[j].hi = thi at HQ HTR HRT HCV HRV
                      generalize ca.K[j].lo = tlo at HQ HTR HRT HCV HRV
                      obtain ⟨q0, q1⟩ := HQ.out wr HBR.out
                      have hji : (j : Int) < ca.trs.length := by omega
                      have hj0 : (0 : Int) ≤ j := by omega
                      go_wp2_with fail
                      refine (HTR.out _ HBR.out).mono ?_
                      rintro e w8 ⟨vA7, vc7, rfl, hn7, hb7⟩
                      have HB8 := Stow.mk (HBR.out.trans (hb7.mono HBR.out.size))
                      have HN7 := Stow.mk hn7
                      clear hn7 hb7 q0 q1
                      obtain ⟨q0, q1⟩ := HQ.out w8 HB8.out
                      go_wp2_with fail
                      refine (HRT.out _ HB8.out).mono ?_
                      rintro e w9 ⟨vA8, vc8, rfl, hn8, hb8⟩
                      have HB9 := Stow.mk (HB8.out.trans (hb8.mono HB8.out.size))
                      have HN7 := Stow.mk (SlR.keep HN7.out hb8)
                      have HN8 := Stow.mk hn8
                      clear hn8 hb8 q0 q1
                      go_upto_region 29 with fail
                      have HBW9 : Stow (∀ W', Below w9.heap.size w9 W' → Below W5.heap.size W5 W') := ⟨fun W' hb => HB9.out.trans (hb.mono HB9.out.size)⟩
                      have hkk := HQ.out w9 HB9.out
                      obtain ⟨k0, k1⟩ := HQ.out w9 HB9.out
                      have hdd : Below w9.heap.size w9 w9.drew := Below.drew (Below.self w9)
                      go_region_held3 (fun W' => W'.cell? ⟨b, off + j * 2, none⟩ = some (.int .u64 (thi : Int)) ∧ W'.cell? ⟨b, off + j * 2 + 1, none⟩ = some (.int .u64 (tlo : Int))) (first | go_keep | exact hkk)
                        (first
                          | (go_at_call_of 14 ga; (first | have HC := HBm | have HC := Stow.mk hdd); refine (HCV.out _ (HBW9.out _ HC.out)).mono ?_; rintro e w10 ⟨rfl, hb10⟩; have HBm := Stow.mk (HC.out.trans (hb10.mono HC.out.size)); have hkk := HQ.out _ (HBW9.out _ HBm.out))
                          | (go_at_call_of 14 gb; (first | have HC := HBm | have HC := Stow.mk hdd); refine (HRV.out _ (HBW9.out _ HC.out)).mono ?_; rintro e w11 ⟨rfl, hb11⟩; have HBm := Stow.mk (HC.out.trans (hb11.mono HC.out.size)); have hkk := HQ.out _ (HBW9.out _ HBm.out))
                          | (go_at_call 24; have HC := HBm; refine (ndSame_any M vA7 vA8 vc7 vc8 _ (SlR.keep HN7.out HC.out) (SlR.keep HN8.out HC.out)).mono ?_; rintro e w12 ⟨rfl, hb12⟩; have HBm := Stow.mk (HC.out.trans (hb12.mono HC.out.size)); have hkk := HQ.out _ (HBW9.out _ HBm.out)))
                      all_goals
                        have HBE := Stow.mk (HBW9.out _ HBm.out)
                        clear hkk k0 k1
                        go_wp2_with fail
                        exact ⟨⟨j + 1, by simp, by omega, HBE⟩, by simp [intOf]; omega⟩
                    · obtain rfl : j = ca.trs.length := by omega
                      have hjj : ¬ (ca.trs.length : Int) < ca.trs.length := by omega
                      have HMA := Stow.mk (HMA.out.keep HBR.out)
                      have HMB := Stow.mk (HMB.out.keep HBR.out)
                      have HB8 := Stow.mk (HB5.out.trans (HBR.out.mono HB5.out.size))
                      have HTB := Stow.mk (coTraces_any HMB.out HOB.out)
                      rw [← HF2.out] at HTB
                      have HTK := Stow.mk (fun W (hM : CoM W (fun k => k ≠ ga ∧ k ≠ gb) ga ca) => coTaken_any hM)
                      rw [HF1.out] at HTK
                      go_wp2_with fail
                      refine HTB.out.mono ?_
                      rintro e w9 ⟨A9, c9, rfl, _, hb9⟩
                      have HMA := Stow.mk (HMA.out.keep hb9)
                      have HB9 := Stow.mk (HB8.out.trans (hb9.mono HB8.out.size))
                      clear hb9 HTB
                      go_wp2_with fail
                      refine (HTK.out _ HMA.out).mono ?_
                      rintro e w10 ⟨rfl, rfl⟩
                      go_wp2_with fail
                      refine (known33_any _).mono ?_
                      rintro e wk ⟨rfl, hbk⟩
                      have HBK := Stow.mk (HB9.out.trans (hbk.mono HB9.out.size))
                      clear hbk
                      go_wp2_with fail
                      go_ret
                      exact ⟨rfl, HBK.out⟩
              · have hnb : ¬ (cb.ev : Int) = 0 := by omega
                have HEA := Stow.mk (fun W (hM : CoM W (fun k => k ≠ ga ∧ k ≠ gb) ga ca) => coEvicted_any hM)
                have HEB := Stow.mk (fun W (hM : CoM W (fun k => k ≠ ga ∧ k ≠ gb) gb cb) => coEvicted_any hM)
                rw [ea] at HEA
                clear hfo ea eb
                go_wp2_with fail
                refine HTR.out.mono ?_
                rintro e w5 ⟨At, ct, rfl, ht5, hb5⟩
                have HMA := Stow.mk (HMA.out.keep hb5)
                have HMB := Stow.mk (HMB.out.keep hb5)
                have HB5 := Stow.mk (HBW.out.trans (hb5.mono HBW.out.size))
                clear ht5 hb5 HTR
                go_wp2_with fail
                refine (HEA.out _ HMA.out).mono ?_
                rintro e w6 ⟨rfl, rfl⟩
                go_wp2_with fail
                refine (HEB.out _ HMB.out).mono ?_
                rintro e w7 ⟨rfl, rfl⟩
                go_wp2_with fail
                refine (known33_any _).mono ?_
                rintro e wk ⟨rfl, hbk⟩
                have HBK := Stow.mk (HB5.out.trans (hbk.mono HB5.out.size))
                clear hbk
                go_wp2_with fail
                go_ret
                exact ⟨rfl, HBK.out⟩
            · have hna : ¬ (ca.ev : Int) = 0 := by omega
              have HEA := Stow.mk (fun W (hM : CoM W (fun k => k ≠ ga ∧ k ≠ gb) ga ca) => coEvicted_any hM)
              clear hfo ea
              go_wp2_with fail
              refine HTR.out.mono ?_
              rintro e w5 ⟨At, ct, rfl, ht5, hb5⟩
              have HMA := Stow.mk (HMA.out.keep hb5)
              have HB5 := Stow.mk (HBW.out.trans (hb5.mono HBW.out.size))
              clear ht5 hb5 HTR
              go_wp2_with fail
              refine (HEA.out _ HMA.out).mono ?_
              rintro e w6 ⟨rfl, rfl⟩
              go_wp2_with fail
              refine (known33_any _).mono ?_
              rintro e wk ⟨rfl, hbk⟩
              have HBK := Stow.mk (HB5.out.trans (hbk.mono HB5.out.size))
              clear hbk
              go_wp2_with fail
              go_ret
              exact ⟨rfl, HBK.out⟩
end Go.Proofs.YtfbhdkkmcfnghaaGreat
end

section
namespace Go.Proofs.YtfbhdkkmcfnghaaGreat
open Go.RowKit Cells
set_option linter.unusedVariables false

def batchCells33 (w : World) : List (Value → Prop) := [pInt .i64, pInt .i64, pSlice w 11 spanCells]
theorem flat_batches33 (w : World) : Flat Tryz.prog w 54 [pSlice w 3 (batchCells33 w)] :=
  flat_slice Tryz.underlying54 (by kernel_rfl) (flat_struct Tryz.underlying56 (by kernel_rfl) (.cons 1 rfl (by kernel_rfl) (flat_int Tryz.underlying3) (.cons 1 rfl (by kernel_rfl) (flat_int Tryz.underlying3) (.cons 1 rfl (by kernel_rfl) (flat_slice Tryz.underlying38 (by kernel_rfl) (flat_span w)) (.nil _) rfl rfl) rfl rfl) rfl rfl))
theorem bx_of_cells {w : World} {cs : List Value} (h : Rel (batchCells33 w) cs) : ∃ b : Bx, cs = b.cells ∧ b.ok w := by
  unfold batchCells33 at h
  obtain ⟨v0, _, rfl, h0, h⟩ := h.cons_inv
  obtain ⟨v1, _, rfl, h1, h⟩ := h.cons_inv
  obtain ⟨v2, _, rfl, h2, h⟩ := h.cons_inv
  obtain rfl := h.nil_inv
  obtain ⟨x, rfl, _⟩ := h0
  obtain ⟨y, rfl, _⟩ := h1
  obtain ⟨L, hL, hf⟩ := slr_of Sp.cells Sp.fits (fun cs hc => by
    obtain ⟨s, hs, hf⟩ := span_of_cells hc
    refine ⟨s, ?_, hf⟩
    have : cs.toArray = (Sp.cells s).toArray := by simpa [Sp.val, Sp.cells] using hs
    simpa using this) Sp.cells_len (by omega) h2
  obtain ⟨A, cap, rfl, _⟩ := hL.form
  simp only [List.length_map] at hL ⊢
  exact ⟨⟨⟨x, y, L⟩, A, cap⟩, rfl, hL, hf⟩
theorem order33_at (v : Value) (w : World) (h : pSlice w 3 (batchCells33 w) v) :
    Calls Tryz.prog 5 #[v] w fun e w' => e = .returned (.bool true) ∧ Below w.heap.size w w' := by
  obtain ⟨l, h1, h2⟩ := slr_of Bx.cells (Bx.ok w) (fun cs hc => bx_of_cells hc) (fun _ => rfl) (by omega) h
  obtain ⟨A, cap, rfl, _⟩ := h1.form
  simp only [List.length_map] at h1 ⊢
  exact order33 A cap l w h1 h2
end Go.Proofs.YtfbhdkkmcfnghaaGreat
end
