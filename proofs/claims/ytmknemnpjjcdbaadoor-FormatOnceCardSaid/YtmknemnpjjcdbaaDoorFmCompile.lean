/- Walk of format.Compile. Conditions: the text is no longer than 2^47; a variable of the library's holds an int. -/
import Derived.Test.YtmknemnpjjcdbaaDoorFmPiece
namespace Go.Proofs.YtmknemnpjjcdbaaDoor
open Go.RowKit
set_option linter.unusedVariables false

/-- What Compile gives. -/
def CompOf (w : World) (r : List Pt × Nat × Nat) (e : Ending) (w' : World) : Prop :=
  ∃ v, e = .returned (.tuple #[v, .int .i64 (r.2.1 : Nat), .int .i64 (r.2.2 : Nat)]) ∧ PRow w' w.heap.size v r.1 ∧ Below w.heap.size w w'
namespace Fm
theorem comp_cons {s : List UInt8} {at_ : Nat} (h : at_ < s.length) (out : List Pt) (text : List UInt8) : comp (s.drop at_) at_ out text none =
    if odd s[at_] = true then ([], at_, 15) else if s[at_] = 37 then comp (s.drop (at_ + 1)) (at_ + 1) out text (some []) else comp (s.drop (at_ + 1)) (at_ + 1) out (text ++ [s[at_]]) none := by
  rw [List.drop_eq_getElem_cons h]
  rfl
theorem comp_end {s : List UInt8} (out : List Pt) (text : List UInt8) : comp (s.drop s.length) s.length out text none = (flush out text, 0, 0) := by
  rw [List.drop_length]; rfl
end Fm

set_option maxHeartbeats 4000000 in
set_option maxRecDepth 100000 in
theorem fmCompile_any (s : List UInt8) (w : World) (hl : s.length ≤ 9223372036854775807) (hm : MaxIs w) :
    Calls Tryd.prog 7 #[.string (bs s)] w (CompOf w (Fm.compile s)) := by
  have HM := Stow.mk hm
  clear hm
  by_cases h120 : 120 < s.length
  · have HC : Stow (Fm.compile s = ([], 0, 6)) := ⟨by unfold Fm.compile; rw [if_pos h120]⟩
    have hi : (120 : Int) < s.length := by omega
    go_enter Tryd.func7, Tryd.ntmps7
    go_wp2_with fail
    refine bodyPost_ret (results_tmp3 rfl _ _ _) rfl ?_
    rw [HC.out]
    exact ⟨_, rfl, PRow.nil _ _, Below.self _⟩
  obtain ⟨R, hR⟩ : ∃ R, Fm.compile s = R := ⟨_, rfl⟩
  have HC : Stow (Fm.comp s 0 [] [] none = R) := ⟨by rw [← hR]; unfold Fm.compile; rw [if_neg h120]⟩
  have hi : ¬ (120 : Int) < s.length := by omega
  rw [hR]
  clear hR
  have HP0 : Stow (Psr (w.alloc (.cells #[.slice none 0 0, .slice none 0 0] 41)) w.heap.size [] []) := ⟨psr_none (Held.made w [.slice none 0 0, .slice none 0 0] _) (PRow.nil _ _)⟩
  go_enter Tryd.func7, Tryd.ntmps7
  go_wp2_with fail
  go_loopw [6] (fun v wr => ∃ (n : Nat) (out : List Pt) (text : List UInt8), v = .int .i64 n ∧ n ≤ s.length ∧ out.length ≤ n ∧ text.length ≤ n ∧ Stow (Fm.comp (s.drop n) n out text none = R) ∧ Psr wr w.heap.size out text ∧ Below w.heap.size w wr) (fun v _ => s.length - (intOf v).toNat)
  case atStart => exact ⟨0, [], [], rfl, by omega, by simp, by simp, HC, HP0.out, Below.alloc' (Below.self _) _⟩
  case round =>
    obtain ⟨n, out, text, rfl, hn, ho, ht, HJ, hps, hbr⟩ := hrel
    have HPS := Stow.mk hps
    have HBR := Stow.mk hbr
    clear hps hbr
    by_cases hlt : n < s.length
    · have hlb : n < (bs s).size := hlt
      have hj := HJ.out
      rw [Fm.comp_cons hlt] at hj
      obtain ⟨c, hc⟩ : ∃ c, s[n]'hlt = c := ⟨_, rfl⟩
      rw [hc] at hj
      obtain ⟨u, hu⟩ : ∃ u, c.toNat = u := ⟨_, rfl⟩
      have hlu : ((s[n]'hlb).toNat) = u := by rw [← hu, ← hc]; rfl
      have hni : (n : Int) < s.length := by omega
      by_cases h1 : u < 32
      · have hod : Fm.odd c = true := by unfold Fm.odd; rw [hu]; simp [h1]
        rw [if_pos hod] at hj
        have HR := Stow.mk hj
        have h1i : (u : Int) < 32 := by omega
        clear hj hc hu hod
        go_wp2_with fail
        refine bodyPost_ret (results_tmp3 rfl _ _ _) rfl ?_
        rw [← HR.out]
        exact ⟨_, rfl, PRow.nil _ _, HBR.out⟩
      by_cases h2 : 126 < u
      · have hod : Fm.odd c = true := by unfold Fm.odd; rw [hu]; simp [h2]
        rw [if_pos hod] at hj
        have HR := Stow.mk hj
        have h1i : ¬ (u : Int) < 32 := by omega
        have h2i : (126 : Int) < u := by omega
        clear hj hc hu hod
        go_wp2_with fail
        refine bodyPost_ret (results_tmp3 rfl _ _ _) rfl ?_
        rw [← HR.out]
        exact ⟨_, rfl, PRow.nil _ _, HBR.out⟩
      have hod : Fm.odd c = false := by unfold Fm.odd; rw [hu]; simp; omega
      rw [if_neg (by rw [hod]; simp)] at hj
      have h1i : ¬ (u : Int) < 32 := by omega
      have h2i : ¬ (126 : Int) < u := by omega
      by_cases h37 : c = 37
      · rw [if_pos h37] at hj
        have hu37 : u = 37 := by rw [← hu, h37]; rfl
        subst hu37
        have hrl : (s.drop (n + 1)).length = s.length - (n + 1) := by simp
        have HJ2 := Stow.mk hj
        have hdr : (0 : Int) ≤ (n : Int) + 1 ∧ (n : Int) + 1 ≤ s.length := ⟨by omega, by omega⟩
        rcases Fm.index_sign (s.drop (n + 1)) with ⟨hx, hno⟩ | ⟨i, hx, hil, hno, hsp⟩
        · have HR : Stow (R = ([], n, 3)) := ⟨by rw [← HJ2.out, Fm.comp_open _ hno]; rfl⟩
          have HX := Stow.mk hx
          clear hj hc hu hod h37 hx hno
          go_wp2_with fail
          refine (fmPiece_no w.heap.size (s.drop (n + 1)) _ HX.out (by omega) (HM.out.keep HBR.out)).mono ?_
          rintro e w1 ⟨rfl, rfl⟩
          go_wp2_with fail
          refine bodyPost_ret (results_tmp3 rfl _ _ _) rfl ?_
          rw [HR.out]
          exact ⟨_, rfl, PRow.nil _ _, HBR.out⟩
        · have hcp := Fm.comp_piece ((s.drop (n + 1)).take i) hno [] ((s.drop (n + 1)).drop (i + 1)) (n + 1) out text
          rw [← hsp, HJ2.out, List.nil_append, List.drop_drop] at hcp
          have hlen : ((s.drop (n + 1)).take i).length = i := by rw [List.length_take]; omega
          rw [hlen] at hcp
          by_cases i0 : i = 0
          · subst i0
            simp only [List.take_zero, if_true] at hcp
            have HNX : Stow (Fm.comp (s.drop (n + 2)) (n + 2) out (text ++ [37]) none = R) := ⟨by rw [hcp]⟩
            have HX := Stow.mk hx
            clear hj hc hu hod h37 hx hno hsp hcp
            go_wp2_with fail
            refine (fmPiece_zero w.heap.size out text (s.drop (n + 1)) _ HPS.out HX.out (by omega) (by omega) (HM.out.keep HBR.out)).mono ?_
            rintro e w1 ⟨rfl, hp1, hb1⟩
            go_wp2_with fail
            exact ⟨⟨n + 2, out, text ++ [37], by first | rfl | (simp; done) | (simp; omega), by omega, by omega, by first | (simp; done) | (simp; omega), HNX, hp1, HBR.out.trans hb1⟩, by simp [intOf]; omega⟩
          · have hne : (s.drop (n + 1)).take i ≠ [] := by intro h; rw [h] at hlen; simp at hlen; omega
            rw [if_neg hne] at hcp
            have HX := Stow.mk hx
            have HCP := Stow.mk hcp
            clear hj hc hu hod h37 hx hno hsp hcp hne
            have KP := fun W a b => fmPiece_some w.heap.size out text (s.drop (n + 1)) i W a HX.out (by omega) (by omega) (by omega) (by omega) (by omega) b
            obtain ⟨px, hpx⟩ : ∃ px, Fm.part ((s.drop (n + 1)).take i) = px := ⟨_, rfl⟩
            rw [hpx] at KP HCP
            have HKP := Stow.mk KP
            clear KP hpx
            cases px with
            | none =>
              simp only [Option.isSome_none] at HKP
              have HR : Stow (R = ([], n, 3)) := ⟨by have := HCP.out; simp only at this; rw [this]; rfl⟩
              go_wp2_with fail
              refine (HKP.out _ HPS.out (HM.out.keep HBR.out)).mono ?_
              rintro e w1 ⟨rfl, hp1, hb1⟩
              go_wp2_with fail
              refine bodyPost_ret (results_tmp3 rfl _ _ _) rfl ?_
              rw [HR.out]
              exact ⟨_, rfl, PRow.nil _ _, HBR.out.trans hb1⟩
            | some p =>
              simp only [Option.isSome_some] at HKP
              have HNX : Stow (Fm.comp (s.drop (n + 1 + (i + 1))) (n + 1 + (i + 1)) (Fm.flush out text ++ [p]) [] none = R) := ⟨by have := HCP.out; simp only at this; rw [this]; rfl⟩
              have hfl := flush_len out text
              go_wp2_with fail
              refine (HKP.out _ HPS.out (HM.out.keep HBR.out)).mono ?_
              rintro e w1 ⟨rfl, hp1, hb1⟩
              go_wp2_with fail
              exact ⟨⟨n + 1 + (i + 1), Fm.flush out text ++ [p], [], by simp; omega, by omega, by simp; omega, by simp, HNX, hp1.2 p rfl, HBR.out.trans hb1⟩, by simp [intOf]; omega⟩
      · rw [if_neg h37] at hj
        have HJ2 := Stow.mk hj
        have hu37 : ¬ u = 37 := fun h => h37 (UInt8.toNat_inj.1 (by rw [hu, h]; rfl))
        have h3i : ((u : Int) == (((⟨#[37]⟩ : ByteArray)[0]'(by decide)).toNat : Int)) = false := by
          rw [beq_eq_false_iff_ne]
          show (u : Int) ≠ 37
          omega
        obtain ⟨ov, tv, h1, h2', h3, h4⟩ := HPS.out
        obtain ⟨A3, c3, rfl⟩ := own_form h3
        have a0 := h1.cell (i := 0) rfl
        have a1 := h1.cell (i := 1) rfl
        have f0 := h1.free 0
        have f1 := h1.free 1
        have hlw := h1.lt
        have hge : (wr.heap.size == w.heap.size) = false := by simp; omega
        obtain ⟨i0, hi0, hz, hsz, hby⟩ := info_parts info_byte
        have HI0 := Stow.mk hi0
        have HZ := Stow.mk hz
        have HSZ := Stow.mk hsz
        have HBY := Stow.mk hby
        have H1 := Stow.mk (h1.kept (Below.alloc' (Below.self wr) (.cells #[.int .u8 u] 5)))
        have H2 := Stow.mk (PRow.kept h2' (Below.alloc' (Below.self wr) (.cells #[.int .u8 u] 5)))
        have H3 : Stow (BRow (wr.alloc (.cells #[.int .u8 u] 5)) (w.heap.size + 1) 5 (.slice A3 text.length c3) text) := ⟨World.ownsRow.alloc h3 _⟩
        have H4 := Stow.mk h4
        have HXX : Stow (∀ j v, ([.int .u8 u] : List Value)[j]? = some v → (wr.alloc (.cells #[.int .u8 u] 5)).cell? ((⟨wr.heap.size, 0, none⟩ : Addr).add j) = some v) := ⟨World.news_of_block (cs := #[.int .u8 u]) (heap_alloc_new wr _)⟩
        have HN1 : Stow (text.length + 1 ≤ maxLen ∧ (text.length + 1) * 1 ≤ 140737488355328 ∧ w.heap.size + 1 ≤ (wr.alloc (.cells #[.int .u8 u] 5)).heap.size) := ⟨by unfold maxLen; omega, by omega, by simp; omega⟩
        have HX1 : Stow (∀ v ∈ ([.int .u8 u] : List Value), v.oneCell' = true) := ⟨by intro v hv; simp at hv; subst hv; rfl⟩
        have HUC : Stow (u = c.toNat) := ⟨hu.symm⟩
        clear hj hc hu hod h37 h1 h2' h3 h4 hi0 hz hsz hby
        go_wp2_with (at_builtin; refine wpList_append_lies _ rfl (.tmp 21) (.tmp 23) 39 rfl (w.heap.size + 1) 5 i0 _ 1 1 Tryd.underlying39 HI0.out HZ.out HSZ.out HBY.out rfl (by decide) _ text.length _ rfl H3.out ⟨wr.heap.size, 0, none⟩ 1 1 [.int .u8 u] rfl rfl HXX.out HX1.out (by decide) HN1.out.1 HN1.out.2.1 HN1.out.2.2 _ rfl ?_; intro g' cap' w' hown hgrow hat hlt'; have HOW := Stow.mk hown; have HGR := Stow.mk hgrow; have HAT := Stow.mk hat; have ha := H1.out.grown hgrow (own_block H3.out (by omega)); have b0' := ha.cell (i := 0) rfl; have b1' := ha.cell (i := 1) rfl; have f0' := ha.free 0; have f1' := ha.free 1; clear hown hgrow hat ha)
        have hrow : BRow w' (w.heap.size + 1) 5 (.slice (some ⟨g', 0, none⟩) (text.length + 1) cap') (text ++ [c]) := by
          unfold BRow
          have := HOW.out
          rw [HUC.out] at this
          simpa using this
        have hp := psr_text H1.out H2.out H3.out H4.out HGR.out hrow (by
          rcases HAT.out with h | h
          · exact .inl h.symm
          · exact .inr fun k hk => by simp [Value.ownBlock] at hk; omega)
        have hbb : Below w.heap.size w (w'.setCell ⟨w.heap.size, 1, none⟩ (.slice (some ⟨g', 0, none⟩) (text.length + 1) cap')) := ((HBR.out.alloc HBR.out.size _).grown HGR.out (by simp; omega) (fun k hk => by have := (World.ownsRow.lt H3.out k hk).1; omega)).setCell (p := ⟨w.heap.size, 1, none⟩) (Nat.le_refl _) _
        exact ⟨⟨n + 1, out, text ++ [c], rfl, by omega, by omega, by simp; omega, HJ2, hp, hbb⟩, by simp [intOf]; omega⟩
    · obtain rfl : n = s.length := by omega
      have hj := HJ.out
      rw [Fm.comp_end] at hj
      have HR := Stow.mk hj
      have hni : ¬ (s.length : Int) < s.length := by omega
      clear hj
      go_wp2_with fail
      refine (fmFlush_any w.heap.size out text _ HPS.out (by omega) (by omega)).mono ?_
      rintro e w1 ⟨rfl, hp1, hb1⟩
      obtain ⟨ov, tv, h1, h2', h3, h4⟩ := hp1
      have a0 := h1.cell (i := 0) rfl
      have HP := Stow.mk h2'
      have HB1 : Stow (Below w.heap.size w w1) := ⟨HBR.out.trans hb1⟩
      clear h1 h2' h3 h4 hb1
      go_wp2_with fail
      refine bodyPost_ret (results_tmp3 rfl _ _ _) rfl ?_
      rw [← HR.out]
      exact ⟨ov, rfl, HP.out.base (by omega), HB1.out⟩
end Go.Proofs.YtmknemnpjjcdbaaDoor
