/- Walk of line.Render. Conditions: texts not longer than 4096; not more parts than 2^20. -/
import Derived.Test.YtkhepehgafijfaaDoorLineVal
import Derived.Lib.AppendStr
import Derived.Deep.RegionLaw
namespace Go.Proofs.YtkhepehgafijfaaDoor
open Go.RowKit
set_option linter.unusedVariables false

/-- 'append(out, s...)', s a text. -/
theorem wpList_append_text {P : Program} {ops : Array Oper} {rest : List Oper} {o : Oper} {a : Act} {Q : Exit → Act → World → Prop}
    {wr : World} {B : Nat} {e : TypeId} {v : Value} {l : List UInt8} (hown : BRow wr B e v l) (s : List UInt8)
    (hgd : o.guard = none) (sl x : Operand) (t u : TypeId)
    (ho : o.op = Op.call { callee := Callee.builtin Builtin.append, args := #[sl, x], argTypes := #[t, u] })
    (ht : P.underlying t = some (.slice e)) (hu : P.underlying u = some .string)
    (hinfo : (P.info? e).map (fun i => (i.zero, i.size, i.bytes)) = some (some (.int .u8 0), 1, 1))
    (hs : a.eval sl = v) (hx : a.eval x = .string (bs s))
    (hbytes : l.length + s.length ≤ 140737488355328) (hB : B ≤ wr.heap.size)
    (h : ∀ v' w', BRow w' B e v' (l ++ s) → Below B wr w' → wpList P ops Q rest (a.put o.dst v') w') :
    wpList P ops Q (o :: rest) a wr := by
  obtain ⟨i, hi, hz, hsz, hby⟩ := info_parts hinfo
  refine Lib.wpList_append_own_string wr hgd sl x t u ho B e i ht hu hi hz hsz hby v _ _ hs hown (bs s) hx ?_ ?_ hB ?_
  · rw [bs_size]; unfold maxLen; omega
  · rw [bs_size]; omega
  · intro v' w' ho' hg _
    refine h v' w' ?_ ((Below.refl B wr).grown hg hB fun k hk => (World.ownsRow.lt hown k hk).1)
    unfold BRow
    rw [bs_size] at ho'
    simpa [Lib.strCells] using ho'

/-- Less of what a call owns. -/
theorem BRow.cut {w : World} {B : Nat} {e : TypeId} {A : Option Addr} {n cap k : Nat} {l : List UInt8} (h : BRow w B e (.slice A n cap) l) (hk : k ≤ l.length) (h0 : 0 < l.length) : BRow w B e (.slice A k cap) (l.take k) := by
  obtain ⟨h1, h2⟩ := h
  rcases h2 with ⟨_, h3⟩ | ⟨g, cap', cur, hv, hg, hh, hn, hc, hs, ht⟩
  · omega
  · simp only [Value.slice.injEq] at hv
    obtain ⟨rfl, rfl, rfl⟩ := hv
    have e1 : (l.take k).length = k := by simp; omega
    refine ⟨by simp, .inr ⟨g, cap, cur, by rw [e1], hg, hh, by rw [e1]; omega, hc, hs, ?_⟩⟩
    rw [e1, Nat.mul_one]
    rw [Nat.mul_one] at ht
    rw [List.map_take, ← ht, List.take_take]
    congr 1
    omega

/-- What lies below stays held. -/
theorem held_belowD {B g : Nat} {w w' : World} {cs : List Value} (h : Held w g cs) (hb : Below B w w') (hg : g < B) : Held w' g cs := by
  obtain ⟨t, ht⟩ := h
  exact ⟨t, by rw [hb.block g hg]; exact ht⟩

/-- A part: its kind, its text. -/
abbrev Pt := Int × List UInt8
def Pt.cells (p : Pt) : List Value := [.int .i64 p.1, .string (bs p.2)]
structure PartAt (w : World) (b o : Nat) (h : Pt) : Prop where
  lt : b < w.heap.size
  c0 : w.cell? ⟨b, o, none⟩ = some (.int .i64 h.1)
  c1 : w.cell? ⟨b, o + 1, none⟩ = some (.string (bs h.2))
theorem part_at {w : World} {b off n cap k : Nat} {L : List Pt} (h : SlR w 2 (.slice (some ⟨b, off, none⟩) n cap) (L.map Pt.cells)) (hk : k < L.length) : PartAt w b (off + k * 2) L[k] := by
  have hi : (L.map Pt.cells)[k]? = some (L[k].cells) := by rw [List.getElem?_map, List.getElem?_eq_getElem hk]; rfl
  obtain ⟨hb, hc⟩ := h.cells hi
  exact ⟨hb, hc 0 _ rfl, hc 1 _ rfl⟩

structure Rc.few (r : Rc) : Prop where
  m : r.m.length ≤ 4096
  h : r.h.length ≤ 4096
  p : r.p.length ≤ 4096
  tg : r.tg.length ≤ 4096
  tr : r.tr.length ≤ 4096
  v : ∀ x ∈ r.hs, x.2.length ≤ 4096
theorem valueOf_len {k : Int} {t : List UInt8} {r : Rc} (hr : r.fits) (hf : r.few) (ht : t.length ≤ 4096) : (valueOf k t r).length ≤ 16385 := by
  have h1 := (Ln.esc_len r.m).2
  have h2 := (Ln.esc_len r.h).2
  have h3 := (Ln.esc_len r.p).2
  have h4 := (Ln.esc_len r.tg).2
  have h5 := (Ln.esc_len r.tr).2
  have h6 := (Ln.esc_len ((hdGet r.hs t).getD [])).2
  have h7 := hdGet_len (t := t) hf.v
  have h8 := Lib.itoa_length_le r.st hr.st.1 hr.st.2
  have h9 := Lib.itoa_length_le r.ve hr.ve.1 hr.ve.2
  have ha := tookOf_fits hr.t0 hr.t1
  have hb := Lib.itoa_length_le _ ha.1 ha.2
  have a1 := hf.m
  have a2 := hf.h
  have a3 := hf.p
  have a4 := hf.tg
  have a5 := hf.tr
  unfold valueOf
  repeat' split
  all_goals first | omega | simp

/-- All the values, one after another; a line. -/
def allOf (r : Rc) (L : List Pt) : List UInt8 := L.flatMap fun p => valueOf p.1 p.2 r
def renderOf (r : Rc) (L : List Pt) : List UInt8 := if 120 < (allOf r L).length then (allOf r L).take 119 ++ [126] else allOf r L
theorem allOf_next {r : Rc} {L : List Pt} {j : Nat} (h : j < L.length) : allOf r (L.take (j + 1)) = allOf r (L.take j) ++ valueOf L[j].1 L[j].2 r := by
  unfold allOf
  rw [List.take_succ_eq_append_getElem h, List.flatMap_append]
  simp
theorem allOf_len {r : Rc} {L : List Pt} (hr : r.fits) (hf : r.few) (hL : ∀ p ∈ L, p.2.length ≤ 4096) : (allOf r L).length ≤ 16385 * L.length := by
  unfold allOf
  induction L with
  | nil => simp
  | cons p t ih =>
    have := ih fun q hq => hL q (by simp [hq])
    have h1 := valueOf_len (k := p.1) hr hf (hL p (by simp))
    simp only [List.flatMap_cons, List.length_append, List.length_cons]
    omega

set_option maxHeartbeats 2000000 in
set_option maxRecDepth 100000 in
theorem render_any (L : List Pt) (B : Option Addr) (bcap : Nat) (r0 : Rc) (A : Option Addr) (cap : Nat) (w : World) (hT : SlR w 2 (.slice B L.length bcap) (L.map Pt.cells)) (hS : SlR w 2 (.slice A r0.hs.length cap) (r0.hs.map Hd.cells))
    (hr : r0.fits) (hf : r0.few) (hL : ∀ p ∈ L, p.2.length ≤ 4096) (hn : L.length ≤ 1048576) (hp : Pow10 w) :
    Calls Tryd.prog 17 #[.slice B L.length bcap, .agg #[.string (bs r0.m), .string (bs r0.h), .string (bs r0.p), .slice A r0.hs.length cap, .string (bs r0.b), .string (bs r0.tg), .int .i64 r0.st, .int .i64 r0.ve, .string (bs r0.tr), .int .i64 r0.t0, .int .i64 r0.t1]] w
      fun e w' => e = .returned (.string (bs (renderOf r0 L))) ∧ Below w.heap.size w w' := by
  have HT := Stow.mk hT
  have HS := Stow.mk hS
  have HP := Stow.mk hp
  have HF := Stow.mk hr
  have HW := Stow.mk hf
  have HL := Stow.mk hL
  clear hT hS hp hr hf hL
  have lk : (⟨#[]⟩ : ByteArray) = bs [] := rfl
  by_cases h0 : L.length = 0
  · obtain rfl := List.eq_nil_of_length_eq_zero h0
    go_enter Tryd.func17, Tryd.ntmps17
    go_wp2_with fail
    go_loopw [5, 10] (fun o v wr => o = .slice none 0 0 ∧ v = .int .i64 0 ∧ Below w.heap.size w wr) (fun _ _ _ => 0)
    case atStart => exact ⟨rfl, rfl, Below.alloc' (Below.self _) _⟩
    case round =>
      obtain ⟨rfl, rfl, hbr⟩ := hrel
      have HO := Stow.mk (BRow.nil wr (w.heap.size + 1) 5)
      go_wp2_with (refine wpList_string_row rfl (.tmp 27) 57 9 rfl _ _ _ _ HO.out Tryd.underlying57 Tryd.underlying5 Tryd.underlying9 rfl ?_)
      go_ret
      exact ⟨rfl, hbr⟩
  obtain ⟨b, off, rfl, hblt, _⟩ := HT.out.open (by simp; omega)
  clear h0
  go_enter Tryd.func17, Tryd.ntmps17
  go_wp2_with fail
  go_loopw [5, 7, 10] (fun o _ v wr => ∃ j : Nat, v = .int .i64 j ∧ j ≤ L.length ∧ BRow wr (w.heap.size + 1) 5 o (allOf r0 (L.take j)) ∧ Below w.heap.size w wr ∧
    Held wr w.heap.size [.string (bs r0.m), .string (bs r0.h), .string (bs r0.p), .slice A r0.hs.length cap, .string (bs r0.b), .string (bs r0.tg), .int .i64 r0.st, .int .i64 r0.ve, .string (bs r0.tr), .int .i64 r0.t0, .int .i64 r0.t1]) (fun _ _ v _ => L.length - (intOf v).toNat)
  case atStart => exact ⟨0, rfl, by omega, BRow.nil _ _ _, Below.alloc' (Below.self _) _, Held.made w [.string (bs r0.m), .string (bs r0.h), .string (bs r0.p), .slice A r0.hs.length cap, .string (bs r0.b), .string (bs r0.tg), .int .i64 r0.st, .int .i64 r0.ve, .string (bs r0.tr), .int .i64 r0.t0, .int .i64 r0.t1] _⟩
  case round =>
    obtain ⟨j, rfl, hj, hown, hbr, hH⟩ := hrel
    clear lk
    have hal := allOf_len (L := L.take j) HF.out HW.out (fun p hp => HL.out p (List.mem_of_mem_take hp))
    have hal2 : (allOf r0 (L.take j)).length ≤ 17200000000 := by simp only [List.length_take] at hal; omega
    clear hal
    by_cases hlt : j < L.length
    · have hsp := part_at (HT.out.keep hbr) hlt
      have hvl := valueOf_len (k := L[j].1) HF.out HW.out (HL.out L[j] (List.getElem_mem hlt))
      obtain ⟨s, hs⟩ : ∃ s, L[j] = s := ⟨_, rfl⟩
      have HSJ := Stow.mk hs
      have HN : Stow (allOf r0 (L.take (j + 1)) = allOf r0 (L.take j) ++ valueOf s.1 s.2 r0) := ⟨by rw [allOf_next hlt, hs]⟩
      rw [hs] at hsp hvl
      clear hs
      obtain ⟨k, t⟩ := s
      obtain ⟨hltb, q0, q1⟩ := hsp
      simp only at q0 q1 HN hvl
      generalize allOf r0 (L.take j) = acc at hown hal2 HN
      have c0 := hH.cell (i := 0) rfl
      have c1 := hH.cell (i := 1) rfl
      have c2 := hH.cell (i := 2) rfl
      have c3 := hH.cell (i := 3) rfl
      have c4 := hH.cell (i := 4) rfl
      have c5 := hH.cell (i := 5) rfl
      have c6 := hH.cell (i := 6) rfl
      have c7 := hH.cell (i := 7) rfl
      have c8 := hH.cell (i := 8) rfl
      have c9 := hH.cell (i := 9) rfl
      have c10 := hH.cell (i := 10) rfl
      have hltr := hH.lt
      have hne : (wr.heap.size == w.heap.size) = false := by simp; omega
      have HO := Stow.mk hown
      have HH := Stow.mk hH
      have HBR := Stow.mk hbr
      clear hown hH
      go_wp2_with fail
      clear q0 q1 c0 c1 c2 c3 c4 c5 c6 c7 c8 c9 c10
      refine (lineValue_any k t r0 A cap _ (HS.out.keep (Below.alloc' HBR.out _)) HF.out (HP.out.keep (Below.alloc' HBR.out _))).mono ?_
      rintro e w1 ⟨rfl, hb1⟩
      have hb2 := Below.call (Below.alloc' (Below.self wr) _) hb1
      have HO1 := Stow.mk (own_kept HO.out hb2)
      have HH1 := Stow.mk (HH.out.kept hb2)
      have hsz := hb2.size
      have K1 : Stow (acc.length + (valueOf k t r0).length ≤ 140737488355328) := ⟨by omega⟩
      have K2 : Stow (w.heap.size + 1 ≤ w1.heap.size) := ⟨by omega⟩
      have HB2 := Stow.mk hb2
      clear hb2 hb1
      go_wp2_with (at_builtin; refine wpList_append_text HO1.out (valueOf k t r0) rfl (.tmp 14) (.tmp 17) 57 9 rfl Tryd.underlying57 Tryd.underlying9 info_u8L rfl rfl K1.out K2.out ?_; intro v4 w4 hown4 hb4)
      refine ⟨⟨j + 1, rfl, by omega, by rw [HN.out]; exact hown4, ?_, held_belowD HH1.out hb4 (by omega)⟩, by simp [intOf]; omega⟩
      exact (Below.call HBR.out HB2.out).trans (hb4.mono (by omega))
    · obtain rfl : j = L.length := by omega
      rw [List.take_length] at hown hal2
      obtain ⟨Z, zc, rfl⟩ := own_form hown
      have HO := Stow.mk hown
      have hzc : (allOf r0 L).length ≤ zc := by
        rcases hown.2 with ⟨h1, h2⟩ | ⟨g, cap', cur, hv, _, _, h3, _⟩
        · simp only [Value.slice.injEq] at h1; omega
        · simp only [Value.slice.injEq] at hv; omega
      have K2 : Stow (w.heap.size + 1 ≤ wr.heap.size) := ⟨hH.lt⟩
      by_cases h120 : 120 < (allOf r0 L).length
      · have HR : Stow (renderOf r0 L = (allOf r0 L).take 119 ++ [126]) := ⟨by unfold renderOf; rw [if_pos h120]⟩
        have HC := Stow.mk (hown.cut (k := 119) (by omega) (by omega))
        have hz2 : 119 ≤ zc := by omega
        have hz3 : (119 : Int) ≤ (zc : Int) := by omega
        clear hown hH
        go_wp2_with (first
          | (at_builtin; refine wpList_append_byte HC.out 126 rfl rfl (.tmp 24) (.tmp 25) 57 rfl Tryd.underlying57 info_u8L rfl rfl (by simp; omega) K2.out ?_; intro v' w1 hown1 _ hb1 hs1)
          | (refine wpList_string_row rfl (.tmp 27) 57 9 rfl _ _ _ _ hown1 Tryd.underlying57 Tryd.underlying5 Tryd.underlying9 rfl ?_))
        go_ret
        exact ⟨by rw [HR.out]; rfl, hbr.trans (hb1.mono (by omega))⟩
      · have HR : Stow (renderOf r0 L = allOf r0 L) := ⟨by unfold renderOf; rw [if_neg h120]⟩
        clear hown hH
        go_wp2_with (refine wpList_string_row rfl (.tmp 27) 57 9 rfl _ _ _ _ HO.out Tryd.underlying57 Tryd.underlying5 Tryd.underlying9 rfl ?_)
        go_ret
        exact ⟨by rw [HR.out]; rfl, hbr⟩
end Go.Proofs.YtkhepehgafijfaaDoor
