/- Walks of msg.parts and its closure, and of the reference's cut and heads. Conditions: a text that is not too long; what a library's variable holds. -/
import Derived.Test.YtbnaicgomabigaaDoorMsWrite
import Derived.Test.YtbnaicgomabigaaDoorMgCut
import Derived.Test.YtbnaicgomabigaaDoorTsLib
import Derived.Test.YtbnaicgomabigaaDoorPgReadFn
namespace Go.Proofs.YtbnaicgomabigaaDoor
open Go.RowKit
set_option linter.unusedVariables false

/-- A slice of headers of the call's own. -/
def HRow (w : World) (B : Nat) (v : Value) (L : List Hd) : Prop := w.ownsRow B 90 2 v L.length (L.flatMap Hd.cells)
theorem info_head : (Tryd.prog.info? 90).map (fun i => (i.zero, i.size, i.bytes)) = some (some (.agg #[.string ⟨#[]⟩, .string ⟨#[]⟩]), 2, 32) := by kernel_rfl
theorem HRow.slr {w : World} {B : Nat} {v : Value} {L : List Hd} (h : HRow w B v L) : SlR w 2 v (L.map Hd.cells) := by
  refine SlR.of_own h (by simp) fun i x hi j u hu => ?_
  have e : L.flatMap Hd.cells = (L.map Hd.cells).flatten := by rw [List.flatMap_def]
  rw [e]
  exact flat_at (c := 2) (fun x hx => by obtain ⟨m, _, rfl⟩ := List.mem_map.1 hx; rfl) i x hi j u hu
theorem HRow.nil (w : World) (B : Nat) : HRow w B (.slice none 0 0) [] := ⟨rfl, .inl ⟨rfl, rfl⟩⟩
theorem HRow.kept {w w' : World} {B : Nat} {v : Value} {L : List Hd} (h : HRow w B v L) (hb : Below w.heap.size w w') : HRow w' B v L := own_kept h hb
theorem HRow.form {w : World} {B : Nat} {v : Value} {L : List Hd} (h : HRow w B v L) : ∃ A cap, v = .slice A L.length cap := own_form h
theorem HRow.only {w w' : World} {B g : Nat} {v : Value} {L : List Hd} (h : HRow w B v L) (ho : Only g w w') (hg : g < B) : HRow w' B v L := by
  refine World.ownsRow.kept h ho ?_
  cases hv : v.ownBlock with
  | none => exact .inl rfl
  | some k =>
    have h1 := (World.ownsRow.lt h k hv).1
    exact .inr (by intro e; have h2 := Option.some.inj e; omega)
theorem HRow.base {w : World} {B B' : Nat} {v : Value} {L : List Hd} (h : HRow w B' v L) (hle : B ≤ B') : HRow w B v L := by
  refine ⟨h.1, ?_⟩
  rcases h.2 with h | ⟨g, cap, cur, hv, hb, r⟩
  · exact .inl h
  · exact .inr ⟨g, cap, cur, hv, by omega, r⟩
theorem Only.lt_of {g : Nat} {w w' : World} {cs : List Value} {k : Nat} (h : Held w k cs) (ho : Only g w w') (hne : k ≠ g) : Held w' k cs := by
  have hl := h.lt
  obtain ⟨t, ht⟩ := h
  exact ⟨t, (ho.block k hl (by simpa using hne)).trans ht⟩

theorem cut1_any (c : UInt8) (l : List UInt8) (w : World) (hl : l.length < 4294967281) (hm : MaxIs w) :
    Calls Tryd.prog 52 #[.string (bs l), .string (bs [c])] w fun e w' => e = .returned (.tuple #[.string (bs ((Ms.cutAt c l).getD (l, [])).1), .string (bs ((Ms.cutAt c l).getD (l, [])).2), .bool (Ms.cutAt c l).isSome]) ∧ Below w.heap.size w w' := by
  obtain ⟨m, hm⟩ := hm
  have h := Tryd.strings_Cut (bs l) (bs [c]) m w (by rw [bs_size]; exact hl) hm
  have e := Ms.cut1_lib c l
  rw [show (bs l).data.toList = l from rfl, show (bs [c]).data.toList = [c] from rfl, e] at h
  refine h.mono ?_
  rintro e w' ⟨rfl, n, rfl⟩
  refine ⟨?_, Below.drewN' (Below.self _) _⟩
  cases Ms.cutAt c l <;> rfl
theorem cut2_any (l : List UInt8) (w : World) (hl : l.length < 4294967281) (hm : MaxIs w) :
    Calls Tryd.prog 52 #[.string (bs l), .string ⟨#[58, 32]⟩] w fun e w' => e = .returned (.tuple #[.string (bs ((Ms.cutCol l).getD (l, [])).1), .string (bs ((Ms.cutCol l).getD (l, [])).2), .bool (Ms.cutCol l).isSome]) ∧ Below w.heap.size w w' := by
  obtain ⟨m, hm⟩ := hm
  have h := Tryd.strings_Cut (bs l) (bs [58, 32]) m w (by rw [bs_size]; exact hl) hm
  have e := Ms.cut2_lib l
  rw [show (bs l).data.toList = l from rfl, show (bs [58, 32]).data.toList = [58, 32] from rfl, e] at h
  refine h.mono ?_
  rintro e w' ⟨rfl, n, rfl⟩
  refine ⟨?_, Below.drewN' (Below.self _) _⟩
  cases Ms.cutCol l <;> rfl

namespace Ms
theorem cutAt_len {c : UInt8} {l a r : List UInt8} (h : cutAt c l = some (a, r)) : a.length + r.length + 1 = l.length := by
  have := (cutAt_back h).1
  rw [this]; simp; omega
theorem cutCol_len {l a r : List UInt8} (h : cutCol l = some (a, r)) : a.length + r.length + 2 = l.length := by
  rw [cutCol_back h]; simp; omega
end Ms

set_option maxHeartbeats 1000000 in
set_option maxRecDepth 100000 in
theorem msNext_any (s : List UInt8) (g : Nat) (w : World) (hH : Held w g [.string (bs s)]) (hs : s.length < 4294967281) (hm : MaxIs w) :
    Calls Tryd.prog 111 #[.pointer (some ⟨g, 0, none⟩)] w fun e w' => e = .returned (.tuple #[.string (bs ((Ms.cutAt 10 s).getD (s, [])).1), .bool (Ms.cutAt 10 s).isSome]) ∧ Held w' g [.string (bs ((Ms.cutAt 10 s).getD (s, [])).2)] ∧ Only g w w' := by
  have HH := Stow.mk hH
  have HM := Stow.mk hm
  have c0 := hH.cell (i := 0) rfl
  obtain ⟨o, ho⟩ : ∃ o, Ms.cutAt 10 s = o := ⟨_, rfl⟩
  have HO := Stow.mk ho
  have K := fun W h1 => cut1_any 10 s W hs h1
  rw [ho] at K ⊢
  obtain ⟨x, hx⟩ : ∃ x, (o.getD (s, [])).1 = x := ⟨_, rfl⟩
  obtain ⟨y, hy⟩ : ∃ x, (o.getD (s, [])).2 = x := ⟨_, rfl⟩
  obtain ⟨z, hz⟩ : ∃ x, o.isSome = x := ⟨_, rfl⟩
  rw [hx, hy, hz] at K ⊢
  have HK := Stow.mk K
  clear hH hm ho K hx hy hz
  go_enter Tryd.func111, Tryd.ntmps111
  go_wp2_with fail
  refine (HK.out _ HM.out).mono ?_
  rintro e w1 ⟨rfl, hb1⟩
  have h1 := HH.out.kept hb1
  have H1 := Stow.mk h1
  have HB1 := Stow.mk hb1
  clear c0 hb1
  have c0 := h1.cell (i := 0) rfl
  have f0 := h1.free 0
  clear h1
  go_wp2_with fail
  go_ret2
  exact ⟨rfl, H1.out.set 0 _, (Only.of_below HB1.out).trans (Only.set g w1 0 _)⟩

/-- What parts gives. -/
def Ms.parts (s : List UInt8) : Option (List UInt8 × List Hd × List UInt8) := match cutAt 10 s with
  | none => none
  | some (f, r) => match heads 17 r [] with
    | none => none
    | some (L, b) => some (f, L, b)
/-- The ending of parts. -/
def PartsOf (w : World) (s : List UInt8) (e : Ending) (w' : World) : Prop :=
  (Ms.parts s = none ∧ e = .returned (.tuple #[.string ⟨#[]⟩, .slice none 0 0, .string ⟨#[]⟩, .bool false]) ∧ Below w.heap.size w w') ∨
  (∃ f L b A cap, Ms.parts s = some (f, L, b) ∧ e = .returned (.tuple #[.string (bs f), .slice A L.length cap, .string (bs b), .bool true]) ∧ HRow w' w.heap.size (.slice A L.length cap) L ∧ Below w.heap.size w w')

theorem Ms.heads_stop {n : Nat} {s : List UInt8} {acc : List Hd} (h : cutAt 10 s = none) : heads n s acc = none := by
  cases n with
  | zero => rfl
  | succ n => unfold heads; rw [h]
theorem Ms.heads_done {n : Nat} {s r : List UInt8} {acc : List Hd} (h : cutAt 10 s = some ([], r)) : heads (n + 1) s acc = some (acc, r) := by
  unfold heads; rw [h]; simp
theorem Ms.heads_bad {n : Nat} {s l r : List UInt8} {acc : List Hd} (h : cutAt 10 s = some (l, r)) (hl : l ≠ []) (h2 : cutCol l = none) : heads (n + 1) s acc = none := by
  unfold heads; rw [h]; simp [hl, h2]
theorem Ms.heads_more {n : Nat} {s l r a b : List UInt8} {acc : List Hd} (h : cutAt 10 s = some (l, r)) (hl : l ≠ []) (h2 : cutCol l = some (a, b)) : heads (n + 1) s acc = heads n r (acc ++ [(a, b)]) := by
  conv => lhs; unfold heads
  rw [h]; simp [hl, h2]

set_option maxHeartbeats 2000000 in
set_option maxRecDepth 100000 in
theorem msParts_any (s : List UInt8) (w : World) (hs : s.length < 2147483647) (hm : MaxIs w) :
    Calls Tryd.prog 74 #[.string (bs s)] w (PartsOf w s) := by
  have hcf := enters_of Tryd.func111 (by kernel_rfl) rfl
  have hmf : ∀ (fn : Fn) (first cap : Array Value) (w : World), (Instr.makeFunc fn first cap).run Tryd.prog w = .ok (.func fn first cap) w := fun _ _ _ _ => rfl
  have HM := Stow.mk hm
  have HX : Stow (Held (w.alloc (.cells #[.string (bs s)] 9)) w.heap.size [.string (bs s)]) := ⟨Held.made w [.string (bs s)] _⟩
  clear hm
  obtain ⟨o, ho⟩ : ∃ o, Ms.cutAt 10 s = o := ⟨_, rfl⟩
  have HO := Stow.mk ho
  have HN : Stow _ := ⟨msNext_any s w.heap.size (w.alloc (.cells #[.string (bs s)] 9)) HX.out (by omega) (HM.out.keep (Below.alloc' (Below.self _) _))⟩
  rw [ho] at HN
  cases o with
  | none =>
    have HP : Stow (Ms.parts s = none) := ⟨by unfold Ms.parts; rw [ho]⟩
    clear ho
    simp only [Option.getD_none, Option.isSome_none] at HN
    go_enter Tryd.func74, Tryd.ntmps74
    go_wp2_with fail
    refine HN.out.mono ?_
    rintro e w1 ⟨rfl, hH1, ho1⟩
    have HB1 : Stow (Below w.heap.size w w1) := ⟨(Below.alloc' (Below.self w) _).trans (ho1.below (Nat.le_refl _) (by simp))⟩
    clear hH1 ho1
    go_wp2_with fail
    refine bodyPost_ret (results_tmp4 rfl _ _ _) rfl ?_
    exact .inl ⟨HP.out, rfl, HB1.out⟩
  | some fr =>
    obtain ⟨f, r0⟩ := fr
    have hlen := Ms.cutAt_len ho
    have HP : Stow (Ms.parts s = match Ms.heads 17 r0 [] with | none => none | some (L, b) => some (f, L, b)) := ⟨by unfold Ms.parts; rw [ho]⟩
    clear ho
    simp only [Option.getD_some, Option.isSome_some] at HN
    have hr0 : r0.length < 2147483647 := by omega
    clear hlen
    go_enter Tryd.func74, Tryd.ntmps74
    go_wp2_with fail
    refine HN.out.mono ?_
    rintro e w1 ⟨rfl, hH1, ho1⟩
    have HB1 : Stow (Below w.heap.size w w1) := ⟨(Below.alloc' (Below.self w) _).trans (ho1.below (Nat.le_refl _) (by simp))⟩
    have HH1 := Stow.mk hH1
    clear hH1 ho1
    go_wp2_with fail
    go_loopw [2, 3] (fun fv v wr => ∃ A cap acc r, fv = .string (bs f) ∧ v = .slice A acc.length cap ∧ acc.length ≤ 17 ∧ r.length < 2147483647 ∧ Stow (Ms.heads (17 - acc.length) r acc = Ms.heads 17 r0 []) ∧ Held wr w.heap.size [.string (bs r)] ∧ HRow wr (w.heap.size + 1) (.slice A acc.length cap) acc ∧ Below w.heap.size w wr) (fun _ v _ => 17 - (match v with | .slice _ n _ => n | _ => 0))
    case atStart => exact ⟨none, 0, [], r0, rfl, rfl, by simp, hr0, ⟨rfl⟩, HH1.out, HRow.nil _ _, HB1.out⟩
    case round =>
      obtain ⟨A, cap, acc, r, rfl, rfl, hacc, hr, HR, hHr, hrow, hbr⟩ := hrel
      have HHR := Stow.mk hHr
      have HROW := Stow.mk hrow
      have HBR := Stow.mk hbr
      have hlt := hHr.lt
      clear hHr hrow hbr
      by_cases h16 : acc.length ≤ 16
      · have h16i : (acc.length : Int) ≤ 16 := by omega
        obtain ⟨n, hn⟩ : ∃ n, 17 - acc.length = n + 1 := ⟨16 - acc.length, by omega⟩
        have hn2 : 17 - (acc.length + 1) = n := by omega
        rw [hn] at HR
        obtain ⟨o, ho⟩ : ∃ o, Ms.cutAt 10 r = o := ⟨_, rfl⟩
        have HO1 := Stow.mk ho
        have HN1 : Stow _ := ⟨msNext_any r w.heap.size wr HHR.out (by omega) (HM.out.keep HBR.out)⟩
        rw [ho] at HN1
        clear ho
        cases o with
        | none =>
          have HE : Stow (Ms.heads 17 r0 [] = none) := ⟨by rw [← HR.out]; exact Ms.heads_stop HO1.out⟩
          simp only [Option.getD_none, Option.isSome_none] at HN1
          go_wp2_with fail
          refine HN1.out.mono ?_
          rintro e w2 ⟨rfl, hH2, ho2⟩
          have HB2 : Stow (Below w.heap.size w w2) := ⟨HBR.out.trans (ho2.below (Nat.le_refl _) HBR.out.size)⟩
          clear hH2 ho2
          go_wp2_with fail
          refine bodyPost_ret (results_tmp4 rfl _ _ _) rfl ?_
          exact .inl ⟨by rw [HP.out, HE.out], rfl, HB2.out⟩
        | some lr =>
          obtain ⟨ln, r2⟩ := lr
          have hlen := Ms.cutAt_len HO1.out
          simp only [Option.getD_some, Option.isSome_some] at HN1
          by_cases hln : ln = []
          · subst hln
            have HE : Stow (Ms.heads 17 r0 [] = some (acc, r2)) := ⟨by rw [← HR.out]; exact Ms.heads_done HO1.out⟩
            go_wp2_with fail
            refine HN1.out.mono ?_
            rintro e w2 ⟨rfl, hH2, ho2⟩
            have HB2 : Stow (Below w.heap.size w w2) := ⟨HBR.out.trans (ho2.below (Nat.le_refl _) HBR.out.size)⟩
            have HROW2 := Stow.mk (HROW.out.only ho2 (by omega))
            have c0 := hH2.cell (i := 0) rfl
            clear hH2 ho2
            go_wp2_with fail
            go_quiet (fail)
            go_wp2_with fail
            refine bodyPost_ret (results_tmp4 rfl _ _ _) rfl ?_
            exact .inr ⟨f, acc, r2, A, cap, by rw [HP.out, HE.out], rfl, HROW2.out.base (by omega), by first | exact HB2.out | exact Below.drewN' HB2.out _⟩
          · have hle : ln.isEmpty = false := by simpa using hln
            have HLN := Stow.mk hln
            clear hln
            obtain ⟨o, ho⟩ : ∃ o, Ms.cutCol ln = o := ⟨_, rfl⟩
            have HO2 := Stow.mk ho
            have K := fun W h1 => cut2_any ln W (by omega) h1
            rw [ho] at K
            have HK := Stow.mk K
            clear ho K
            go_wp2_with fail
            refine HN1.out.mono ?_
            rintro e w2 ⟨rfl, hH2, ho2⟩
            have HB2 : Stow (Below w.heap.size w w2) := ⟨HBR.out.trans (ho2.below (Nat.le_refl _) HBR.out.size)⟩
            have HROW2 := Stow.mk (HROW.out.only ho2 (by omega))
            have HH2 := Stow.mk hH2
            clear hH2 ho2
            go_wp2_with fail
            refine (HK.out _ (HM.out.keep HB2.out)).mono ?_
            rintro e w3 ⟨rfl, hb3⟩
            have HB3 : Stow (Below w.heap.size w w3) := ⟨HB2.out.trans (hb3.mono HB2.out.size)⟩
            have HROW3 := Stow.mk (HROW2.out.kept hb3)
            have HH3 := Stow.mk (HH2.out.kept hb3)
            clear hb3
            cases o with
            | none =>
              have HE : Stow (Ms.heads 17 r0 [] = none) := ⟨by rw [← HR.out]; exact Ms.heads_bad HO1.out HLN.out HO2.out⟩
              simp only [Option.getD_none, Option.isSome_none]
              go_wp2_with fail
              refine bodyPost_ret (results_tmp4 rfl _ _ _) rfl ?_
              exact .inl ⟨by rw [HP.out, HE.out], rfl, HB3.out⟩
            | some ab =>
              obtain ⟨a, b⟩ := ab
              have hlen2 := Ms.cutCol_len HO2.out
              have HE : Stow (Ms.heads (17 - (acc ++ [(a, b)]).length) r2 (acc ++ [(a, b)]) = Ms.heads 17 r0 []) := ⟨by
                rw [← HR.out, Ms.heads_more HO1.out HLN.out HO2.out, List.length_append]
                simp only [List.length_cons, List.length_nil, Nat.zero_add]
                rw [hn2]⟩
              have K2 : Stow ((acc.length + 1) * 32 ≤ 140737488355328) := ⟨by omega⟩
              have K3 : Stow (acc.length + 1 ≤ maxLen) := ⟨by unfold maxLen; omega⟩
              have K4 : Stow (w.heap.size + 1 ≤ w3.heap.size) := ⟨HH3.out.lt⟩
              simp only [Option.getD_some, Option.isSome_some]
              go_wp2_with (at_builtin; refine wpList_append_elem_form _ _ _ rfl (.tmp 44) (.tmp 48) 37 rfl (w.heap.size + 1) 90 _ 2 32 Tryd.underlying37 info_head _ _ _ HROW3.out rfl _ rfl (by simp) rfl (by decide) rfl (by intro u hu; simp at hu; rcases hu with rfl | rfl <;> rfl) K2.out K3.out K4.out ?_; intro A4 cap4 w4 hown4 hg4 hb4 hs4)
              exact ⟨⟨A4, cap4, acc ++ [(a, b)], r2, rfl, by rw [List.length_append]; rfl, by simp; omega, by omega, HE, HH3.out.under hb4 (by omega), by rw [HRow, List.length_append]; simpa [Hd.cells] using hown4, HB3.out.trans (hb4.mono (by omega))⟩, by simp; omega⟩
      · have h17 : acc.length = 17 := by omega
        have HE : Stow (Ms.heads 17 r0 [] = none) := ⟨by rw [← HR.out, h17]; rfl⟩
        have h16i : ¬ (acc.length : Int) ≤ 16 := by omega
        go_wp2_with fail
        refine bodyPost_ret (results_tmp4 rfl _ _ _) rfl ?_
        exact .inl ⟨by rw [HP.out, HE.out], rfl, HBR.out⟩
end Go.Proofs.YtbnaicgomabigaaDoor
