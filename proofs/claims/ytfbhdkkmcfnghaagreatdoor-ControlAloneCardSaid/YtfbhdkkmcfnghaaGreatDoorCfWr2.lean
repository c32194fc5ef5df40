/- Walks of the config's writer: numbers, pred. Conditions: the writer's memory; texts no longer than an address space; the library's table of powers. -/
import Derived.Test.YtfbhdkkmcfnghaaGreatDoorCfWr
import Derived.Test.YtfbhdkkmcfnghaaGreatDoorItoa
namespace Go.Proofs.YtfbhdkkmcfnghaaGreatDoor
open Go.RowKit
set_option linter.unusedVariables false
set_option linter.unusedSimpArgs false

theorem info_strW : (Tryz.prog.info? 9).map (fun i => (i.zero, i.size, i.bytes)) = some (some (.string ⟨#[]⟩), 1, 16) := by kernel_rfl
def sv (x : List UInt8) : Value := .string (bs x)
theorem slr_own_text {w : World} {B : Nat} {v : Value} {n : Nat} {X : List (List UInt8)} (h : w.ownsRow B 9 1 v n (X.map sv)) (hn : X.length = n) : SlR w 1 v (X.map fun x => [Value.string (bs x)]) := by
  refine SlR.of_own h (by simpa using hn) (fun i x hx j u hu => ?_)
  rw [List.getElem?_map] at hx
  obtain ⟨y, hy, rfl⟩ := Option.map_eq_some_iff.1 hx
  cases j with
  | zero =>
    simp only [List.getElem?_cons_zero, Option.some.injEq] at hu
    subst hu
    rw [Nat.mul_one, Nat.add_zero, List.getElem?_map, hy]
    rfl
  | succ j => simp at hu
set_option maxHeartbeats 2000000 in
set_option maxRecDepth 100000 in
theorem cfNumbers_any {w : World} {g B : Nat} {v : Value} {l : List UInt8} (h : Wr w g B v l) (hB : B ≤ w.heap.size) (hP : Pow10 w) (wd : List UInt8) (ns : List Int) (A : Option Addr) (c : Nat) (hS : SlR w 1 (.slice A ns.length c) (ns.map fun n => [Value.int .i64 n])) (hr : ∀ n ∈ ns, 0 ≤ n ∧ n ≤ 999999) (hn : ns.length ≤ 10) (hb : l.length + (ln (wd :: ns.map Lib.itoa)).length ≤ 140737488355328) :
    Calls Tryz.prog 111 #[.pointer (some ⟨g, 0, none⟩), .string (bs wd), .slice A ns.length c] w (WrOut g B v (l ++ ln (wd :: ns.map Lib.itoa)) w) := by
  have HS := Stow.mk hS
  have HR := Stow.mk hr
  have HW := Stow.mk h
  have HP := Stow.mk hP
  have HBB := Stow.mk hb
  have hb1 := Below.alloc' (Below.self w) (.cells #[.string (bs wd)] 9)
  have hlit := World.ownsRow_lit (base := w.heap.size) (e := 9) (size := 1) w #[.string (bs wd)] 1 (Nat.le_refl _) (by unfold maxLen; omega) rfl
  have HO1 := Stow.mk hlit
  have HB1 := Stow.mk hb1
  clear hS hr h hP hb hb1 hlit
  go_enter Tryz.func111, Tryz.ntmps111
  go_upto_region 1 with fail
  obtain ⟨W, hW⟩ : ∃ W, w.alloc (.cells #[.string (bs wd)] 9) = W := ⟨_, rfl⟩
  rw [hW] at HO1 HB1 ⊢
  clear hW
  go_wp2_with fail
  go_loopw [6, 8, 13] (fun o _ u wr => ∃ i : Nat, u = .int .i64 (i : Int) ∧ i ≤ ns.length ∧ Stow (wr.ownsRow w.heap.size 9 1 o (i + 1) ((wd :: (ns.take i).map Lib.itoa).map sv)) ∧ Stow (Below w.heap.size w wr)) (fun _ _ u _ => ns.length - (intOf u).toNat)
  case atStart => exact ⟨0, rfl, by omega, ⟨by simpa [sv] using HO1.out⟩, HB1⟩
  case round =>
    obtain ⟨i, rfl, hi, HO, HBR⟩ := hrel
    obtain ⟨Ao, co, rfl⟩ := own_form HO.out
    by_cases hlt : i < ns.length
    · obtain ⟨b, off, rfl, hblt, hc⟩ := SlR.open HS.out (by simp; omega)
      have q0 : wr.cell? ⟨b, off + i, none⟩ = some (.int .i64 ns[i]) := by
        have := (HBR.out.cell (p := ⟨b, off + i * 1 + 0, none⟩) hblt).trans (hc i [.int .i64 ns[i]] (by rw [List.getElem?_map, List.getElem?_eq_getElem hlt]; rfl) 0 _ rfl)
        simpa using this
      obtain ⟨h0, h1⟩ := HR.out _ (List.getElem_mem hlt)
      have HNX : Stow ((wd :: (ns.take (i + 1)).map Lib.itoa).map sv = (wd :: (ns.take i).map Lib.itoa).map sv ++ [sv (Lib.itoa ns[i])]) := ⟨by rw [List.take_succ_eq_append_getElem hlt, List.map_append, ← List.cons_append, List.map_append]; rfl⟩
      obtain ⟨x, hx⟩ : ∃ x, ns[i] = x := ⟨_, rfl⟩
      rw [hx] at q0 h0 h1 HNX
      have HI := Stow.mk (itoa_any x (by omega) (by omega) wr (HP.out.keep HBR.out))
      have hii : (i : Int) < ns.length := by omega
      have hi0 : (0 : Int) ≤ i := by omega
      have hbs := HBR.out.size
      have K8 : Stow ((i + 1 + 1) * 16 ≤ 140737488355328 ∧ i + 1 + 1 ≤ maxLen) := ⟨by omega, by unfold maxLen; omega⟩
      clear hx hc
      go_wp2_with fail
      refine HI.out.mono ?_
      rintro e w2 ⟨rfl, hb2⟩
      have HO2 := Stow.mk (own_kept HO.out hb2)
      have HB2 := Stow.mk (HBR.out.trans (hb2.mono HBR.out.size))
      have hs2 := hb2.size
      clear hb2 q0
      go_wp2_with (at_builtin; refine wpList_append_elem_form w2 [.string (bs (Lib.itoa x))] _ rfl (.tmp 17) (.tmp 20) 38 rfl w.heap.size 9 _ 1 16 Tryz.underlying38 info_strW _ _ _ HO2.out rfl _ rfl rfl rfl (by decide) rfl (by intro u hu; simp at hu; subst hu; rfl) K8.out.1 K8.out.2 (by omega) ?_; intro A4 cap4 w4 hown4 hg4 hb4 hs4; have H4 := Stow.mk hown4; have HB4 := Stow.mk (HB2.out.trans hb4); clear hown4 hg4 hb4 hs4)
      exact ⟨⟨i + 1, by simp, by omega, ⟨by rw [HNX.out]; exact H4.out⟩, HB4⟩, by simp [intOf]; omega⟩
    · obtain rfl : i = ns.length := by omega
      have hii : ¬ (ns.length : Int) < ns.length := by omega
      rw [List.take_length] at HO
      have hL := cfLine_any (HW.out.keep HBR.out) (Nat.le_trans hB HBR.out.size) (wd :: ns.map Lib.itoa) Ao co (by
        have := slr_own_text HO.out (by simp)
        simpa using this) (by simp; omega) HBB.out
      rw [show (wd :: ns.map Lib.itoa).length = ns.length + 1 by simp] at hL
      have HL := Stow.mk hL
      clear hL
      go_wp2_with fail
      refine HL.out.mono ?_
      rintro e w3 ⟨rfl, v3, hw3, ht3⟩
      have H3 := Stow.mk hw3
      have HT3 : Stow (Turn (fun k => k = g ∨ v.ownBlock = some k) w w3) := ⟨(Turn.of_below HBR.out).trans ht3 (fun i hi => .inl hi)⟩
      clear hw3 ht3
      go_wp2_with fail
      go_end0
      exact ⟨rfl, v3, H3.out, HT3.out⟩
/-- The words of predicates. -/
def Pd.word (k : Int) : List UInt8 :=
  if k = 1 then [109, 101, 116, 104, 111, 100] else if k = 2 then [104, 111, 115, 116] else if k = 3 then [101, 120, 97, 99, 116] else if k = 4 then [112, 114, 101, 102, 105, 120] else if k = 5 then [104, 101, 97, 100] else if k = 6 then [104, 97, 115] else []
def wordVals : List Value := [.string ⟨#[]⟩, .string ⟨#[109, 101, 116, 104, 111, 100]⟩, .string ⟨#[104, 111, 115, 116]⟩, .string ⟨#[101, 120, 97, 99, 116]⟩, .string ⟨#[112, 114, 101, 102, 105, 120]⟩, .string ⟨#[104, 101, 97, 100]⟩, .string ⟨#[104, 97, 115]⟩]
theorem cfWords_results (W : World) (g : Nat) (tmps : Array Value) (hH : Held W g wordVals) (h2 : tmps[0]?.getD undef = .pointer (some ⟨g, 0, none⟩)) :
    (results Tryz.f150 tmps).run Tryz.prog W = .ok (.agg wordVals.toArray) W := by
  have c0 := hH.cell (i := 0) rfl
  have c1 := hH.cell (i := 1) rfl
  have c2 := hH.cell (i := 2) rfl
  have c3 := hH.cell (i := 3) rfl
  have c4 := hH.cell (i := 4) rfl
  have c5 := hH.cell (i := 5) rfl
  have c6 := hH.cell (i := 6) rfl
  unfold wordVals
  simp [results, Tryz.results150, go_sem, h2, c0, c1, c2, c3, c4, c5, c6]
set_option maxHeartbeats 2000000 in
set_option maxRecDepth 100000 in
theorem cfWords_any (w : World) : Calls Tryz.prog 150 #[] w fun e w' => e = .returned (.agg wordVals.toArray) ∧ Below w.heap.size w w' := by
  have hb := Below.alloc' (Below.self w) (.cells wordVals.toArray 182)
  have hh := Held.made w wordVals 182
  have HB := Stow.mk hb
  have HH := Stow.mk hh
  clear hb hh
  go_enter Tryz.func150, Tryz.ntmps150
  go_wp2_with fail
  refine bodyPost_ret (cfWords_results _ w.heap.size _ HH.out rfl) rfl ?_
  exact ⟨rfl, HB.out⟩
end Go.Proofs.YtfbhdkkmcfnghaaGreatDoor
