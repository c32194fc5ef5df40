/- Walk of format.Write at parts that may be. Conditions: a slice's own; few and short parts; a variable of the library's holds an int. -/
import Derived.Test.YtmknemnpjjcdbaaDoorFmCompile
namespace Go.Proofs.YtmknemnpjjcdbaaDoor
open Go.RowKit
set_option linter.unusedVariables false

theorem info_string : (Tryd.prog.info? 9).map (fun i => (i.zero, i.size, i.bytes)) = some (some (.string ⟨#[]⟩), 1, 16) := by kernel_rfl
/-- A slice of texts of the call's own. -/
def TRow (w : World) (B : Nat) (v : Value) (l : List (List UInt8)) : Prop := w.ownsRow B 9 1 v l.length (l.map fun x => Value.string (bs x))
theorem TRow.alloc {w : World} {B : Nat} {v : Value} {l : List (List UInt8)} (h : TRow w B v l) (o : Obj) : TRow (w.alloc o) B v l := World.ownsRow.alloc h o

theorem trow_slr {w : World} {B : Nat} {v : Value} {L : List (List UInt8)} (h : TRow w B v L) : SlR w 1 v (L.map fun x => [Value.string (bs x)]) := by
  refine SlR.of_own h (by simp) fun i x hi j u hu => ?_
  rw [List.getElem?_map] at hi
  obtain ⟨y, hy, rfl⟩ := Option.map_eq_some_iff.1 hi
  have hj : j = 0 := by
    rcases Nat.lt_or_ge j 1 with h | h
    · omega
    · simp [List.getElem?_eq_none (show ([Value.string (bs y)] : List Value).length ≤ j by simp; omega)] at hu
  subst hj
  simp at hu
  subst hu
  simp [hy]

theorem TRow.form {w : World} {B : Nat} {v : Value} {L : List (List UInt8)} (h : TRow w B v L) : ∃ A cap, v = .slice A L.length cap := own_form h
theorem Held.under {w w' : World} {g B : Nat} {cs : List Value} (h : Held w g cs) (hb : Below B w w') (hg : g < B) : Held w' g cs := by
  obtain ⟨t, h⟩ := h
  exact ⟨t, (hb.block g hg).trans h⟩
theorem join_lib (X : List (List UInt8)) (sep : List UInt8) (A : Option Addr) (c : Nat) (w : World) (hS : SlR w 1 (.slice A X.length c) (X.map fun x => [Value.string (bs x)])) (hn : X.length ≤ 140737488355328) (hb : (Lib.join X sep).length ≤ 140737488355328) :
    Calls Tryd.prog 24 #[.slice A X.length c, .string (bs sep)] w fun e w' => e = .returned (.string (bs (Lib.join X sep))) ∧ Below w.heap.size w w' := by
  by_cases h0 : X.length = 0
  · obtain rfl := List.eq_nil_of_length_eq_zero h0
    refine (Any.strings_Join_none Tryd.lays156 Tryd.Builder_Extra_156 A c (bs sep) w).mono ?_
    rintro e w' ⟨rfl, rfl⟩
    exact ⟨rfl, Below.self _⟩
  obtain ⟨b, off, rfl, hblt, hc⟩ := hS.open (by simp; omega)
  have hcap : X.length ≤ c := by
    obtain ⟨A', cap', hv, h1, _⟩ := hS
    simp only [Value.slice.injEq] at hv
    obtain ⟨_, hv1, rfl⟩ := hv
    rw [List.length_map] at h1
    exact h1
  have e2 : ((X.map bs).map (·.data.toList)) = X := by rw [List.map_map]; exact List.map_id X
  have h := Tryd.strings_Join b off c (X.map bs) (bs sep) w (fun j x hj => by
    rw [List.getElem?_map] at hj
    obtain ⟨m, hm, rfl⟩ := Option.map_eq_some_iff.1 hj
    have := hc j [Value.string (bs m)] (by rw [List.getElem?_map, hm]; rfl) 0 _ rfl
    simpa using this) hblt (by rw [List.length_map]; exact hn) (by rw [List.length_map]; exact hcap) (by
    rw [e2, show (bs sep).data.toList = sep from rfl]; exact hb)
  rw [e2, show (bs sep).data.toList = sep from rfl, List.length_map] at h
  exact h

/-- Cells of a part in a slice. -/
theorem part_at {w : World} {b off n cap k : Nat} {L : List Pt} (h : SlR w 2 (.slice (some ⟨b, off, none⟩) n cap) (L.map Pt.cells)) (hk : k < L.length) : b < w.heap.size ∧ w.cell? ⟨b, off + k * 2, none⟩ = some (.int .i64 (L[k].1 : Nat)) ∧ w.cell? ⟨b, off + k * 2 + 1, none⟩ = some (.string (bs L[k].2)) := by
  have hi : (L.map Pt.cells)[k]? = some (L[k].cells) := by rw [List.getElem?_map, List.getElem?_eq_getElem hk]; rfl
  obtain ⟨hb, hc⟩ := h.cells hi
  exact ⟨hb, hc 0 _ rfl, hc 1 _ rfl⟩
namespace Fm
theorem write_take {L : List Pt} {j : Nat} (h : j < L.length) : write (L.take (j + 1)) = write (L.take j) ++ wr L[j] := by
  rw [List.take_succ_eq_append_getElem h, write_append]
  simp [write]
theorem esc_len (t : List UInt8) : (esc t).length ≤ 2 * t.length := by
  induction t with
  | nil => simp [esc]
  | cons b t ih =>
    have e : esc (b :: t) = (if b = 37 then [37, 37] else [b]) ++ esc t := rfl
    rw [e]
    simp only [List.length_append, List.length_cons]
    split <;> simp <;> omega
theorem word_len (k : Nat) : (word k).length ≤ 7 := by
  unfold word
  by_cases h : k < 9
  · have : k = 0 ∨ k = 1 ∨ k = 2 ∨ k = 3 ∨ k = 4 ∨ k = 5 ∨ k = 6 ∨ k = 7 ∨ k = 8 := by omega
    rcases this with rfl | rfl | rfl | rfl | rfl | rfl | rfl | rfl | rfl <;> decide
  · have : words[k]? = none := List.getElem?_eq_none (by show 9 ≤ k; omega)
    simp [this]
theorem wr_len {p : Pt} (h : p.2.length ≤ 400) : (wr p).length ≤ 900 := by
  have h1 := esc_len p.2
  have h2 := word_len p.1
  unfold wr
  split
  · omega
  · split <;> simp [req] <;> omega
theorem write_len : ∀ {L : List Pt}, (∀ p ∈ L, p.2.length ≤ 400) → (write L).length ≤ 900 * L.length
  | [], _ => by simp [write]
  | p :: t, h => by
    have e : write (p :: t) = wr p ++ write t := rfl
    have h1 := wr_len (h p (by simp))
    have h2 := write_len fun q hq => h q (List.mem_cons_of_mem p hq)
    rw [e, List.length_append, List.length_cons]
    omega
end Fm

set_option maxHeartbeats 4000000 in
set_option maxRecDepth 100000 in
theorem fmWrite_any (L : List Pt) (A : Option Addr) (cap : Nat) (w : World) (hS : SlR w 2 (.slice A L.length cap) (L.map Pt.cells)) (hmay : ∀ p ∈ L, Fm.may p) (hn : L.length ≤ 1000) (ht : ∀ p ∈ L, p.2.length ≤ 400) (hm : MaxIs w) :
    Calls Tryd.prog 13 #[.slice A L.length cap] w fun e w' => e = .returned (.tuple #[.string (bs (Fm.write L)), .int .i64 0]) ∧ Below w.heap.size w w' := by
  have HS := Stow.mk hS
  have HM := Stow.mk hm
  have HMAY := Stow.mk hmay
  have HT := Stow.mk ht
  clear hS hm hmay ht
  go_enter Tryd.func13, Tryd.ntmps13
  go_wp2_with fail
  refine (fmWords_any _).mono ?_
  rintro e w1 ⟨rfl, hb1⟩
  have HB1 := Stow.mk hb1
  clear hb1
  unfold Fm.vals
  go_wp2_with fail
  generalize hWe : World.alloc _ _ = W
  have hW : Held W w1.heap.size Fm.vals ∧ Below w1.heap.size w1 W ∧ w1.heap.size < W.heap.size := by
    subst hWe
    exact ⟨Held.made w1 Fm.vals 68, Below.alloc' (Below.self _) _, by simp⟩
  obtain ⟨hV, hB, hlw⟩ := hW
  have HV := Stow.mk hV
  have HBW : Stow (Below w.heap.size w W) := ⟨HB1.out.trans (hB.mono HB1.out.size)⟩
  clear hWe hV hB
  go_loopw [4, 11] (fun m v wr => ∃ j cp A1 P, m = .slice A1 P.length cp ∧ v = .int .i64 (j : Nat) ∧ j ≤ L.length ∧ P.length ≤ j ∧ TRow wr W.heap.size m P ∧ Stow (P.flatten = Fm.write (L.take j)) ∧ Below W.heap.size W wr) (fun _ v _ => L.length - (intOf v).toNat)
  case atStart => exact ⟨0, 0, none, [], rfl, rfl, by omega, by simp, World.ownsRow_nil _ _ _ _, ⟨rfl⟩, Below.self _⟩
  case round =>
    obtain ⟨j, cp, A1, P, rfl, rfl, hj, hP, hown, HF, hbr⟩ := hrel
    have HBR := Stow.mk hbr
    have HO0 := Stow.mk hown
    clear hbr hown
    have hji0 : (j : Int) ≤ L.length := by omega
    by_cases hlt : j < L.length
    · have hji : (j : Int) < L.length := by omega
      have hbww : Below w.heap.size w wr := HBW.out.trans (HBR.out.mono HBW.out.size)
      obtain ⟨b, off, rfl, hblt, _⟩ := HS.out.open (by simp; omega)
      obtain ⟨hb, q0, q1⟩ := part_at (HS.out.keep hbww) hlt
      have hmy := HMAY.out _ (List.getElem_mem hlt)
      have htl := HT.out _ (List.getElem_mem hlt)
      have HN := Stow.mk (Fm.write_take hlt)
      obtain ⟨s, hs⟩ : ∃ s, L[j] = s := ⟨_, rfl⟩
      rw [hs] at q0 q1 hmy htl HN
      obtain ⟨k, t⟩ := s
      simp only at q0 q1 htl
      have HCAT : Stow (∀ X : List UInt8, X = Fm.wr (k, t) → (P ++ [X]).flatten = Fm.write (L.take (j + 1))) := ⟨fun X hX => by rw [List.flatten_append, HF.out, HN.out, hX]; simp⟩
      have hbp := Below.alloc' (Below.self wr) (.cells #[.int .i64 k, .string (bs t)] 35)
      have HO := Stow.mk (own_kept HO0.out hbp)
      have K2 : Stow ((P.length + 1) * 16 ≤ 140737488355328) := ⟨by omega⟩
      have K3 : Stow (P.length + 1 ≤ maxLen) := ⟨by unfold maxLen; omega⟩
      have K4 : Stow (W.heap.size ≤ (wr.alloc (.cells #[.int .i64 k, .string (bs t)] 35)).heap.size) := ⟨by have := HBR.out.size; simp; omega⟩
      have HBP : Stow (Below W.heap.size W (wr.alloc (.cells #[.int .i64 k, .string (bs t)] 35))) := ⟨HBR.out.alloc HBR.out.size _⟩
      have HMP : Stow (MaxIs (wr.alloc (.cells #[.int .i64 k, .string (bs t)] 35))) := ⟨HM.out.keep (hbww.alloc hbww.size _)⟩
      clear hs hbww hbp HN HO0
      by_cases hk0 : k = 0
      · subst hk0
        have HW : Stow (Fm.esc t = Fm.wr (0, t)) := ⟨by unfold Fm.wr; rw [if_pos rfl]⟩
        go_wp2_with fail
        refine (fmReplace_lib t _ (by omega) HMP.out).mono ?_
        rintro e w2 ⟨rfl, hb2⟩
        have HO2 := Stow.mk (own_kept HO.out hb2)
        have HB2 : Stow (Below W.heap.size W w2) := ⟨HBP.out.trans (hb2.mono HBP.out.size)⟩
        have K5 := Stow.mk HB2.out.size
        clear hb2
        go_wp2_with (at_builtin; refine wpList_append_elem_form _ _ _ rfl (.tmp 28) (.tmp 32) 67 rfl W.heap.size 9 _ 1 16 Tryd.underlying67 info_string _ _ _ HO2.out rfl _ rfl (by simp) rfl (by decide) rfl (by intro u hu; simp at hu; subst hu; rfl) K2.out K3.out K5.out ?_; intro A4 cap4 w4 hown4 hg4 hb4 hs4)
        exact ⟨⟨j + 1, cap4, A4, P ++ [Fm.esc t], by rw [List.length_append]; rfl, rfl, by omega, by simp; omega, by simpa [TRow] using hown4, ⟨HCAT.out _ HW.out⟩, HB2.out.trans hb4⟩, by simp [intOf]; omega⟩
      have h0i : ((k : Int) == 0) = false := by rw [beq_eq_false_iff_ne]; omega
      by_cases hk9 : k = 9
      · subst hk9
        have HW : Stow ((⟨#[37, 82, 69, 81, 40]⟩ : ByteArray) ++ bs t ++ (⟨#[41]⟩ : ByteArray) ++ (⟨#[37]⟩ : ByteArray) = bs (Fm.wr (9, t))) := ⟨by
          rw [show (⟨#[37, 82, 69, 81, 40]⟩ : ByteArray) = bs [37, 82, 69, 81, 40] from rfl, show (⟨#[41]⟩ : ByteArray) = bs [41] from rfl, show (⟨#[37]⟩ : ByteArray) = bs [37] from rfl, bs_append, bs_append, bs_append]
          simp [Fm.wr, Fm.req]⟩
        go_wp2_with (at_builtin; refine wpList_append_elem_form _ _ _ rfl (.tmp 38) (.tmp 44) 67 rfl W.heap.size 9 _ 1 16 Tryd.underlying67 info_string _ _ _ HO.out rfl _ rfl (by simp) rfl (by decide) rfl (by intro u hu; simp at hu; subst hu; rfl) K2.out K3.out K4.out ?_; intro A4 cap4 w4 hown4 hg4 hb4 hs4)
        rw [HW.out] at hown4
        exact ⟨⟨j + 1, cap4, A4, P ++ [Fm.wr (9, t)], by rw [List.length_append]; rfl, rfl, by omega, by simp; omega, by simpa [TRow] using hown4, ⟨HCAT.out _ rfl⟩, HBP.out.trans hb4⟩, by simp [intOf]; omega⟩
      have h9i : ((k : Int) == 9) = false := by rw [beq_eq_false_iff_ne]; omega
      obtain ⟨hk8, rfl⟩ : k < 9 ∧ t = [] := by rcases hmy with h | h | h; exact absurd h hk0; exact absurd h hk9; exact h
      have hlo : ¬ (k : Int) < 0 := by omega
      have hwl := Fm.word_len k
      have hhi : ¬ (9 : Int) < k := by omega
      have hib : (0 : Int) ≤ k ∧ (k : Int) < 9 := ⟨by omega, by omega⟩
      have hvv : Fm.vals[k]? = some (.string (bs (Fm.word k))) := by
        have : k = 0 ∨ k = 1 ∨ k = 2 ∨ k = 3 ∨ k = 4 ∨ k = 5 ∨ k = 6 ∨ k = 7 ∨ k = 8 := by omega
        rcases this with rfl | rfl | rfl | rfl | rfl | rfl | rfl | rfl | rfl <;> rfl
      have v0 : (wr.alloc (.cells #[.int .i64 k, .string (bs [])] 35)).cell? ⟨w1.heap.size, k, none⟩ = some (.string (bs (Fm.word k))) := (HV.out.under HBP.out hlw).cell hvv
      have hgv : (wr.heap.size == w1.heap.size) = false := by have := HBR.out.size; simp; omega
      have v1 : wr.cell? ⟨w1.heap.size, k, none⟩ = some (.string (bs (Fm.word k))) := (HV.out.under HBR.out hlw).cell hvv
      have HW : Stow ((⟨#[37]⟩ : ByteArray) ++ bs (Fm.word k) ++ (⟨#[37]⟩ : ByteArray) = bs (Fm.wr (k, []))) := ⟨by
        rw [show (⟨#[37]⟩ : ByteArray) = bs [37] from rfl, bs_append, bs_append]
        simp [Fm.wr, hk0, hk9]⟩
      clear hvv
      go_wp2_with (at_builtin; refine wpList_append_elem_form _ _ _ rfl (.tmp 15) (.tmp 22) 67 rfl W.heap.size 9 _ 1 16 Tryd.underlying67 info_string _ _ _ HO.out rfl _ rfl (by simp) rfl (by decide) rfl (by intro u hu; simp at hu; subst hu; rfl) K2.out K3.out K4.out ?_; intro A4 cap4 w4 hown4 hg4 hb4 hs4)
      rw [HW.out] at hown4
      exact ⟨⟨j + 1, cap4, A4, P ++ [Fm.wr (k, [])], by rw [List.length_append]; rfl, rfl, by omega, by simp; omega, by simpa [TRow] using hown4, ⟨HCAT.out _ rfl⟩, HBP.out.trans hb4⟩, by simp [intOf]; omega⟩
    · obtain rfl : j = L.length := by omega
      have hni : ¬ (L.length : Int) < L.length := by omega
      have hfl := HF.out
      rw [List.take_length] at hfl
      have HFL : Stow (Lib.join P [] = Fm.write L) := ⟨by rw [Fm.join_flat]; exact hfl⟩
      have HLN : Stow ((Fm.write L).length ≤ 900 * L.length) := ⟨Fm.write_len HT.out⟩
      have HSP := Stow.mk (trow_slr HO0.out)
      have hb0 : (⟨#[]⟩ : ByteArray) = bs [] := rfl
      have KJ := fun W h => join_lib P [] A1 cp W h (by omega) (by rw [HFL.out]; have := HLN.out; omega)
      rw [HFL.out] at KJ
      rw [← hb0] at KJ
      have HKJ := Stow.mk KJ
      clear hfl KJ hb0
      go_wp2_with fail
      refine (HKJ.out _ HSP.out).mono ?_
      rintro e w4 ⟨rfl, hb4⟩
      go_wp2_with fail
      go_ret2
      exact ⟨rfl, HBW.out.trans ((Below.call HBR.out hb4).mono HBW.out.size)⟩
end Go.Proofs.YtmknemnpjjcdbaaDoor
