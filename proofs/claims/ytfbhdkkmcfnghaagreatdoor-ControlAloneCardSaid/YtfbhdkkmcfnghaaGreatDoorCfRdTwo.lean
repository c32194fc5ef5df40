/- Walks of conf.two, pair, single. Conditions: texts' lengths, memory. -/
import Derived.Test.YtfbhdkkmcfnghaaGreatDoorCfRdMem
namespace Go.Proofs.YtfbhdkkmcfnghaaGreatDoor
open Go.RowKit
set_option linter.unusedVariables false
set_option linter.unusedSimpArgs false

theorem indexByte_mem (c : UInt8) : ∀ l : List UInt8, decide (0 ≤ Lib.indexByte l c) = decide (c ∈ l)
  | [] => rfl
  | b :: t => by
    have ih := indexByte_mem c t
    have hg := Lib.indexByte_ge t c
    unfold Lib.indexByte
    by_cases hb : b = c
    · subst hb; simp
    · have hb' : ¬ (b == c) = true := by simpa using hb
      rw [if_neg hb']
      by_cases hm : c ∈ t
      · rw [decide_eq_true hm, decide_eq_true_eq] at ih
        rw [if_neg (by simp; omega), decide_eq_true (by omega : (0 : Int) ≤ Lib.indexByte t c + 1), decide_eq_true (by simp [hm])]
      · rw [decide_eq_false hm, decide_eq_false_iff_not] at ih
        have : Lib.indexByte t c = -1 := by omega
        rw [this]
        simp [hm]
        exact fun e => hb e.symm
theorem has32_any (l : List UInt8) (w : World) : Calls Tryz.prog 194 #[.string (bs l), .string ⟨#[32]⟩] w fun e w' => e = .returned (.bool (decide ((32 : UInt8) ∈ l))) ∧ w' = w := by
  have h := Tryz.strings_Contains_one (bs l) 32 w
  rw [show (bs l).data.toList = l from rfl, indexByte_mem] at h
  exact h
theorem count32_any (l : List UInt8) (w : World) : Calls Tryz.prog 160 #[.string (bs l), .string ⟨#[32]⟩] w fun e w' => e = .returned (.int .i64 (l.count 32 : Nat)) ∧ w' = w := Tryz.strings_Count_one (bs l) 32 w
def Cf.numN (s : List UInt8) : Nat := (Cf.num s).getD 0
theorem Cf.two_is (rest : List UInt8) : (Cf.two rest).isSome = (decide ((32 : UInt8) ∈ rest) && (Cf.num (Pg.cut rest).1).isSome && !decide ((32 : UInt8) ∈ (Pg.cut rest).2)) := by
  unfold Cf.two
  by_cases h1 : (32 : UInt8) ∈ rest
  · by_cases h2 : (32 : UInt8) ∈ (Pg.cut rest).2
    · simp [h1, h2]
    · rw [if_pos ⟨h1, h2⟩]
      cases h3 : Cf.num (Pg.cut rest).1 <;> simp [h1, h2]
  · simp [h1]
theorem Cf.two_eq (rest : List UInt8) (h : (Cf.two rest).isSome = true) : Cf.two rest = some (Cf.numN (Pg.cut rest).1, (Pg.cut rest).2) := by
  rw [Cf.two_is] at h
  simp only [Bool.and_eq_true, decide_eq_true_eq, Bool.not_eq_true', decide_eq_false_iff_not] at h
  unfold Cf.two Cf.numN
  rw [if_pos ⟨h.1.1, h.2⟩]
  cases h3 : Cf.num (Pg.cut rest).1 with
  | none => rw [h3] at h; simp at h
  | some n => rfl
set_option maxHeartbeats 1000000 in
set_option maxRecDepth 100000 in
theorem cfTwo_any (rest : List UInt8) (w : World) (hl : rest.length ≤ 4096) (hm : MaxIs w) :
    Calls Tryz.prog 196 #[.string (bs rest)] w fun e w' => e = .returned (.tuple #[.int .i64 (Cf.numN (Pg.cut rest).1 : Nat), .string (bs (Pg.cut rest).2), .bool (Cf.two rest).isSome]) ∧ Below w.heap.size w w' := by
  have hc := Pg.cut_le rest
  have HT := Stow.mk (Cf.two_is rest)
  have HC := Stow.mk (cutW_any rest w (by omega) hm)
  obtain ⟨a, ha⟩ : ∃ a, (Pg.cut rest).1 = a := ⟨_, rfl⟩
  obtain ⟨b, hb⟩ : ∃ b, (Pg.cut rest).2 = b := ⟨_, rfl⟩
  obtain ⟨fd, hfd⟩ : ∃ c, decide ((32 : UInt8) ∈ rest) = c := ⟨_, rfl⟩
  obtain ⟨ns, hns⟩ : ∃ c, (Cf.num a).isSome = c := ⟨_, rfl⟩
  obtain ⟨hs, hhs⟩ : ∃ c, decide ((32 : UInt8) ∈ b) = c := ⟨_, rfl⟩
  have hal : a.length ≤ 9223372036854775807 := by rw [← ha]; omega
  have HNB := Stow.mk (fun W => number_any a W hal)
  have HHB := Stow.mk (fun W => has32_any b W)
  obtain ⟨n, hn⟩ : ∃ n, Cf.numN a = n := ⟨_, rfl⟩
  obtain ⟨q, hq⟩ : ∃ q, (Cf.two rest).isSome = q := ⟨_, rfl⟩
  unfold Cf.numN at hn
  rw [ha, hb, hfd] at HC
  rw [hn, hns] at HNB
  rw [hhs] at HHB
  rw [hq, ha, hb, hfd, hns, hhs] at HT
  rw [ha, hb, hq]
  unfold Cf.numN
  rw [hn]
  clear ha hb hfd hns hhs hn hq hc hm
  have hq := HT.out
  subst hq
  clear HT
  cases fd with
  | false =>
    go_enter Tryz.func196, Tryz.ntmps196
    go_wp2_with fail
    refine HC.out.mono ?_
    rintro e w1 ⟨rfl, hb1⟩
    go_wp2_with fail
    refine (HNB.out w1).mono ?_
    rintro e w2 ⟨rfl, rfl⟩
    go_wp2_with fail
    go_ret3
    exact ⟨rfl, hb1⟩
  | true =>
    cases ns with
    | false =>
      go_enter Tryz.func196, Tryz.ntmps196
      go_wp2_with fail
      refine HC.out.mono ?_
      rintro e w1 ⟨rfl, hb1⟩
      go_wp2_with fail
      refine (HNB.out w1).mono ?_
      rintro e w2 ⟨rfl, rfl⟩
      go_wp2_with fail
      go_ret3
      exact ⟨rfl, hb1⟩
    | true =>
      go_enter Tryz.func196, Tryz.ntmps196
      go_wp2_with fail
      refine HC.out.mono ?_
      rintro e w1 ⟨rfl, hb1⟩
      go_wp2_with fail
      refine (HNB.out w1).mono ?_
      rintro e w2 ⟨rfl, rfl⟩
      go_wp2_with fail
      refine (HHB.out w2).mono ?_
      rintro e w3 ⟨rfl, rfl⟩
      go_wp2_with fail
      go_ret3
      exact ⟨by cases hs <;> rfl, hb1⟩
theorem Cf.pair_is (rest : List UInt8) : (Cf.pair rest).isSome = ((Cf.two rest).isSome && (Cf.num (Pg.cut rest).2).isSome) := by
  unfold Cf.pair
  cases h : Cf.two rest with
  | none => rfl
  | some p =>
    have h2 := Cf.two_eq rest (by rw [h]; rfl)
    rw [h] at h2
    obtain rfl := Option.some.inj h2
    simp only [Option.isSome_some, Bool.true_and]
    cases Cf.num (Pg.cut rest).2 <;> rfl
theorem Cf.pair_eq (rest : List UInt8) (h : (Cf.pair rest).isSome = true) : Cf.pair rest = some (Cf.numN (Pg.cut rest).1, Cf.numN (Pg.cut rest).2) := by
  have h1 := h
  rw [Cf.pair_is] at h1
  simp only [Bool.and_eq_true] at h1
  unfold Cf.pair
  rw [Cf.two_eq rest h1.1]
  simp only
  cases h3 : Cf.num (Pg.cut rest).2 with
  | none => rw [h3] at h1; simp at h1
  | some n => unfold Cf.numN; simp [h3]
/-- Two cells of a block are set, if they may be. -/
def setTwo (cs : List Value) (i : Nat) : Option (Nat × Nat) → List Value
  | some (n, m) => (cs.set i (.int .i64 (n : Int))).set (i + 1) (.int .i64 (m : Int))
  | none => cs
set_option maxHeartbeats 1000000 in
set_option maxRecDepth 100000 in
theorem cfPair_any (rest : List UInt8) (x i : Nat) (cs : List Value) (w : World) (hx : Held w x cs) (hi : i + 1 < cs.length) (hl : rest.length ≤ 4096) (hm : MaxIs w) :
    Calls Tryz.prog 195 #[.string (bs rest), .pointer (some ⟨x, i, none⟩), .pointer (some ⟨x, i + 1, none⟩)] w fun e w' => e = .returned (.bool (Cf.pair rest).isSome) ∧ Held w' x (setTwo cs i (Cf.pair rest)) ∧ Turn (fun k => k = x) w w' := by
  have hc := Pg.cut_le rest
  have HT := Stow.mk (Cf.pair_is rest)
  have HC := Stow.mk (cfTwo_any rest w hl hm)
  obtain ⟨p, hp⟩ : ∃ p, Cf.pair rest = p := ⟨_, rfl⟩
  have HPE := Stow.mk (Cf.pair_eq rest)
  obtain ⟨b, hb⟩ : ∃ b, (Pg.cut rest).2 = b := ⟨_, rfl⟩
  obtain ⟨n, hn⟩ : ∃ n, Cf.numN (Pg.cut rest).1 = n := ⟨_, rfl⟩
  obtain ⟨m, hm2⟩ : ∃ m, Cf.numN b = m := ⟨_, rfl⟩
  obtain ⟨tw, htw⟩ : ∃ c, (Cf.two rest).isSome = c := ⟨_, rfl⟩
  obtain ⟨ns, hns⟩ : ∃ c, (Cf.num b).isSome = c := ⟨_, rfl⟩
  have hbl : b.length ≤ 9223372036854775807 := by rw [← hb]; omega
  have HNB := Stow.mk (fun W => number_any b W hbl)
  have hm3 : (Cf.num b).getD 0 = m := hm2
  rw [hm3, hns] at HNB
  rw [hp, hb, htw, hns] at HT
  rw [hp, hb, hn, hm2] at HPE
  rw [hn, hb, htw] at HC
  rw [hp]
  have HH := Stow.mk hx
  have hlt := hx.lt
  clear hc hp hb hn hm2 htw hns hm3 hm
  have key : (tw = true ∧ ns = true) ∨ (tw && ns) = false := by cases tw <;> cases ns <;> simp
  have hif : (tw && ns) = false → p = none := fun h => by
    have := HT.out
    rw [h] at this
    cases p with
    | none => rfl
    | some v => simp at this
  rcases key with ⟨rfl, rfl⟩ | key
  · have hpe : p = some (n, m) := HPE.out (by rw [HT.out]; rfl)
    subst hpe
    have HB : Stow (∀ W, Below w.heap.size w W → (W.cell? ⟨x, i, none⟩).isSome = true ∧ (W.cell? ⟨x, i + 1, none⟩).isSome = true ∧ W.frozen? ⟨x, i, none⟩ = false ∧ W.frozen? ⟨x, i + 1, none⟩ = false) := ⟨fun W hb => by
      have h := HH.out.kept hb
      exact ⟨by rw [h.cell (List.getElem?_eq_getElem (by omega : i < cs.length))]; rfl, by rw [h.cell (List.getElem?_eq_getElem hi)]; rfl, h.free i, h.free (i + 1)⟩⟩
    clear hif HPE HT hx
    go_enter Tryz.func195, Tryz.ntmps195
    go_wp2_with fail
    refine HC.out.mono ?_
    rintro e w1 ⟨rfl, hb1⟩
    go_wp2_with fail
    refine (HNB.out w1).mono ?_
    rintro e w2 ⟨rfl, rfl⟩
    have HB1 := Stow.mk hb1
    obtain ⟨f0, f1, f2, f3⟩ := HB.out _ hb1
    have hh := HH.out.kept hb1
    have c0 := hh.cell (List.getElem?_eq_getElem (by omega : i < cs.length))
    have c1 := hh.cell (List.getElem?_eq_getElem hi)
    have HH2 := Stow.mk hh
    clear hb1 hh
    go_wp2_with fail
    go_ret
    refine ⟨rfl, (HH2.out.set i _).set (i + 1) _, ?_⟩
    exact ((Turn.of_below HB1.out).trans (Turn.setC w2 x i _) (fun i hi => .inl hi)).trans (Turn.setC _ x (i + 1) _) (fun i hi => .inl hi)
  · obtain rfl := hif key
    have HKY := Stow.mk key
    clear hif HPE HT hx key
    cases tw with
    | false =>
      go_enter Tryz.func195, Tryz.ntmps195
      go_wp2_with fail
      refine HC.out.mono ?_
      rintro e w1 ⟨rfl, hb1⟩
      go_wp2_with fail
      refine (HNB.out w1).mono ?_
      rintro e w2 ⟨rfl, rfl⟩
      go_wp2_with fail
      go_ret
      exact ⟨rfl, HH.out.kept hb1, Turn.of_below hb1⟩
    | true =>
      obtain rfl : ns = false := by have := HKY.out; simpa using this
      go_enter Tryz.func195, Tryz.ntmps195
      go_wp2_with fail
      refine HC.out.mono ?_
      rintro e w1 ⟨rfl, hb1⟩
      go_wp2_with fail
      refine (HNB.out w1).mono ?_
      rintro e w2 ⟨rfl, rfl⟩
      go_wp2_with fail
      go_ret
      exact ⟨rfl, HH.out.kept hb1, Turn.of_below hb1⟩
set_option maxHeartbeats 1000000 in
set_option maxRecDepth 100000 in
theorem rdSingle_any {N : Nat} {w : World} {g : Nat} {LA : Option Addr} {lc : Nat} {L : List (List UInt8)} {k : Nat} {vr : Value} {R : List Rm} {f : List UInt8} (h : RdM N w g LA lc L k vr R f) (hk : k < L.length) (rest : List UInt8) (hr : rest = (Pg.cut (L.getD k [])).2) :
    Calls Tryz.prog 164 #[.pointer (some ⟨g, 0, none⟩), .string (bs rest)] w fun e w' => e = .returned (.bool (Cf.single (L.getD k []))) ∧ Below w.heap.size w w' := by
  have a0 := h.hd.cell (i := 0) rfl
  have a1 := h.hd.cell (i := 1) rfl
  have HS : Stow (Cf.single (L.getD k []) = ((L.getD k []).count 32 == 1 && !decide ((32 : UInt8) ∈ rest))) := ⟨by rw [hr]; rfl⟩
  rw [HS.out]
  obtain ⟨b, off, rfl, hc⟩ := h.line hk
  rw [Cf.getD_at hk]
  obtain ⟨l, hl⟩ : ∃ l, L[k] = l := ⟨_, rfl⟩
  rw [hl] at hc ⊢
  obtain ⟨n, hn⟩ : ∃ n, L.length = n := ⟨_, rfl⟩
  rw [hn] at a0 hk
  have hk0 : (0 : Int) ≤ k := by omega
  have hk1 : (k : Int) < n := by omega
  have HCT := Stow.mk (fun W => count32_any l W)
  have HHS := Stow.mk (fun W => has32_any rest W)
  obtain ⟨c, hct⟩ : ∃ c, l.count 32 = c := ⟨_, rfl⟩
  rw [hct] at HCT ⊢
  obtain ⟨hs, hhs⟩ : ∃ q, decide ((32 : UInt8) ∈ rest) = q := ⟨_, rfl⟩
  rw [hhs] at HHS ⊢
  clear h hl hn hct hhs HS hr
  by_cases h1 : c = 1
  · subst h1
    go_enter Tryz.func164, Tryz.ntmps164
    go_upto_region 1 with fail
    go_quiet (first | (go_at_call 160; exact Calls.quiet_of_same (HCT.out _)) | (go_at_call 194; exact Calls.quiet_of_same (HHS.out _)))
    go_wp2_with fail
    go_ret
    exact ⟨by cases hs <;> rfl, Below.drewN' (Below.self w) _⟩
  · have h1i : ((c : Int) == 1) = false := by simp; omega
    have h1n : (c == 1) = false := by simp; omega
    rw [h1n]
    go_enter Tryz.func164, Tryz.ntmps164
    go_upto_region 1 with fail
    go_quiet (first | (go_at_call 160; exact Calls.quiet_of_same (HCT.out _)))
    go_wp2_with fail
    go_ret
    exact ⟨rfl, Below.drewN' (Below.self w) _⟩
end Go.Proofs.YtfbhdkkmcfnghaaGreatDoor
