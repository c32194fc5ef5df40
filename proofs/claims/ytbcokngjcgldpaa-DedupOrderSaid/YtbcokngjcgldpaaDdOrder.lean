/- Walk of DedupOrder, and what it rests on in plain Lean. Condition: a slice of bytes. -/
import Derived.Test.YtbcokngjcgldpaaDdKnown
import Derived.Test.YtbcokngjcgldpaaDdData
namespace Go.Proofs.Ytbcokngjcgldpaa
open Go.RowKit Go.Lib
set_option linter.unusedVariables false

namespace Dd
/-- Windows of one node whose numbers are less than 128 apart. -/
def One (base : Int) (V : List Int) (L : List Wi) : Prop :=
  (V = [] ∧ L = []) ∨ ∃ h s, L = [⟨3, h, s⟩] ∧ OkW ⟨3, h, s⟩ ∧ ∀ x, x ∈ s ↔ x ∈ V
theorem one_next {base n : Int} {V : List Int} {L : List Wi} (hb0 : 0 ≤ base) (hb1 : base ≤ 1000000) (hV : ∀ x ∈ V, base ≤ x ∧ x ≤ base + 127) (hn : base ≤ n ∧ n ≤ base + 127) (h : One base V L) :
    ∃ L', fresh L 3 n = (L', V.all (· != n)) ∧ One base (V ++ [n]) L' ∧ has L' 3 n = true := by
  have hbad : bad 3 n = false := by simp [bad]; omega
  have key : ∀ h' s', OkW ⟨3, h', s'⟩ → n ∈ s' → has [⟨3, h', s'⟩] 3 n = true := by
    intro h' s' _ hm
    simpa [has, pl] using hm
  rcases h with ⟨rfl, rfl⟩ | ⟨h, s, rfl, hok, hs⟩
  · have hok' : OkW ⟨3, n, [n]⟩ := by
      have := (Ok.fresh (node := 3) (x := n) Ok.nil)
      rw [show fresh [] 3 n = ([⟨3, n, [n]⟩], true) by unfold fresh; rw [hbad]; rfl] at this
      exact this.each _ (by simp)
    refine ⟨[⟨3, n, [n]⟩], by unfold fresh; rw [hbad]; rfl, .inr ⟨n, [n], rfl, hok', by simp⟩, key _ _ hok' (by simp)⟩
  · have hf : fresh [⟨3, h, s⟩] 3 n = match step ⟨3, h, s⟩ n with | none => ([⟨3, h, s⟩], false) | some w' => ([w'], true) := by
      unfold fresh
      rw [hbad]
      simp only [Bool.false_eq_true, if_false]
      rw [show pl [⟨3, h, s⟩] 3 = some 0 from rfl]
      rfl
    have hh : base ≤ h ∧ h ≤ base + 127 := hV _ ((hs h).1 hok.top)
    rw [hf]
    have hall : V.all (· != n) = !(s.contains n) := by
      rw [Bool.eq_iff_iff]
      simp only [List.all_eq_true, bne_iff_ne, Bool.not_eq_true', ← Bool.not_eq_true, List.contains_iff_mem]
      rw [hs n]
      constructor
      · intro h1 h2; exact h1 n h2 rfl
      · intro h1 y hy e; exact h1 (e ▸ hy)
    rw [hall]
    have hokst : ∀ w', step ⟨3, h, s⟩ n = some w' → OkW w' := fun w' hw' => (hok.step (by omega) (by omega) hw').1
    by_cases h1 : h < n
    · have hst : step ⟨3, h, s⟩ n = some (high ⟨3, h, s⟩ n) := by unfold step; rw [if_pos h1]
      have hk := hokst _ hst
      rw [hst]
      have hnc : s.contains n = false := by
        rw [Bool.eq_false_iff]
        intro hc
        have := hok.le n (List.contains_iff_mem.1 hc)
        simp only at this
        omega
      rw [hnc]
      refine ⟨_, rfl, .inr ⟨_, _, rfl, hk, fun x => ?_⟩, key _ _ hk (by simp)⟩
      simp only [List.mem_append, List.mem_filter, List.mem_singleton, decide_eq_true_eq, ← hs x]
      constructor
      · rintro (⟨a, _⟩ | a)
        · exact .inl a
        · exact .inr a
      · rintro (a | a)
        · have := hV x ((hs x).1 a)
          exact .inl ⟨a, by omega⟩
        · exact .inr a
    · by_cases h2 : n ∈ s
      · have hst : step ⟨3, h, s⟩ n = none := by unfold step; rw [if_neg h1, if_pos (.inr h2)]
        rw [hst, List.contains_iff_mem.2 h2]
        refine ⟨_, rfl, .inr ⟨h, s, rfl, hok, fun x => ?_⟩, key _ _ hok h2⟩
        simp only [List.mem_append, List.mem_singleton, ← hs x]
        constructor
        · exact fun a => .inl a
        · rintro (a | rfl)
          · exact a
          · exact h2
      · have hst : step ⟨3, h, s⟩ n = some (low ⟨3, h, s⟩ n) := by unfold step; rw [if_neg h1, if_neg (by rintro (a | a); simp only at a; omega; exact h2 a)]
        have hk := hokst _ hst
        have hnc : s.contains n = false := by
          rw [Bool.eq_false_iff]
          exact fun hc => h2 (List.contains_iff_mem.1 hc)
        rw [hst, hnc]
        refine ⟨_, rfl, .inr ⟨_, _, rfl, hk, fun x => ?_⟩, key _ _ hk (mem_ins.2 (.inl rfl))⟩
        show x ∈ ins n s ↔ _
        rw [mem_ins]
        simp only [List.mem_append, List.mem_singleton, ← hs x]
        constructor
        · rintro (a | ⟨a, _⟩)
          · exact .inr a
          · exact .inl a
        · rintro (a | a)
          · by_cases e : x = n
            · exact .inl e
            · exact .inr ⟨a, e⟩
          · exact .inl a
end Dd
/-- A byte's cell. -/
def uc (n : Nat) : List Value := [.int .u8 (n : Int)]
theorem flat_u8s (w : World) : Cells.Flat Try.prog w 55 [Cells.pSlice w 1 [Cells.pInt .u8]] := Cells.flat_slice Try.underlying55 (by kernel_rfl) (Cells.flat_int Try.underlying5)
theorem u8_of_cells {cs : List Value} (h : Cells.Rel [Cells.pInt .u8] cs) : ∃ n : Nat, cs = uc n ∧ n < 256 := by
  obtain ⟨v0, rfl, ⟨n, rfl, hn⟩⟩ := h.one
  have := Go.bounds_u8 hn
  exact ⟨n.toNat, by simp [uc]; omega, by omega⟩
theorem u8s_of {w : World} {v : Value} (h : Cells.pSlice w 1 [Cells.pInt .u8] v) : ∃ (M : List Nat) (A : Option Addr) (cap : Nat), v = .slice A M.length cap ∧ SlR w 1 (.slice A M.length cap) (M.map uc) ∧ ∀ n ∈ M, n < 256 := by
  obtain ⟨M, hM, hf⟩ := slr_of (c := 1) uc (· < 256) (fun cs hc => u8_of_cells hc) (fun _ => rfl) Nat.one_pos h
  obtain ⟨A, cap, rfl, _⟩ := hM.form
  simp only [List.length_map] at hM ⊢
  exact ⟨M, A, cap, rfl, hM, hf⟩
theorem u8_at {w : World} {b off n cap : Nat} {s : List Nat} (h : SlR w 1 (.slice (some ⟨b, off, none⟩) n cap) (s.map uc)) {j : Nat} (hj : j < s.length) : b < w.heap.size ∧ w.cell? ⟨b, off + j, none⟩ = some (.int .u8 (s[j] : Int)) := by
  have hi : (s.map uc)[j]? = some (uc s[j]) := by rw [List.getElem?_map, List.getElem?_eq_getElem hj]; rfl
  obtain ⟨hb, hc⟩ := h.cells hi
  have := hc 0 _ rfl
  rw [Nat.mul_one, Nat.add_zero] at this
  exact ⟨hb, this⟩
def ov (base : Int) (l : List Nat) : List Int := l.map fun u => base + ((u % 128 : Nat) : Int)

set_option maxHeartbeats 1000000 in
set_option maxRecDepth 100000 in
theorem order29 (l : List Nat) (A : Option Addr) (cap : Nat) (base : Int) (w : World) (hS : SlR w 1 (.slice A l.length cap) (l.map uc)) (h8 : ∀ n ∈ l, n < 256) :
    Calls Try.prog 6 #[.int .i64 base, .slice A l.length cap] w fun e w' => e = .returned (.bool true) ∧ Below w.heap.size w w' := by
  have HS := Stow.mk hS
  have hlen := hS.len
  have H8 := Stow.mk h8
  simp only [List.length_map] at hlen
  clear hS h8
  by_cases hb0 : base < 0
  · go_enter Try.func6, Try.ntmps6
    go_wp2_with fail
    refine (known29_any _).mono ?_
    rintro e wk ⟨rfl, hbk⟩
    go_wp2_with fail
    go_ret
    exact ⟨rfl, hbk⟩
  by_cases hb1 : 1000000 < base
  · go_enter Try.func6, Try.ntmps6
    go_wp2_with fail
    refine (known29_any _).mono ?_
    rintro e wk ⟨rfl, hbk⟩
    go_wp2_with fail
    go_ret
    exact ⟨rfl, hbk⟩
  by_cases h3 : 200 < l.length
  · have h3' : (200 : Int) < l.length := by omega
    go_enter Try.func6, Try.ntmps6
    go_wp2_with fail
    refine (known29_any _).mono ?_
    rintro e wk ⟨rfl, hbk⟩
    go_wp2_with fail
    go_ret
    exact ⟨rfl, hbk⟩
  have h3' : (l.length : Int) ≤ 200 := by omega
  have HVR : Stow (∀ x ∈ ov base l, base ≤ x ∧ x ≤ base + 127) := ⟨fun x hx => by
    obtain ⟨u, _, rfl⟩ := List.mem_map.1 hx
    omega⟩
  go_enter Try.func6, Try.ntmps6
  go_wp2_with fail
  go_loopw [5, 6] (fun x v wr => ∃ (j : Nat) (R : List Wm), v = .int .i64 (j : Int) ∧ j ≤ l.length ∧ WinR wr x R ∧ Dd.One base ((ov base l).take j) (wis R) ∧ Dd.Ok (wis R) ∧ Below w.heap.size w wr) (fun _ v _ => l.length - (intOf v).toNat)
  case atStart => exact ⟨0, [], rfl, by omega, WinR.none _, .inl ⟨by simp, rfl⟩, Dd.Ok.nil, Below.self _⟩
  case round =>
    obtain ⟨j, R, rfl, hj, hW, h1, hok, hbr⟩ := hrel
    have HL := Stow.mk hW
    have HOK := Stow.mk hok
    have HBR := Stow.mk hbr
    by_cases hlt : j < l.length
    · have hov : j < (ov base l).length := by simpa [ov] using hlt
      have HNX := Stow.mk (Dd.one_next (by omega) (by omega) (fun x hx => HVR.out x (List.mem_of_mem_take hx)) (HVR.out _ (List.getElem_mem hov)) h1)
      have hnr := HVR.out _ (List.getElem_mem hov)
      rw [← List.take_succ_eq_append_getElem hov] at HNX
      have hne : (ov base l)[j] = base + ((l[j] % 128 : Nat) : Int) := by simp [ov]
      rw [hne] at HNX hnr
      obtain ⟨b, off, rfl, hblt, _⟩ := HS.out.open (by simp; omega)
      have HU : Stow (∀ w', Below w.heap.size w w' → ∀ k (hk : k < l.length), w'.cell? ⟨b, off + k, none⟩ = some (.int .u8 (l[k] : Int))) := ⟨fun w' hb k hk => (u8_at (HS.out.keep hb) hk).2⟩
      have hc := HU.out _ hbr j hlt
      have hu := H8.out _ (List.getElem_mem hlt)
      obtain ⟨u, hu'⟩ : ∃ u, l[j] = u := ⟨_, rfl⟩
      rw [hu'] at hc hu HNX hnr
      clear hne hu'
      have htm : Int.tmod (u : Int) 128 = ((u % 128 : Nat) : Int) := by rw [Int.tmod_eq_emod_of_nonneg (by omega)]; omega
      generalize hm : u % 128 = m at *
      have hji : (j : Int) < l.length := by omega
      clear h1 hok hW hbr
      go_wp2_with fail
      go_loopw [8, 9] (fun f v w' => ∃ k : Nat, v = .int .i64 (k : Int) ∧ k ≤ j ∧ f = .bool (((ov base l).take k).all (· != base + (m : Int))) ∧ w' = wr) (fun _ v _ => j - (intOf v).toNat)
      case atStart => exact ⟨0, rfl, by omega, rfl, rfl⟩
      case round =>
        obtain ⟨k, rfl, hk, rfl, rfl⟩ := hrel
        by_cases hkj : k < j
        · have hkl : k < l.length := by omega
          have hov' : k < (ov base l).length := by simpa [ov] using hkl
          have hck := HU.out _ HBR.out k hkl
          have hku := H8.out _ (List.getElem_mem hkl)
          have HA : Stow (((ov base l).take (k + 1)).all (· != base + (m : Int)) = (((ov base l).take k).all (· != base + (m : Int)) && (base + ((l[k] % 128 : Nat) : Int) != base + (m : Int)))) := ⟨by
            rw [List.take_succ_eq_append_getElem hov', List.all_append]
            simp [ov]⟩
          obtain ⟨x, hx⟩ : ∃ x, l[k] = x := ⟨_, rfl⟩
          rw [hx] at hck hku HA
          clear hx
          have htx : Int.tmod (x : Int) 128 = ((x % 128 : Nat) : Int) := by rw [Int.tmod_eq_emod_of_nonneg (by omega)]; omega
          have hxl : x % 128 < 128 := by omega
          generalize x % 128 = y at *
          generalize ((ov base l).take k).all (· != base + (m : Int)) = f at *
          have hki : (k : Int) < l.length := by omega
          have hkji : (k : Int) < j := by omega
          cases f
          · go_wp2_with fail
            exact ⟨⟨k + 1, rfl, by omega, by rw [HA.out]; rfl, trivial⟩, by simp [intOf]; omega⟩
          · obtain ⟨c, hcc⟩ : ∃ c, (base + (y : Int) != base + (m : Int)) = c := ⟨_, rfl⟩
            have HCC := Stow.mk hcc
            go_wp2_with fail
            exact ⟨⟨k + 1, rfl, by omega, by rw [HA.out, HCC.out]; rfl, trivial⟩, by simp [intOf]; omega⟩
        · obtain rfl : k = j := by omega
          obtain ⟨L', hf, hone, hh⟩ := HNX.out
          generalize ((ov base l).take k).all (· != base + (m : Int)) = f at *
          have HH := Stow.mk hh
          have HF := Stow.mk hf
          have H1 := Stow.mk hone
          have hbb : (f != f) = false := by simp
          clear hh hf hone HNX
          go_wp2_with fail
          refine (ddFresh_to HL.out rfl HOK.out HF.out).mono ?_
          rintro e w1 ⟨v1, R1, rfl, e1, hW1, ok1, hb1⟩
          have HW1 := Stow.mk (And.intro e1 (And.intro hW1 ok1))
          clear e1 hW1 ok1
          go_wp2_with fail
          refine (ddHas_to HW1.out.2.1 HW1.out.1 HW1.out.2.2 HH.out).mono ?_
          rintro e w2 ⟨rfl, hb2⟩
          go_wp2_with fail
          exact ⟨⟨k + 1, R1, rfl, by omega, HW1.out.2.1.keep hb2, by rw [HW1.out.1]; exact H1.out, by rw [HW1.out.1]; exact HW1.out.2.2, HBR.out.trans ((hb1.mono HBR.out.size).trans (hb2.mono (Nat.le_trans HBR.out.size hb1.size)))⟩, by simp [intOf]; omega⟩
    · obtain rfl : j = l.length := by omega
      go_wp2_with fail
      refine (known29_any _).mono ?_
      rintro e wk ⟨rfl, hbk⟩
      go_wp2_with fail
      go_ret
      exact ⟨rfl, HBR.out.trans (hbk.mono HBR.out.size)⟩

theorem order29_at (v : Value) (base : Int) (w : World) (hv : Cells.pSlice w 1 [Cells.pInt .u8] v) :
    Calls Try.prog 6 #[.int .i64 base, v] w fun e w' => e = .returned (.bool true) ∧ Below w.heap.size w w' := by
  obtain ⟨M, A, cap, rfl, hS, h8⟩ := u8s_of hv
  exact order29 M A cap base w hS h8
end Go.Proofs.Ytbcokngjcgldpaa
