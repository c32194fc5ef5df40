/- What a parser's memory holds: two rows of its own and a block that points at them. Condition: none of its own. -/
import Derived.Test.YtmknemnpjjcdbaaDoorFmSpec
import Derived.Test.YtmknemnpjjcdbaaDoorProg
import Derived.Test.YtmknemnpjjcdbaaDoorKit
import Derived.Test.YtmknemnpjjcdbaaDoorSlice
import Derived.Test.YtmknemnpjjcdbaaDoorLib
import Derived.Deep.AppendLies
import Derived.Lib.AppendStr
namespace Go.Proofs.YtmknemnpjjcdbaaDoor
open Go.RowKit
set_option linter.unusedVariables false

def Pt.cells (p : Pt) : List Value := [.int .i64 (p.1 : Nat), .string (bs p.2)]
/-- Parts of a call's own. -/
def PRow (w : World) (B : Nat) (v : Value) (L : List Pt) : Prop := w.ownsRow B 35 2 v L.length (L.flatMap Pt.cells)
theorem info_part : (Tryd.prog.info? 35).map (fun i => (i.zero, i.size, i.bytes)) = some (some (.agg #[.int .i64 0, .string ⟨#[]⟩]), 2, 24) := by kernel_rfl
theorem info_byte : (Tryd.prog.info? 5).map (fun i => (i.zero, i.size, i.bytes)) = some (some (.int .u8 0), 1, 1) := by kernel_rfl
theorem PRow.slr {w : World} {B : Nat} {v : Value} {L : List Pt} (h : PRow w B v L) : SlR w 2 v (L.map Pt.cells) := by
  refine SlR.of_own h (by simp) fun i x hi j u hu => ?_
  have e : L.flatMap Pt.cells = (L.map Pt.cells).flatten := by rw [List.flatMap_def]
  rw [e]
  exact flat_at (c := 2) (fun x hx => by obtain ⟨m, _, rfl⟩ := List.mem_map.1 hx; rfl) i x hi j u hu
theorem PRow.nil (w : World) (B : Nat) : PRow w B (.slice none 0 0) [] := ⟨rfl, .inl ⟨rfl, rfl⟩⟩
theorem PRow.kept {w w' : World} {B : Nat} {v : Value} {L : List Pt} (h : PRow w B v L) (hb : Below w.heap.size w w') : PRow w' B v L := own_kept h hb
theorem PRow.form {w : World} {B : Nat} {v : Value} {L : List Pt} (h : PRow w B v L) : ∃ A cap, v = .slice A L.length cap := own_form h
theorem PRow.base {w : World} {B B' : Nat} {v : Value} {L : List Pt} (h : PRow w B' v L) (hle : B ≤ B') : PRow w B v L := by
  refine ⟨h.1, ?_⟩
  rcases h.2 with h | ⟨g, cap, cur, hv, hb, r⟩
  · exact .inl h
  · exact .inr ⟨g, cap, cur, hv, by omega, r⟩
theorem pt_one {p : Pt} : ∀ u ∈ Pt.cells p, u.oneCell' = true := by
  intro u hu
  simp [Pt.cells] at hu
  rcases hu with rfl | rfl <;> rfl

theorem Held.grown {w w' : World} {g : Nat} {cs : List Value} {row : Option Nat} (h : Held w g cs) (hg : w.grownBy w' row) (hne : row ≠ some g) : Held w' g cs := by
  have hl := h.lt
  obtain ⟨t, ht⟩ := h
  exact ⟨t, (hg.block g hl (fun e => hne e.symm)).trans ht⟩

section
variable {P : Program}
/-- Behind 'append(out, s...)' of a text: the new slice lies where the old one lay, or in a new block. -/
theorem run_append_text_lies (w : World) (base : Nat) (t u ty e : TypeId) (i : TypeInfo) (ht : P.underlying t = some (.slice e)) (hu : P.underlying u = some .string) (hi : P.info? e = some i) (hz : i.zero = some (.int .u8 0))
    (hsize : i.size = 1) (hby : i.bytes = 1) (v : Value) (n : Nat) (xs : List Value) (hown : w.ownsRow base e 1 v n xs) (s : ByteArray) (h63 : n + s.size ≤ maxLen) (hbytes : n + s.size ≤ 140737488355328) (hbase : base ≤ w.heap.size) :
    ∃ v' w', (Builtin.append_ #[t, u] ty #[v, .string s]).run P w = .ok v' w' ∧ w'.ownsRow base e 1 v' (n + s.size) (xs ++ Lib.strCells s) ∧ w.grownBy w' v.ownBlock ∧
      (v'.ownBlock = v.ownBlock ∨ ∀ k, v'.ownBlock = some k → w.heap.size ≤ k) := by
  obtain ⟨v', w', hr, h2, h3, h4⟩ := Lib.run_append_own_string (P := P) w base t u ty e i ht hu hi hz hsize hby v n xs hown s h63 hbytes hbase
  refine ⟨v', w', hr, h2, h3, ?_⟩
  have hxl : xs.length = n := by simpa using hown.1
  rcases hown.2 with ⟨rfl, rfl⟩ | ⟨g, cap, cur, rfl, hbg, hg, hnc, hcm, hcs, htake⟩
  · obtain rfl : xs = [] := List.eq_nil_of_length_eq_zero hxl
    obtain ⟨v2, w2, hr2, g2, _⟩ := Lib.run_append_own_string (P := P) w w.heap.size t u ty e i ht hu hi hz hsize hby _ 0 [] (World.ownsRow_nil w _ e 1) s h63 hbytes (Nat.le_refl _)
    rw [hr] at hr2
    simp only [Result.ok.injEq] at hr2
    obtain ⟨rfl, rfl⟩ := hr2
    exact .inr fun k hk => (g2.lt k hk).1
  · by_cases hroom : n + s.size ≤ cap
    · have hcs' : cur.size = cap := by simpa using hcs
      have hr2 := Lib.run_append_room_string (P := P) w t u ty e i ht hu hi hsize g n cap cur hg s hroom (by omega)
      rw [hr] at hr2
      simp only [Result.ok.injEq] at hr2
      obtain ⟨rfl, _⟩ := hr2
      exact .inl rfl
    · have holds : ∀ j u, xs[j]? = some u → w.cell? ((⟨g, 0, none⟩ : Addr).add j) = some u := hown.cells (g := g) rfl
      have hr2 := Lib.run_append_grow_string (P := P) w t u ty e i (.int .u8 0) ht hu hi hz ⟨g, 0, none⟩ n cap xs (by rw [hsize]; simpa using hxl) holds s (by omega) (by simp only [maxLen] at h63; omega) (by rw [hby]; exact growslice_fits (by omega) (by omega))
      rw [hr] at hr2
      simp only [Result.ok.injEq] at hr2
      obtain ⟨rfl, _⟩ := hr2
      refine .inr fun k hk => ?_
      simp [Value.ownBlock] at hk
      omega
end

/-- A parser: its parts, its text. -/
def Psr (w : World) (g : Nat) (out : List Pt) (text : List UInt8) : Prop :=
  ∃ ov tv, Held w g [ov, tv] ∧ PRow w (g + 1) ov out ∧ BRow w (g + 1) 5 tv text ∧ ∀ k, ov.ownBlock = some k → tv.ownBlock ≠ some k
theorem own_block {w : World} {B : Nat} {e : TypeId} {size n : Nat} {v : Value} {xs : List Value} (h : w.ownsRow B e size v n xs) {g : Nat} (hg : g < B) : v.ownBlock ≠ some g := by
  intro he
  have := (h.lt g he).1
  omega
/-- A row stays where another block turned. -/
theorem own_apart {w w' : World} {B : Nat} {e : TypeId} {size n : Nat} {v : Value} {xs : List Value} {row : Option Nat} (h : w.ownsRow B e size v n xs) (hg : w.grownBy w' row) (hne : ∀ k, v.ownBlock = some k → row ≠ some k) : w'.ownsRow B e size v n xs := by
  refine h.kept hg ?_
  cases hv : v.ownBlock with
  | none => exact .inl rfl
  | some k => exact .inr fun e => hne k hv e.symm
theorem own_set {w : World} {B : Nat} {e : TypeId} {size n : Nat} {v : Value} {xs : List Value} (h : w.ownsRow B e size v n xs) {g : Nat} (hg : g < B) (i : Nat) (u : Value) : (w.setCell ⟨g, i, none⟩ u).ownsRow B e size v n xs :=
  own_apart h (Only.set g w i u) (fun k hk e => by cases e; exact own_block h hg hk)
theorem Psr.keep {w w' : World} {g : Nat} {out : List Pt} {text : List UInt8} (h : Psr w g out text) (hb : Below w.heap.size w w') : Psr w' g out text := by
  obtain ⟨ov, tv, h1, h2, h3, h4⟩ := h
  exact ⟨ov, tv, h1.kept hb, h2.kept hb, own_kept h3 hb, h4⟩
/-- The text's row has turned. -/
theorem psr_text {w w' : World} {g : Nat} {out : List Pt} {text text' : List UInt8} {ov tv tv' : Value} (h1 : Held w g [ov, tv]) (h2 : PRow w (g + 1) ov out) (h3 : BRow w (g + 1) 5 tv text) (h4 : ∀ k, ov.ownBlock = some k → tv.ownBlock ≠ some k)
    (hg : w.grownBy w' tv.ownBlock) (hr : BRow w' (g + 1) 5 tv' text') (hl : tv'.ownBlock = tv.ownBlock ∨ ∀ k, tv'.ownBlock = some k → w.heap.size ≤ k) : Psr (w'.setCell ⟨g, 1, none⟩ tv') g out text' := by
  have a1 := h1.grown hg (own_block h3 (by omega))
  have a2 : PRow w' (g + 1) ov out := own_apart h2 hg (fun k hk => h4 k hk)
  refine ⟨ov, tv', a1.set 1 tv', own_set a2 (by omega) _ _, own_set hr (by omega) _ _, fun k hk e => ?_⟩
  rcases hl with hl | hl
  · exact h4 k hk (hl ▸ e)
  · have := (h2.lt k hk).2
    have := hl k e
    omega
/-- The parts' row has turned; the text is none. -/
theorem psr_out {w w' : World} {g : Nat} {out out' : List Pt} {ov tv ov' : Value} (h1 : Held w g [ov, tv]) (h2 : PRow w (g + 1) ov out) (hg : w.grownBy w' ov.ownBlock) (hr : PRow w' (g + 1) ov' out') :
    Held (w'.setCell ⟨g, 0, none⟩ ov') g [ov', tv] ∧ PRow (w'.setCell ⟨g, 0, none⟩ ov') (g + 1) ov' out' := by
  have a1 := h1.grown hg (own_block h2 (by omega))
  exact ⟨a1.set 0 ov', own_set hr (by omega) _ _⟩
theorem psr_none {w : World} {g : Nat} {out : List Pt} {ov : Value} (h1 : Held w g [ov, .slice none 0 0]) (h2 : PRow w (g + 1) ov out) : Psr w g out [] :=
  ⟨ov, _, h1, h2, BRow.nil _ _ _, fun k _ e => by cases e⟩
end Go.Proofs.YtmknemnpjjcdbaaDoor
