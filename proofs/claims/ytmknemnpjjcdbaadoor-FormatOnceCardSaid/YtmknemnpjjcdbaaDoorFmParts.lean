/- Walks of a Format's compile, Once.doSlow and Do, Parts, Made, New, in one goroutine. Conditions: the Format's block; a variable of the library's holds an int. -/
import Derived.Test.YtmknemnpjjcdbaaDoorFmOnce
namespace Go.Proofs.YtmknemnpjjcdbaaDoor
open Go.RowKit
set_option linter.unusedVariables false

/-- A Format's cells: its text, whether it is done, the lock, how often it was made, the parts, the error. -/
def fmCells (s : List UInt8) (d l n : Int) (v : Value) (b : Int) : List Value := [.string (bs s), .int .u32 d, .int .i32 l, .int .u32 0, .int .i64 n, v, .int .i64 b]
theorem MaxIs.only {g : Nat} {w w' : World} (h : MaxIs w) (ho : Only g w w') (hg : 0 < g) : MaxIs w' := by
  obtain ⟨m, hm⟩ := h
  exact ⟨m, World.grownBy.cell ho hm (by simp; omega)⟩

set_option maxHeartbeats 1000000 in
set_option maxRecDepth 100000 in
theorem fmCompileM_any (s : List UInt8) (g : Nat) (d l : Int) (w : World) (h : Held w g (fmCells s d l 0 (.slice none 0 0) 0)) (hl : s.length ≤ 9223372036854775807) (hm : MaxIs w) :
    Calls Tryd.prog 20 #[.pointer (some ⟨g, 0, none⟩)] w fun e w' => e = .returned (.tuple #[]) ∧ ∃ v, Held w' g (fmCells s d l 1 v ((Fm.compile s).2.2 : Nat)) ∧ PRow w' w.heap.size v (Fm.compile s).1 ∧ Only g w w' := by
  obtain ⟨R, hR⟩ : ∃ R, Fm.compile s = R := ⟨_, rfl⟩
  have K := fun W h => fmCompile_any s W hl h
  rw [hR] at K ⊢
  have HK := Stow.mk K
  have HH := Stow.mk h
  have HM := Stow.mk hm
  have a0 := h.cell (i := 0) rfl
  clear K hR h hm
  go_enter Tryd.func20, Tryd.ntmps20
  go_wp2_with fail
  refine (HK.out _ HM.out).mono ?_
  unfold CompOf
  rintro e w1 ⟨v, rfl, hr, hb⟩
  obtain ⟨A, cap, rfl⟩ := hr.form
  have h1 := HH.out.kept hb
  have H1 := Stow.mk h1
  have HB := Stow.mk hb
  have HR := Stow.mk hr
  have a4 := h1.cell (i := 4) rfl
  have a5 := h1.cell (i := 5) rfl
  have a6 := h1.cell (i := 6) rfl
  have f4 := h1.free 4
  have f5 := h1.free 5
  have f6 := h1.free 6
  have hlt := HH.out.lt
  clear a0 h1 hr hb
  have h2 := (H1.out.set 5 (.slice A R.1.length cap)).set 6 (.int .i64 (R.2.2 : Nat))
  have H2 := Stow.mk h2
  have c4 := h2.cell (i := 4) rfl
  have g4 := h2.free 4
  have KA := i64_add ⟨g, 4, none⟩ _ c4 g4
  clear h2 c4 g4
  go_wp2_with fail
  refine KA.mono ?_
  rintro e w2 ⟨rfl, rfl⟩
  go_wp2_with fail
  first | go_end0 | refine bodyPost_ret (results_none rfl _ _ _) rfl ?_
  have ho : Only g w (((w1.setCell ⟨g, 5, none⟩ (.slice A R.1.length cap)).setCell ⟨g, 6, none⟩ (.int .i64 (R.2.2 : Nat))).setCell ⟨g, 4, none⟩ (.int .i64 1)) := (((Only.of_below HB.out).trans (Only.set g _ 5 _)).trans (Only.set g _ 6 _)).trans (Only.set g _ 4 _)
  refine ⟨rfl, _, H2.out.set 4 (.int .i64 1), ?_, ho⟩
  exact own_set (own_set (own_set HR.out (by omega) _ _) (by omega) _ _) (by omega) _ _

set_option maxHeartbeats 2000000 in
set_option maxRecDepth 100000 in
theorem once_slow (s : List UInt8) (g : Nat) (w : World) (h : Held w g (fmCells s 0 0 0 (.slice none 0 0) 0)) (hl : s.length ≤ 9223372036854775807) (hm : MaxIs w) (hg : 0 < g) :
    Calls Tryd.prog 31 #[.pointer (some ⟨g, 1, none⟩), .func (.func 20) #[.pointer (some ⟨g, 0, none⟩)] #[]] w fun e w' => e = .returned (.tuple #[]) ∧ ∃ v, Held w' g (fmCells s 1 0 1 v ((Fm.compile s).2.2 : Nat)) ∧ PRow w' w.heap.size v (Fm.compile s).1 ∧ Only g w w' := by
  have h1 := h.set 2 (.int .i32 1)
  have c2 := h.cell (i := 2) rfl
  have f2 := h.free 2
  have KL := lock_free ⟨g, 2, none⟩ w c2 f2
  have KB := bool_load ⟨g, 1, none⟩ 0 _ (h1.cell (i := 1) rfl)
  have KC := fmCompileM_any s g 0 1 (w.setCell ⟨g, 2, none⟩ (.int .i32 1)) h1 hl (hm.only (Only.set g w 2 _) hg)
  have hnot : ∀ (x : Bool) (w : World), (Op.unary .not (.bool x)).run Tryd.prog w = .ok (.bool (!x)) w := fun _ _ => rfl
  have HKL := Stow.mk KL
  have HKB := Stow.mk KB
  have HKC := Stow.mk KC
  have hsz : (w.setCell ⟨g, 2, none⟩ (.int .i32 1)).heap.size = w.heap.size := by simp [World.setCell]
  have hlt := h.lt
  clear KL KB KC c2 f2 h h1 hm
  go_enter_defers Tryd.func31, Tryd.ntmps31
  go_wp2_with (first
    | (go_at_call 42; refine HKL.out.mono ?_; rintro e w' ⟨rfl, rfl⟩)
    | (go_at_call 30; refine HKB.out.mono ?_; rintro e w' ⟨rfl, rfl⟩)
    | (go_at_call 20; refine HKC.out.mono ?_; rintro e w3 ⟨rfl, v, hH, hP, hO⟩))
  have h4 := hH.drew.set 1 (.int .u32 1)
  first | go_wp2 | skip
  refine leaves_cons (f := 44) (args := #[.pointer (some ⟨g, 1, none⟩), .bool true]) (by simp) (by simp [go_sem]) ?_
  refine (bool_store_deferred ⟨g, 1, none⟩ _ .returning _ (hH.cell (i := 1) rfl) (hH.free 1)).mono ?_
  rintro e u' w'' ⟨rfl, rfl, rfl⟩
  refine leaves_cons (f := 43) (args := #[.pointer (some ⟨g, 2, none⟩)]) (by simp [settle]) (by simp [go_sem]) ?_
  refine (unlock_deferred ⟨g, 2, none⟩ _ _ (h4.cell (i := 2) rfl) (h4.free 2)).mono ?_
  rintro e u' w'' ⟨rfl, rfl, rfl⟩
  have ho : Only g w ((w3.drew.setCell ⟨g, 1, none⟩ (.int .u32 1)).setCell ⟨g, 2, none⟩ (.int .i32 0)) := ((((Only.set g w 2 _).trans hO).trans (Only.drewN g w3 1)).trans (Only.set g _ 1 _)).trans (Only.set g _ 2 _)
  have hp : PRow ((w3.drew.setCell ⟨g, 1, none⟩ (.int .u32 1)).setCell ⟨g, 2, none⟩ (.int .i32 0)) w.heap.size v (Fm.compile s).1 := by
    rw [hsz] at hP
    exact own_set (own_set (World.ownsRow.drew hP) hlt _ _) hlt _ _
  have hh := h4.set 2 (.int .i32 0)
  simp [Leaves, settle, results, Tryd.results31]
  exact ⟨v, hh, hp, ho⟩
end Go.Proofs.YtmknemnpjjcdbaaDoor
