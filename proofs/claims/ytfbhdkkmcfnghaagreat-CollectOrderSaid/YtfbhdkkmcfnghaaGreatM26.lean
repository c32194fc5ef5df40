/- Walk of tree.walk. Conditions: a slice's own. -/
import Derived.Test.YtfbhdkkmcfnghaaGreatM25
import Derived.Scope
import Derived.ScopeJumps
import Derived.WalkMore
import Derived.OwnWalk

section
namespace Go.Proofs.YtfbhdkkmcfnghaaGreat
open Go.RowKit
set_option linter.unusedVariables false

theorem reverseV_any (v : Value) (L : List Nat) (B : Nat) (w : World) (hR : IRow w B v L) (hB : B ≤ w.heap.size) :
    Calls Tryz.prog 147 #[v] w fun e w' => e = .returned (.tuple #[]) ∧ IRow w' B v L.reverse ∧ Below B w w' := by
  rcases hR.2 with ⟨rfl, h0⟩ | ⟨g, cp, cur, rfl, hgB, _⟩
  · have hL : L = [] := List.eq_nil_of_length_eq_zero h0
    subst hL
    refine (reverseNil_any w).mono ?_
    rintro e w' ⟨rfl, rfl⟩
    exact ⟨rfl, NRow.nil _ _ _ _, Below.refl _ _⟩
  · refine (reverse_any L B g _ cp w hR).mono ?_
    rintro e w' ⟨rfl, h1, h2⟩
    exact ⟨rfl, h1, h2.below hgB hB⟩
theorem tw_push {L : List Sp} {n : Nat} {A : Option Addr} {cap : Nat} {w wl w' : World} {v5 v7 v5' v7' : Value} {g6 xk d : Nat} {out td2 : List (Nat × Nat)} (hrun : Tr.run (Tr.kids L) L.length ((xk, d) :: td2.reverse) out = Tr.walk L n) (ho : Tr.Out L.length out) (hlt : ∀ y ∈ ((xk, d) :: td2.reverse).map Prod.fst, y < L.length) (hin : xk ∉ out.map Prod.fst)
    (hdep : ∀ p ∈ td2 ++ [(xk, d)], p.2 ≤ out.length) (hfew : td2.length + 1 ≤ out.length * L.length + 1) :
    Tr.run (Tr.kids L) L.length (td2 ++ (Tr.kids L xk).reverse.map (fun k => (k, d + 1))).reverse (out ++ [(xk, d)]) = Tr.walk L n ∧ Tr.Out L.length (out ++ [(xk, d)]) ∧ (∀ y ∈ (td2 ++ (Tr.kids L xk).reverse.map (fun k => (k, d + 1))).map Prod.fst, y < L.length) ∧ (∀ p ∈ td2 ++ (Tr.kids L xk).reverse.map (fun k => (k, d + 1)), p.2 ≤ (out ++ [(xk, d)]).length) ∧
    (td2 ++ (Tr.kids L xk).reverse.map (fun k => (k, d + 1))).length ≤ (out ++ [(xk, d)]).length * L.length + 1 ∧
    (L.length - (out.length + 1)) * (L.length + 2) + (td2.length + (Tr.kids L xk).reverse.length) < (L.length - out.length) * (L.length + 2) + (td2.length + 1) := by
  have hx : xk < L.length := hlt xk (by simp)
  have hkl := Tr.kids_len L xk
  refine ⟨?_, ho.push hx hin, ?_, ?_, ?_, ?_⟩
  · rw [Tr.run_push (Tr.fit L) ho hlt hin] at hrun
    rw [← hrun]
    congr 1
    simp
  · intro y hy
    rw [List.map_append, List.mem_append] at hy
    rcases hy with hy | hy
    · exact hlt y (by simp at hy ⊢; exact .inr hy)
    · obtain ⟨p, hp, rfl⟩ := List.mem_map.1 hy
      obtain ⟨k, hk, rfl⟩ := List.mem_map.1 hp
      exact (Tr.fit L).lt xk k (List.mem_reverse.1 hk)
  · intro p hp
    rw [List.length_append]
    rcases List.mem_append.1 hp with hp | hp
    · have := hdep p (List.mem_append.2 (.inl hp))
      exact Nat.le_trans this (Nat.le_add_right _ _)
    · obtain ⟨k, hk, rfl⟩ := List.mem_map.1 hp
      have := hdep (xk, d) (by simp)
      simp only at this ⊢
      simp only [List.length_cons, List.length_nil]
      omega
  · simp only [List.length_append, List.length_map, List.length_reverse, List.length_cons, List.length_nil]
    rw [Nat.succ_mul]
    omega
  · have hm := ho.more hx hin
    rw [List.length_reverse]
    have e : L.length - out.length = L.length - (out.length + 1) + 1 := by omega
    rw [e, Nat.add_mul]
    generalize (L.length - (out.length + 1)) * (L.length + 2) = q
    omega

theorem Held.grown' {w w' : World} {g : Nat} {cs : List Value} {row : Option Nat} (h : Held w g cs) (hg : w.grownBy w' row) (hne : row ≠ some g) : Held w' g cs := by
  have hl := h.lt
  obtain ⟨t, ht⟩ := h
  exact ⟨t, (hg.block g hl (fun e => hne e.symm)).trans ht⟩
theorem Held.alloc' {w : World} {g : Nat} {cs : List Value} (h : Held w g cs) (o : Obj) : Held (w.alloc o) g cs := h.kept (Below.alloc' (Below.self w) o)
def lenOf : Value → Nat | .slice _ n _ => n | _ => 0

set_option maxHeartbeats 2000000 in
set_option maxRecDepth 200000 in
theorem trWalk_no (A : Option Addr) (cap : Nat) (L : List Sp) (at_ : Int) (w : World) (hn : L.length ≤ 1000000) (h : at_ < 0 ∨ (L.length : Int) ≤ at_) :
    Calls Tryz.prog 117 #[.slice A L.length cap, .int .i64 at_] w fun e w' => e = .returned (.slice none 0 0) ∧ w' = w := by
  rcases h with h | h
  · have hd : decide (at_ < 0) = true := by simp; exact h
    go_enter Tryz.func117, Tryz.ntmps117
    go_wp2_with fail
    go_step3
    go_wp2_with fail
    rw [Exit.noGoto_ret]
    go_ret
    exact ⟨rfl, rfl⟩
  · have hd : decide (at_ < 0) = false := by simp; omega
    have hd2 : decide ((L.length : Int) ≤ at_) = true := by simp; exact h
    go_enter Tryz.func117, Tryz.ntmps117
    go_wp2_with fail
    go_step3
    go_wp2_with fail
    rw [Exit.noGoto_ret]
    go_ret
    exact ⟨rfl, rfl⟩

/-- What holds at the label. -/
structure TW (L : List Sp) (n : Nat) (A : Option Addr) (cap : Nat) (w w' : World) (v5 v7 : Value) (g6 : Nat) (out td : List (Nat × Nat)) : Prop where
  st : WS L.length w.heap.size w' v5 v7 g6 out td
  run : Tr.run (Tr.kids L) L.length td.reverse out = Tr.walk L n
  ok : Tr.Out L.length out
  lt : ∀ y ∈ td.map Prod.fst, y < L.length
  dep : ∀ p ∈ td, p.2 ≤ out.length
  few : td.length ≤ out.length * L.length + 1
  be : Below w.heap.size w w'
def twJ (L : List Sp) (n : Nat) (A : Option Addr) (cap : Nat) (w : World) (a' : Act) (w' : World) : Prop :=
  ∃ (v5 v7 : Value) (g6 : Nat) (out td : List (Nat × Nat)) (u2 u3 u4 u8 u9 u10 u11 u12 u13 u14 u15 u16 u17 u18 u19 u20 u21 u22 u23 u24 u25 u26 u27 u28 u29 u30 u31 u32 u33 u34 u35 u36 u37 u38 u39 u40 u41 u42 u43 u44 u45 u46 u47 u48 u49 u50 u51 u52 u53 u54 u55 u56 u57 u58 u59 u60 u61 u62 u63 u64 u65 u66 u67 u68 u69 u70 u71 u72 u73 u74 u75 : Value), a' = { tmps := (.slice A L.length cap :: .int .i64 (n : Int) :: u2 :: u3 :: u4 :: v5 :: .slice (some ⟨g6, 0, none⟩) L.length L.length :: v7 :: u8 :: u9 :: u10 :: u11 :: u12 :: u13 :: u14 :: u15 :: u16 :: u17 :: u18 :: u19 :: u20 :: u21 :: u22 :: u23 :: u24 :: u25 :: u26 :: u27 :: u28 :: u29 :: u30 :: u31 :: u32 :: u33 :: u34 :: u35 :: u36 :: u37 :: u38 :: u39 :: u40 :: u41 :: u42 :: u43 :: u44 :: u45 :: u46 :: u47 :: u48 :: u49 :: u50 :: u51 :: u52 :: u53 :: u54 :: u55 :: u56 :: u57 :: u58 :: u59 :: u60 :: u61 :: u62 :: u63 :: u64 :: u65 :: u66 :: u67 :: u68 :: u69 :: u70 :: u71 :: u72 :: u73 :: u74 :: u75 :: []).toArray, defers := [] } ∧ TW L n A cap w w' v5 v7 g6 out td

theorem twJ_mk {L : List Sp} {n : Nat} {A : Option Addr} {cap : Nat} {w w' : World} {v5 v7 : Value} {g6 : Nat} {out td : List (Nat × Nat)} {u2 u3 u4 u8 u9 u10 u11 u12 u13 u14 u15 u16 u17 u18 u19 u20 u21 u22 u23 u24 u25 u26 u27 u28 u29 u30 u31 u32 u33 u34 u35 u36 u37 u38 u39 u40 u41 u42 u43 u44 u45 u46 u47 u48 u49 u50 u51 u52 u53 u54 u55 u56 u57 u58 u59 u60 u61 u62 u63 u64 u65 u66 u67 u68 u69 u70 u71 u72 u73 u74 u75 : Value} (h : TW L n A cap w w' v5 v7 g6 out td) :
    twJ L n A cap w { tmps := (.slice A L.length cap :: .int .i64 (n : Int) :: u2 :: u3 :: u4 :: v5 :: .slice (some ⟨g6, 0, none⟩) L.length L.length :: v7 :: u8 :: u9 :: u10 :: u11 :: u12 :: u13 :: u14 :: u15 :: u16 :: u17 :: u18 :: u19 :: u20 :: u21 :: u22 :: u23 :: u24 :: u25 :: u26 :: u27 :: u28 :: u29 :: u30 :: u31 :: u32 :: u33 :: u34 :: u35 :: u36 :: u37 :: u38 :: u39 :: u40 :: u41 :: u42 :: u43 :: u44 :: u45 :: u46 :: u47 :: u48 :: u49 :: u50 :: u51 :: u52 :: u53 :: u54 :: u55 :: u56 :: u57 :: u58 :: u59 :: u60 :: u61 :: u62 :: u63 :: u64 :: u65 :: u66 :: u67 :: u68 :: u69 :: u70 :: u71 :: u72 :: u73 :: u74 :: u75 :: []).toArray, defers := [] } w' := ⟨v5, v7, g6, out, td, u2, u3, u4, u8, u9, u10, u11, u12, u13, u14, u15, u16, u17, u18, u19, u20, u21, u22, u23, u24, u25, u26, u27, u28, u29, u30, u31, u32, u33, u34, u35, u36, u37, u38, u39, u40, u41, u42, u43, u44, u45, u46, u47, u48, u49, u50, u51, u52, u53, u54, u55, u56, u57, u58, u59, u60, u61, u62, u63, u64, u65, u66, u67, u68, u69, u70, u71, u72, u73, u74, u75, rfl, h⟩
theorem tw_start {L : List Sp} {n : Nat} {A : Option Addr} {cap : Nat} {w w1 : World} (hl : n < L.length) (hown : w1.ownsRow w.heap.size 4 1 (.slice (some ⟨w.heap.size, 0, none⟩) L.length L.length) L.length (madeCells (Value.bool false).cells (L.length * 1)).toList) (hgrow : w.grownBy w1 none) :
    TW L n A cap w (w1.alloc (.cells #[.int .i64 (n : Int), .int .i64 0] 157)) (.slice none 0 0) (.slice (some ⟨w1.heap.size, 0, none⟩) 1 1) w.heap.size [] [(n, 0)] := by
  have hb : Below w.heap.size w w1 := (Below.self w).grown hgrow (Nat.le_refl _) (by intro k hk; cases hk)
  have hlt : w.heap.size < w1.heap.size := (World.ownsRow.lt hown _ rfl).2
  have hm : (madeCells (Value.bool false).cells (L.length * 1)).toList = (List.range L.length).map fun i => Value.bool (decide (i ∈ ([] : List (Nat × Nat)).map Prod.fst)) := by
    apply List.ext_getElem
    · simp [madeCells]
    · intro j h1 h2; simp [madeCells, Value.cells, Nat.mod_one]
  rw [hm] at hown
  refine ⟨⟨World.ownsRow_nil _ _ _ _, ⟨by simp [stc], .inr ⟨w1.heap.size, 1, #[.int .i64 (n : Int), .int .i64 0], rfl, by omega, heap_alloc_new w1 _, Nat.le_refl _, by unfold maxLen; omega, rfl, by simp [stc]⟩⟩, World.ownsRow.alloc hown _, (fun k hk => by cases hk), (by intro h; cases h), ?_⟩, ?_, ⟨by simp, by simp⟩, by simpa using hl, by simp, by simp, hb.alloc hb.size _⟩
  · intro h
    simp [Value.ownBlock] at h
    omega
  · unfold Tr.walk
    rw [if_pos hl]
    rfl

set_option maxHeartbeats 8000000 in
set_option maxRecDepth 200000 in
theorem trWalk_yes (A : Option Addr) (cap : Nat) (L : List Sp) (n : Nat) (w : World) (hS : SpR w A cap L) (hn : L.length ≤ 1000000) (hl : n < L.length) :
    Calls Tryz.prog 117 #[.slice A L.length cap, .int .i64 (n : Int)] w fun e w' => ∃ v, e = .returned v ∧ SRow w' w.heap.size v (Tr.walk L n) ∧ Below w.heap.size w w' := by
  have HS := Stow.mk hS
  clear hS
  have hd : decide ((n : Int) < 0) = false := by simp
  have hd2 : decide (L.length ≤ n) = false := by simp; omega
  go_enter Tryz.func117, Tryz.ntmps117
  go_wp2_with fail
  refine wp_scope_jumps 0 (twJ L n A cap w) (fun a' _ => (L.length - lenOf (a'.tmps.getD 5 undef)) * (L.length + 2) + lenOf (a'.tmps.getD 7 undef)) rfl ?_ ?_
  · obtain ⟨i0, hi0, hz, hsz, hby⟩ := info_parts info_bool
    go_wp2_with (refine wpList_make_full _ rfl (.tmp 22) (.tmp 22) 181 rfl w.heap.size 4 i0 (.bool false) 1 Tryz.underlying181 hi0 hz hsz .i64 .i64 _ _ L.length rfl rfl rfl rfl (by rw [hby]; omega) (by unfold maxLen; omega) (Nat.le_refl _) ?_; intro w1 hown1 hgrow1)
    have HTW0 : Stow (TW L n A cap w (w1.alloc (.cells #[.int .i64 (n : Int), .int .i64 0] 157)) (.slice none 0 0) (.slice (some ⟨w1.heap.size, 0, none⟩) 1 1) w.heap.size [] [(n, 0)]) := ⟨tw_start hl hown1 hgrow1⟩
    clear hown1 hgrow1 hi0 hz hsz hby
    generalize w1.alloc (.cells #[.int .i64 (n : Int), .int .i64 0] 157) = wl at *
    generalize (Value.slice (some ⟨w1.heap.size, 0, none⟩) 1 1) = v7 at *
    generalize (Value.slice none 0 0) = v5 at *
    obtain ⟨out, td, HTW⟩ : ∃ out td, Stow (TW L n A cap w wl v5 v7 w.heap.size out td) := ⟨_, _, HTW0⟩
    clear HTW0
    obtain ⟨A5, c5, rfl⟩ := own_form HTW.out.st.o
    obtain ⟨A7, c7, rfl⟩ := own_form HTW.out.st.t
    rcases List.eq_nil_or_concat td with rfl | ⟨td2, x, rfl⟩
    · have HE : Stow (SRow wl w.heap.size (.slice A5 out.length c5) (Tr.walk L n) ∧ Below w.heap.size w wl) := ⟨⟨by
        have h := HTW.out.run
        rw [List.reverse_nil, Tr.run_nil] at h
        rw [← h]; exact HTW.out.st.o, HTW.out.be⟩⟩
      (try go_step3)
      go_wp2_with fail
      simp only [Exit.jump]
      go_ret
      exact ⟨_, rfl, HE.out.1, HE.out.2⟩
    rw [List.concat_eq_append] at HTW ⊢
    obtain ⟨xk, d⟩ := x
    obtain ⟨hpop, g7, rfl, hlen, hg7, q1, q2⟩ := HTW.out.st.pop
    rw [hlen] at HTW ⊢
    simp only at q1 q2
    have hxk : xk < L.length := HTW.out.lt xk (by simp)
    have hdo : d ≤ out.length := HTW.out.dep (xk, d) (by simp)
    have hol := HTW.out.ok.len
    obtain ⟨hmt, hmf6, hg6⟩ := hpop.met hxk
    have hB := HTW.out.be.size
    have HPOP := Stow.mk hpop
    have hrv : (td2 ++ [(xk, d)]).reverse = (xk, d) :: td2.reverse := by simp
    have htd : ∀ y ∈ ((xk, d) :: td2.reverse).map Prod.fst, y < L.length := fun y hy => HTW.out.lt y (by simp at hy ⊢; rcases hy with h | h; exact .inr h; exact .inl h)
    have hc7 : td2.length + 1 ≤ c7 := by
      obtain ⟨A', cap', hv, h1, _⟩ := SlR.of_own (c := 2) (L := (td2 ++ [(xk, d)]).map stc) HTW.out.st.t (by simp) (fun i x hi j u hu => by rw [List.flatMap_def]; exact flat_at (c := 2) (fun y hy => by obtain ⟨m, _, rfl⟩ := List.mem_map.1 hy; rfl) i x hi j u hu)
      simp only [Value.slice.injEq] at hv
      rw [List.length_map, hlen] at h1
      omega
    have hfew : td2.length + 1 ≤ 1000000000001 := by
      have h1 := HTW.out.few
      rw [hlen] at h1
      have h2 : out.length * L.length ≤ 1000000 * 1000000 := Nat.mul_le_mul (by omega) hn
      omega
    have hl1 : ((td2.length : Int) + 1) - 1 = (td2.length : Int) := by omega
    have hxki : (xk : Int) < L.length := by omega
    have hge6 : (wl.heap.size == w.heap.size) = false := by rw [beq_eq_false_iff_ne]; omega
    have hge7 : (wl.heap.size == g7) = false := by rw [beq_eq_false_iff_ne]; omega
    by_cases hin : xk ∈ out.map Prod.fst
    · have hdt : decide (xk ∈ out.map Prod.fst) = true := by simpa using hin
      rw [hdt] at hmt
      have HJN : Stow (TW L n A cap w (wl.alloc (.cells #[.int .i64 (xk : Nat), .int .i64 (d : Nat)] 157)) (.slice A5 out.length c5) (.slice (some ⟨g7, 0, none⟩) td2.length c7) w.heap.size out td2) := ⟨⟨hpop.keep (Below.alloc' (Below.self wl) _), by
        have h := HTW.out.run
        rw [hrv, Tr.run_skip (Tr.fit L) HTW.out.ok htd hin] at h
        exact h, HTW.out.ok, fun y hy => HTW.out.lt y (by rw [List.map_append]; exact List.mem_append.2 (.inl hy)), fun p hp => HTW.out.dep p (List.mem_append.2 (.inl hp)), by have := HTW.out.few; rw [hlen] at this; omega, HTW.out.be.alloc hB _⟩⟩
      clear hin hdt hrv htd hpop HTW hlen
      have hms : (L.length - out.length) * (L.length + 2) + td2.length < (L.length - out.length) * (L.length + 2) + (td2.length + 1) := Nat.lt_succ_self _
      have HMS := Stow.mk hms
      clear hms
      (try go_step3)
      go_wp2_with fail
      (try go_step3)
      refine ⟨rfl, ?_⟩
      first | exact twJ_mk HJN.out | exact ⟨twJ_mk HJN.out, HMS.out⟩
    have hdf : decide (xk ∈ out.map Prod.fst) = false := by simpa using hin
    rw [hdf] at hmt
    have HPU := Stow.mk (tw_push (A := A) (cap := cap) (w := w) (wl := wl) (w' := wl) (v5 := .slice A5 out.length c5) (v7 := .slice A5 out.length c5) (v5' := .slice A5 out.length c5) (v7' := .slice A5 out.length c5) (g6 := w.heap.size) (hrv ▸ HTW.out.run) HTW.out.ok htd hin HTW.out.dep (by have := HTW.out.few; rw [hlen] at this; exact this))
    obtain ⟨hm5, hm7, hm6⟩ := hpop.mark (d := d) hxk
    have HXH : Stow (Held ((wl.setCell ⟨w.heap.size, xk, none⟩ (.bool true)).alloc (.cells #[.int .i64 (xk : Nat), .int .i64 (d : Nat)] 157)) wl.heap.size [.int .i64 (xk : Nat), .int .i64 (d : Nat)]) := ⟨by
      have := Held.made (wl.setCell ⟨w.heap.size, xk, none⟩ (.bool true)) [.int .i64 (xk : Nat), .int .i64 (d : Nat)] 157
      simpa using this⟩
    have HB2 : Stow (Below w.heap.size w (((wl.setCell ⟨w.heap.size, xk, none⟩ (.bool true)).alloc (.cells #[.int .i64 (xk : Nat), .int .i64 (d : Nat)] 157)).alloc (.cells #[.int .i64 (xk : Nat), .int .i64 (d : Nat)] 157))) := ⟨((HTW.out.be.setCell (p := ⟨w.heap.size, xk, none⟩) (World.ownsRow.lt hpop.m w.heap.size rfl).1 _).alloc (by simp; exact hB) _).alloc (by simp; omega) _⟩
    have HR5 := Stow.mk (World.ownsRow.alloc (World.ownsRow.alloc hm5 (.cells #[.int .i64 (xk : Nat), .int .i64 (d : Nat)] 157)) (.cells #[.int .i64 (xk : Nat), .int .i64 (d : Nat)] 157))
    have HR7 := Stow.mk (World.ownsRow.alloc (World.ownsRow.alloc hm7 (.cells #[.int .i64 (xk : Nat), .int .i64 (d : Nat)] 157)) (.cells #[.int .i64 (xk : Nat), .int .i64 (d : Nat)] 157))
    have HR6 := Stow.mk (World.ownsRow.alloc (World.ownsRow.alloc hm6 (.cells #[.int .i64 (xk : Nat), .int .i64 (d : Nat)] 157)) (.cells #[.int .i64 (xk : Nat), .int .i64 (d : Nat)] 157))
    have HAP := Stow.mk (And.intro hpop.ot (And.intro hpop.om hpop.tm))
    have HBL : Stow (∀ k, (Value.slice A5 out.length c5).ownBlock = some k → k < wl.heap.size) := ⟨fun k hk => (World.ownsRow.lt hpop.o k hk).2⟩
    obtain ⟨i1, hi1, hz1, hsz1, hby1⟩ := info_parts info_step
    have HII := Stow.mk (And.intro hi1 (And.intro hz1 (And.intro hsz1 hby1)))
    have HXX : Stow (∀ j v, ([.int .i64 (xk : Nat), .int .i64 (d : Nat)] : List Value)[j]? = some v → (((wl.setCell ⟨w.heap.size, xk, none⟩ (.bool true)).alloc (.cells #[.int .i64 (xk : Nat), .int .i64 (d : Nat)] 157)).alloc (.cells #[.int .i64 (xk : Nat), .int .i64 (d : Nat)] 157)).cell? ((⟨wl.heap.size + 1, 0, none⟩ : Addr).add j) = some v) := ⟨by
      have h := World.news_of_block (cs := #[.int .i64 (xk : Nat), .int .i64 (d : Nat)]) (heap_alloc_new ((wl.setCell ⟨w.heap.size, xk, none⟩ (.bool true)).alloc (.cells #[.int .i64 (xk : Nat), .int .i64 (d : Nat)] 157)) (.cells #[.int .i64 (xk : Nat), .int .i64 (d : Nat)] 157))
      simpa using h⟩
    have HX1 : Stow (∀ v ∈ ([.int .i64 (xk : Nat), .int .i64 (d : Nat)] : List Value), v.oneCell' = true) := ⟨by intro v hv; simp at hv; rcases hv with rfl | rfl <;> rfl⟩
    have HN1 : Stow (out.length + 1 ≤ maxLen ∧ (out.length + 1) * 16 ≤ 140737488355328 ∧ w.heap.size ≤ (((wl.setCell ⟨w.heap.size, xk, none⟩ (.bool true)).alloc (.cells #[.int .i64 (xk : Nat), .int .i64 (d : Nat)] 157)).alloc (.cells #[.int .i64 (xk : Nat), .int .i64 (d : Nat)] 157)).heap.size) := ⟨by unfold maxLen; omega, by omega, by simp; omega⟩
    clear hin hdf hrv htd hpop HTW hlen hm5 hm6 hm7 hi1 hz1 hsz1 hby1
    (try go_step3)
    go_wp2_with (at_builtin; refine wpList_append_lies _ rfl (.tmp 51) (.tmp 53) 154 rfl w.heap.size 157 i1 _ 2 16 Tryz.underlying154 HII.out.1 HII.out.2.1 HII.out.2.2.1 HII.out.2.2.2 rfl (by decide) _ out.length _ rfl HR5.out ⟨wl.heap.size + 1, 0, none⟩ 1 1 [.int .i64 (xk : Nat), .int .i64 (d : Nat)] rfl rfl HXX.out HX1.out (by decide) HN1.out.1 HN1.out.2.1 HN1.out.2.2 _ rfl ?_; intro g5 c5' w2 hown2 hgrow2 hat2 hlt2; have HOW := Stow.mk (And.intro hown2 (And.intro hgrow2 (And.intro hat2 hlt2))); have hxh := (Held.alloc' HXH.out (.cells #[.int .i64 (xk : Nat), .int .i64 (d : Nat)] 157)).grown' hgrow2 (fun e => by have := HBL.out _ e; omega); have x0 := hxh.cell (i := 0) rfl; have x1 := hxh.cell (i := 1) rfl; have HXH2 := Stow.mk hxh; clear hown2 hgrow2 hat2 hlt2 hxh)
    have HW2 : Stow (WS L.length w.heap.size w2 (.slice (some ⟨g5, 0, none⟩) (out.length + 1) c5') (.slice (some ⟨g7, 0, none⟩) td2.length c7) w.heap.size (out ++ [(xk, d)]) td2) := ⟨by
      refine WS.put HR7.out HR6.out HAP.out.1 HAP.out.2.1 HAP.out.2.2 HOW.out.2.1 ?_ rfl HOW.out.2.2.1
      have h := HOW.out.1
      rw [← show ((out ++ [(xk, d)]).flatMap stc) = out.flatMap stc ++ [.int .i64 (xk : Nat), .int .i64 (d : Nat)] by rw [List.flatMap_append]; simp [stc]] at h
      show w2.ownsRow _ _ _ _ (out ++ [(xk, d)]).length _
      rw [List.length_append]
      exact h⟩
    have HB3 : Stow (Below w.heap.size w w2) := ⟨HB2.out.grown HOW.out.2.1 HB2.out.size (fun k hk => (World.ownsRow.lt HR5.out k hk).1)⟩
    have KK := trKids_any A cap L xk w2 (HS.out.keep HB3.out) hn
    have HKK := Stow.mk KK
    clear KK HR5 HR6 HR7 HAP HBL HII HXX HX1 HN1 HXH HB2 HOW HPOP q1 q2 hmt hmf6
    go_wp2_with fail
    refine HKK.out.mono ?_
    rintro e w3 ⟨vk, rfl, hk3, hb3⟩
    have HK3 := Stow.mk hk3
    have HKS := Stow.mk hb3.size
    have HB3' := Stow.mk hb3
    clear hk3 hb3 x0 x1
    obtain ⟨Ak, ck, rfl⟩ := own_form HK3.out
    go_wp2_with fail
    refine (reverseV_any _ _ w2.heap.size _ HK3.out HKS.out).mono ?_
    rintro e w4 ⟨rfl, hk4, hb4⟩
    obtain ⟨ks, hks⟩ : ∃ ks, (Tr.kids L xk).reverse = ks := ⟨_, rfl⟩
    have hkl : (Tr.kids L xk).length = ks.length := by rw [← hks, List.length_reverse]
    rw [hks] at hk4 HPU
    rw [hkl] at hk4
    have HK4 := Stow.mk hk4
    have HB24 : Stow (Below w2.heap.size w2 w4) := ⟨HB3'.out.trans hb4⟩
    have HB4 : Stow (Below w.heap.size w w4) := ⟨HB3.out.trans (HB24.out.mono HB3.out.size)⟩
    have HW4 := Stow.mk (HW2.out.keep HB24.out)
    have HX4 := Stow.mk (HXH2.out.kept HB24.out)
    have hkN : ks.length ≤ L.length := by rw [← hkl]; exact Tr.kids_len L xk
    have HLT2 : Stow ((∀ k, (Value.slice (some ⟨g7, 0, none⟩) td2.length c7).ownBlock = some k → k < w2.heap.size ∧ k ≠ wl.heap.size) ∧ wl.heap.size < w2.heap.size) := ⟨⟨fun k hk => ⟨(World.ownsRow.lt HW2.out.t k hk).2, by simp [Value.ownBlock] at hk; omega⟩, HXH2.out.lt⟩⟩
    rw [hkl]
    clear hk4 hb4 HK3 HB3' HKK HW2 HXH2 HB3 hkl hks
    have HW40 : Stow (WS L.length w.heap.size w4 (.slice (some ⟨g5, 0, none⟩) (out.length + 1) c5') (.slice (some ⟨g7, 0, none⟩) td2.length c7) w.heap.size (out ++ [(xk, d)]) (td2 ++ (ks.take 0).map (fun k => (k, d + 1)))) := ⟨by simpa using HW4.out⟩
    go_wp2_with fail
    go_loopw [7, 63] (fun v7 u wr => ∃ (i : Nat) (A7 : Option Addr) (c7' : Nat), v7 = .slice A7 (td2.length + i) c7' ∧ u = .int .i64 (i : Int) ∧ i ≤ ks.length ∧ Stow (WS L.length w.heap.size wr (.slice (some ⟨g5, 0, none⟩) (out.length + 1) c5') (.slice A7 (td2.length + i) c7') w.heap.size (out ++ [(xk, d)]) (td2 ++ (ks.take i).map (fun k => (k, d + 1)))) ∧ Stow (Held wr wl.heap.size [.int .i64 (xk : Nat), .int .i64 (d : Nat)] ∧ IRow wr w2.heap.size (.slice Ak ks.length ck) ks ∧ (∀ k, (Value.slice A7 (td2.length + i) c7').ownBlock = some k → k ≠ wl.heap.size ∧ (Value.slice Ak ks.length ck).ownBlock ≠ some k)) ∧ Stow (Below w.heap.size w wr)) (fun _ u _ => ks.length - (intOf u).toNat)
    case atStart => exact ⟨0, _, _, rfl, rfl, by omega, HW40, ⟨HX4.out, HK4.out, fun k hk => ⟨(HLT2.out.1 k hk).2, fun e => by have := (World.ownsRow.lt HK4.out k e).1; have := (HLT2.out.1 k hk).1; omega⟩⟩, HB4⟩
    rotate_right
    obtain ⟨i, A7, c7', rfl, rfl, hi, HWI, HXI, HBI⟩ := hrel
    by_cases hil : i < ks.length
    · have hki : (ks[i]'hil) ∈ ks := List.getElem_mem hil
      obtain ⟨kk, hkk⟩ : ∃ kk, ks[i]'hil = kk := ⟨_, rfl⟩
      have hks0 : ¬ ks.length = 0 := by omega
      obtain ⟨gk, rfl⟩ : ∃ gk, Ak = some ⟨gk, 0, none⟩ := by
        rcases HXI.out.2.1.2 with ⟨_, h1⟩ | ⟨g, cp, cur, hv, _⟩
        · exact absurd h1 hks0
        · simp only [Value.slice.injEq] at hv; exact ⟨g, hv.1⟩
      have hkc := HXI.out.2.1.cell (j := i) (x := kk) (by rw [List.getElem?_eq_getElem hil, hkk])
      have hxc := HXI.out.1.cell (i := 1) rfl
      have hii : (i : Int) < ks.length := by omega
      have hgk := (IRow.lt HXI.out.2.1).2
      have hxl := HXI.out.1.lt
      have HTK : Stow (td2 ++ (ks.take (i + 1)).map (fun k => (k, d + 1)) = td2 ++ (ks.take i).map (fun k => (k, d + 1)) ++ [(kk, d + 1)]) := ⟨by rw [List.take_succ_eq_append_getElem hil, hkk, List.map_append, ← List.append_assoc]; rfl⟩
      have HTL : Stow ((td2 ++ (ks.take i).map (fun k => (k, d + 1))).length = td2.length + i) := ⟨by simp only [List.length_append, List.length_map, List.length_take]; omega⟩
      have hbA := Below.alloc' (Below.self wr) (.cells #[.int .i64 (kk : Nat), .int .i64 ((d : Int) + 1)] 157)
      have HWA := Stow.mk (HWI.out.keep hbA)
      have HXA := Stow.mk (And.intro (HXI.out.1.kept hbA) (own_kept HXI.out.2.1 hbA))
      have HBA : Stow (Below w.heap.size w (wr.alloc (.cells #[.int .i64 (kk : Nat), .int .i64 ((d : Int) + 1)] 157))) := ⟨HBI.out.alloc HBI.out.size _⟩
      obtain ⟨i2, hi2, hz2, hsz2, hby2⟩ := info_parts info_step
      have HII2 := Stow.mk (And.intro hi2 (And.intro hz2 (And.intro hsz2 hby2)))
      have HXX2 : Stow (∀ j v, ([.int .i64 (kk : Nat), .int .i64 ((d : Int) + 1)] : List Value)[j]? = some v → (wr.alloc (.cells #[.int .i64 (kk : Nat), .int .i64 ((d : Int) + 1)] 157)).cell? ((⟨wr.heap.size, 0, none⟩ : Addr).add j) = some v) := ⟨World.news_of_block (cs := #[.int .i64 (kk : Nat), .int .i64 ((d : Int) + 1)]) (heap_alloc_new wr _)⟩
      have HX2 : Stow (∀ v ∈ ([.int .i64 (kk : Nat), .int .i64 ((d : Int) + 1)] : List Value), v.oneCell' = true) := ⟨by intro v hv; simp at hv; rcases hv with rfl | rfl <;> rfl⟩
      have HN2 : Stow (td2.length + i + 1 ≤ maxLen ∧ (td2.length + i + 1) * 16 ≤ 140737488355328) := ⟨by unfold maxLen; omega, by omega⟩
      have HT2 : Stow ((wr.alloc (.cells #[.int .i64 (kk : Nat), .int .i64 ((d : Int) + 1)] 157)).ownsRow w.heap.size 157 2 (.slice A7 (td2.length + i) c7') (td2.length + i) ((td2 ++ (ks.take i).map (fun k => (k, d + 1))).flatMap stc)) := ⟨by have := HWA.out.t; unfold SRow at this; rw [HTL.out] at this; exact this⟩
      have hd1 : (0 : Int) ≤ (d : Int) + 1 ∧ (d : Int) + 1 ≤ 1000001 := by omega
      clear hbA hi2 hz2 hsz2 hby2 hki hkk
      go_wp2_with (at_builtin; refine wpList_append_lies _ rfl (.tmp 67) (.tmp 73) 154 rfl w.heap.size 157 i2 _ 2 16 Tryz.underlying154 HII2.out.1 HII2.out.2.1 HII2.out.2.2.1 HII2.out.2.2.2 rfl (by decide) _ (td2.length + i) _ rfl HT2.out ⟨wr.heap.size, 0, none⟩ 1 1 [.int .i64 (kk : Nat), .int .i64 ((d : Int) + 1)] rfl rfl HXX2.out HX2.out (by decide) HN2.out.1 HN2.out.2 HBA.out.size _ rfl ?_; intro g8 c8 w6 hown6 hgrow6 hat6 hlt6; have HOW6 := Stow.mk (And.intro hown6 (And.intro hgrow6 (And.intro hat6 hlt6))); clear hown6 hgrow6 hat6 hlt6)
      have HW6 : Stow (WS L.length w.heap.size w6 (.slice (some ⟨g5, 0, none⟩) (out.length + 1) c5') (.slice (some ⟨g8, 0, none⟩) (td2.length + i + 1) c8) w.heap.size (out ++ [(xk, d)]) (td2 ++ (ks.take (i + 1)).map (fun k => (k, d + 1)))) := ⟨by
        refine HWA.out.push HOW6.out.2.1 ?_ rfl HOW6.out.2.2.1
        have h := HOW6.out.1
        rw [HTK.out]
        show w6.ownsRow _ _ _ _ _ _
        rw [List.length_append, HTL.out, List.flatMap_append]
        exact h⟩
      have hg8 : g8 ≠ wl.heap.size ∧ gk ≠ g8 := by
        rcases HOW6.out.2.2.1 with h | h
        · have := HXI.out.2.2 g8 h
          exact ⟨this.1, fun e => this.2 (by rw [e]; rfl)⟩
        · simp at h
          exact ⟨by omega, by omega⟩
      have hx6 : Held w6 wl.heap.size [.int .i64 (xk : Nat), .int .i64 (d : Nat)] := HXA.out.1.grown' HOW6.out.2.1 (fun e => (HXI.out.2.2 _ e).1 rfl)
      have hk6 : IRow w6 w2.heap.size (.slice (some ⟨gk, 0, none⟩) ks.length ck) ks := apart_kept HXA.out.2 HOW6.out.2.1 (fun k hk e => (HXI.out.2.2 k e).2 hk)
      have hb6 : Below w.heap.size w w6 := HBA.out.grown HOW6.out.2.1 HBA.out.size (fun k hk => (World.ownsRow.lt HT2.out k hk).1)
      have HF6 := Stow.mk (And.intro hx6 (And.intro hk6 (And.intro hb6 hg8)))
      clear hx6 hk6 hb6 hg8
      exact ⟨⟨i + 1, some ⟨g8, 0, none⟩, c8, rfl, rfl, by omega, HW6, ⟨HF6.out.1, HF6.out.2.1, fun k hk => by
        simp [Value.ownBlock] at hk
        subst hk
        exact ⟨HF6.out.2.2.2.1, fun e => by simp [Value.ownBlock] at e; exact HF6.out.2.2.2.2 e⟩⟩, ⟨HF6.out.2.2.1⟩⟩, by simp [intOf]; omega⟩
    obtain rfl : i = ks.length := by omega
    have hni : ¬ (ks.length : Int) < ks.length := by omega
    have HJN : Stow (TW L n A cap w wr (.slice (some ⟨g5, 0, none⟩) (out.length + 1) c5') (.slice A7 (td2.length + ks.length) c7') w.heap.size (out ++ [(xk, d)]) (td2 ++ ks.map (fun k => (k, d + 1)))) := ⟨⟨by have := HWI.out; rwa [List.take_length] at this, HPU.out.1, HPU.out.2.1, HPU.out.2.2.1, HPU.out.2.2.2.1, HPU.out.2.2.2.2.1, HBI.out⟩⟩
    have HMS := Stow.mk HPU.out.2.2.2.2.2
    clear HWI HXI HBI HPU HW4 HX4 HK4 HB4 HB24 HW40 HLT2
    go_wp2_with fail
    (try go_step3)
    refine ⟨rfl, ?_⟩
    first | exact twJ_mk HJN.out | exact ⟨twJ_mk HJN.out, HMS.out⟩
  · rintro a' wl ⟨v5, v7, g6, out, td, u2, u3, u4, u8, u9, u10, u11, u12, u13, u14, u15, u16, u17, u18, u19, u20, u21, u22, u23, u24, u25, u26, u27, u28, u29, u30, u31, u32, u33, u34, u35, u36, u37, u38, u39, u40, u41, u42, u43, u44, u45, u46, u47, u48, u49, u50, u51, u52, u53, u54, u55, u56, u57, u58, u59, u60, u61, u62, u63, u64, u65, u66, u67, u68, u69, u70, u71, u72, u73, u74, u75, rfl, htw⟩
    have HTW := Stow.mk htw
    clear htw
    obtain ⟨A5, c5, rfl⟩ := own_form HTW.out.st.o
    obtain ⟨A7, c7, rfl⟩ := own_form HTW.out.st.t
    rcases List.eq_nil_or_concat td with rfl | ⟨td2, x, rfl⟩
    · have HE : Stow (SRow wl w.heap.size (.slice A5 out.length c5) (Tr.walk L n) ∧ Below w.heap.size w wl) := ⟨⟨by
        have h := HTW.out.run
        rw [List.reverse_nil, Tr.run_nil] at h
        rw [← h]; exact HTW.out.st.o, HTW.out.be⟩⟩
      (try go_step3)
      go_wp2_with fail
      simp only [Exit.jump]
      go_ret
      exact ⟨_, rfl, HE.out.1, HE.out.2⟩
    rw [List.concat_eq_append] at HTW ⊢
    obtain ⟨xk, d⟩ := x
    obtain ⟨hpop, g7, rfl, hlen, hg7, q1, q2⟩ := HTW.out.st.pop
    rw [hlen] at HTW ⊢
    simp only at q1 q2
    have hxk : xk < L.length := HTW.out.lt xk (by simp)
    have hdo : d ≤ out.length := HTW.out.dep (xk, d) (by simp)
    have hol := HTW.out.ok.len
    obtain ⟨hmt, hmf6, hg6⟩ := hpop.met hxk
    have hB := HTW.out.be.size
    have HPOP := Stow.mk hpop
    have hrv : (td2 ++ [(xk, d)]).reverse = (xk, d) :: td2.reverse := by simp
    have htd : ∀ y ∈ ((xk, d) :: td2.reverse).map Prod.fst, y < L.length := fun y hy => HTW.out.lt y (by simp at hy ⊢; rcases hy with h | h; exact .inr h; exact .inl h)
    have hc7 : td2.length + 1 ≤ c7 := by
      obtain ⟨A', cap', hv, h1, _⟩ := SlR.of_own (c := 2) (L := (td2 ++ [(xk, d)]).map stc) HTW.out.st.t (by simp) (fun i x hi j u hu => by rw [List.flatMap_def]; exact flat_at (c := 2) (fun y hy => by obtain ⟨m, _, rfl⟩ := List.mem_map.1 hy; rfl) i x hi j u hu)
      simp only [Value.slice.injEq] at hv
      rw [List.length_map, hlen] at h1
      omega
    have hfew : td2.length + 1 ≤ 1000000000001 := by
      have h1 := HTW.out.few
      rw [hlen] at h1
      have h2 : out.length * L.length ≤ 1000000 * 1000000 := Nat.mul_le_mul (by omega) hn
      omega
    have hl1 : ((td2.length : Int) + 1) - 1 = (td2.length : Int) := by omega
    have hxki : (xk : Int) < L.length := by omega
    have hge6 : (wl.heap.size == g6) = false := by rw [beq_eq_false_iff_ne]; omega
    have hge7 : (wl.heap.size == g7) = false := by rw [beq_eq_false_iff_ne]; omega
    by_cases hin : xk ∈ out.map Prod.fst
    · have hdt : decide (xk ∈ out.map Prod.fst) = true := by simpa using hin
      rw [hdt] at hmt
      have HJN : Stow (TW L n A cap w (wl.alloc (.cells #[.int .i64 (xk : Nat), .int .i64 (d : Nat)] 157)) (.slice A5 out.length c5) (.slice (some ⟨g7, 0, none⟩) td2.length c7) g6 out td2) := ⟨⟨hpop.keep (Below.alloc' (Below.self wl) _), by
        have h := HTW.out.run
        rw [hrv, Tr.run_skip (Tr.fit L) HTW.out.ok htd hin] at h
        exact h, HTW.out.ok, fun y hy => HTW.out.lt y (by rw [List.map_append]; exact List.mem_append.2 (.inl hy)), fun p hp => HTW.out.dep p (List.mem_append.2 (.inl hp)), by have := HTW.out.few; rw [hlen] at this; omega, HTW.out.be.alloc hB _⟩⟩
      clear hin hdt hrv htd hpop HTW hlen
      have hms : (L.length - out.length) * (L.length + 2) + td2.length < (L.length - out.length) * (L.length + 2) + (td2.length + 1) := Nat.lt_succ_self _
      have HMS := Stow.mk hms
      clear hms
      (try go_step3)
      go_wp2_with fail
      (try go_step3)
      refine ⟨rfl, ?_⟩
      first | exact twJ_mk HJN.out | exact ⟨twJ_mk HJN.out, HMS.out⟩
    have hdf : decide (xk ∈ out.map Prod.fst) = false := by simpa using hin
    rw [hdf] at hmt
    have HPU := Stow.mk (tw_push (A := A) (cap := cap) (w := w) (wl := wl) (w' := wl) (v5 := .slice A5 out.length c5) (v7 := .slice A5 out.length c5) (v5' := .slice A5 out.length c5) (v7' := .slice A5 out.length c5) (g6 := g6) (hrv ▸ HTW.out.run) HTW.out.ok htd hin HTW.out.dep (by have := HTW.out.few; rw [hlen] at this; exact this))
    obtain ⟨hm5, hm7, hm6⟩ := hpop.mark (d := d) hxk
    have HXH : Stow (Held ((wl.setCell ⟨g6, xk, none⟩ (.bool true)).alloc (.cells #[.int .i64 (xk : Nat), .int .i64 (d : Nat)] 157)) wl.heap.size [.int .i64 (xk : Nat), .int .i64 (d : Nat)]) := ⟨by
      have := Held.made (wl.setCell ⟨g6, xk, none⟩ (.bool true)) [.int .i64 (xk : Nat), .int .i64 (d : Nat)] 157
      simpa using this⟩
    have HB2 : Stow (Below w.heap.size w (((wl.setCell ⟨g6, xk, none⟩ (.bool true)).alloc (.cells #[.int .i64 (xk : Nat), .int .i64 (d : Nat)] 157)).alloc (.cells #[.int .i64 (xk : Nat), .int .i64 (d : Nat)] 157))) := ⟨((HTW.out.be.setCell (p := ⟨g6, xk, none⟩) (World.ownsRow.lt hpop.m g6 rfl).1 _).alloc (by simp; exact hB) _).alloc (by simp; omega) _⟩
    have HR5 := Stow.mk (World.ownsRow.alloc (World.ownsRow.alloc hm5 (.cells #[.int .i64 (xk : Nat), .int .i64 (d : Nat)] 157)) (.cells #[.int .i64 (xk : Nat), .int .i64 (d : Nat)] 157))
    have HR7 := Stow.mk (World.ownsRow.alloc (World.ownsRow.alloc hm7 (.cells #[.int .i64 (xk : Nat), .int .i64 (d : Nat)] 157)) (.cells #[.int .i64 (xk : Nat), .int .i64 (d : Nat)] 157))
    have HR6 := Stow.mk (World.ownsRow.alloc (World.ownsRow.alloc hm6 (.cells #[.int .i64 (xk : Nat), .int .i64 (d : Nat)] 157)) (.cells #[.int .i64 (xk : Nat), .int .i64 (d : Nat)] 157))
    have HAP := Stow.mk (And.intro hpop.ot (And.intro hpop.om hpop.tm))
    have HBL : Stow (∀ k, (Value.slice A5 out.length c5).ownBlock = some k → k < wl.heap.size) := ⟨fun k hk => (World.ownsRow.lt hpop.o k hk).2⟩
    obtain ⟨i1, hi1, hz1, hsz1, hby1⟩ := info_parts info_step
    have HII := Stow.mk (And.intro hi1 (And.intro hz1 (And.intro hsz1 hby1)))
    have HXX : Stow (∀ j v, ([.int .i64 (xk : Nat), .int .i64 (d : Nat)] : List Value)[j]? = some v → (((wl.setCell ⟨g6, xk, none⟩ (.bool true)).alloc (.cells #[.int .i64 (xk : Nat), .int .i64 (d : Nat)] 157)).alloc (.cells #[.int .i64 (xk : Nat), .int .i64 (d : Nat)] 157)).cell? ((⟨wl.heap.size + 1, 0, none⟩ : Addr).add j) = some v) := ⟨by
      have h := World.news_of_block (cs := #[.int .i64 (xk : Nat), .int .i64 (d : Nat)]) (heap_alloc_new ((wl.setCell ⟨g6, xk, none⟩ (.bool true)).alloc (.cells #[.int .i64 (xk : Nat), .int .i64 (d : Nat)] 157)) (.cells #[.int .i64 (xk : Nat), .int .i64 (d : Nat)] 157))
      simpa using h⟩
    have HX1 : Stow (∀ v ∈ ([.int .i64 (xk : Nat), .int .i64 (d : Nat)] : List Value), v.oneCell' = true) := ⟨by intro v hv; simp at hv; rcases hv with rfl | rfl <;> rfl⟩
    have HN1 : Stow (out.length + 1 ≤ maxLen ∧ (out.length + 1) * 16 ≤ 140737488355328 ∧ w.heap.size ≤ (((wl.setCell ⟨g6, xk, none⟩ (.bool true)).alloc (.cells #[.int .i64 (xk : Nat), .int .i64 (d : Nat)] 157)).alloc (.cells #[.int .i64 (xk : Nat), .int .i64 (d : Nat)] 157)).heap.size) := ⟨by unfold maxLen; omega, by omega, by simp; omega⟩
    clear hin hdf hrv htd hpop HTW hlen hm5 hm6 hm7 hi1 hz1 hsz1 hby1
    (try go_step3)
    go_wp2_with (at_builtin; refine wpList_append_lies _ rfl (.tmp 51) (.tmp 53) 154 rfl w.heap.size 157 i1 _ 2 16 Tryz.underlying154 HII.out.1 HII.out.2.1 HII.out.2.2.1 HII.out.2.2.2 rfl (by decide) _ out.length _ rfl HR5.out ⟨wl.heap.size + 1, 0, none⟩ 1 1 [.int .i64 (xk : Nat), .int .i64 (d : Nat)] rfl rfl HXX.out HX1.out (by decide) HN1.out.1 HN1.out.2.1 HN1.out.2.2 _ rfl ?_; intro g5 c5' w2 hown2 hgrow2 hat2 hlt2; have HOW := Stow.mk (And.intro hown2 (And.intro hgrow2 (And.intro hat2 hlt2))); have hxh := (Held.alloc' HXH.out (.cells #[.int .i64 (xk : Nat), .int .i64 (d : Nat)] 157)).grown' hgrow2 (fun e => by have := HBL.out _ e; omega); have x0 := hxh.cell (i := 0) rfl; have x1 := hxh.cell (i := 1) rfl; have HXH2 := Stow.mk hxh; clear hown2 hgrow2 hat2 hlt2 hxh)
    have HW2 : Stow (WS L.length w.heap.size w2 (.slice (some ⟨g5, 0, none⟩) (out.length + 1) c5') (.slice (some ⟨g7, 0, none⟩) td2.length c7) g6 (out ++ [(xk, d)]) td2) := ⟨by
      refine WS.put HR7.out HR6.out HAP.out.1 HAP.out.2.1 HAP.out.2.2 HOW.out.2.1 ?_ rfl HOW.out.2.2.1
      have h := HOW.out.1
      rw [← show ((out ++ [(xk, d)]).flatMap stc) = out.flatMap stc ++ [.int .i64 (xk : Nat), .int .i64 (d : Nat)] by rw [List.flatMap_append]; simp [stc]] at h
      show w2.ownsRow _ _ _ _ (out ++ [(xk, d)]).length _
      rw [List.length_append]
      exact h⟩
    have HB3 : Stow (Below w.heap.size w w2) := ⟨HB2.out.grown HOW.out.2.1 HB2.out.size (fun k hk => (World.ownsRow.lt HR5.out k hk).1)⟩
    have KK := trKids_any A cap L xk w2 (HS.out.keep HB3.out) hn
    have HKK := Stow.mk KK
    clear KK HR5 HR6 HR7 HAP HBL HII HXX HX1 HN1 HXH HB2 HOW HPOP q1 q2 hmt hmf6
    go_wp2_with fail
    refine HKK.out.mono ?_
    rintro e w3 ⟨vk, rfl, hk3, hb3⟩
    have HK3 := Stow.mk hk3
    have HKS := Stow.mk hb3.size
    have HB3' := Stow.mk hb3
    clear hk3 hb3 x0 x1
    obtain ⟨Ak, ck, rfl⟩ := own_form HK3.out
    go_wp2_with fail
    refine (reverseV_any _ _ w2.heap.size _ HK3.out HKS.out).mono ?_
    rintro e w4 ⟨rfl, hk4, hb4⟩
    obtain ⟨ks, hks⟩ : ∃ ks, (Tr.kids L xk).reverse = ks := ⟨_, rfl⟩
    have hkl : (Tr.kids L xk).length = ks.length := by rw [← hks, List.length_reverse]
    rw [hks] at hk4 HPU
    rw [hkl] at hk4
    have HK4 := Stow.mk hk4
    have HB24 : Stow (Below w2.heap.size w2 w4) := ⟨HB3'.out.trans hb4⟩
    have HB4 : Stow (Below w.heap.size w w4) := ⟨HB3.out.trans (HB24.out.mono HB3.out.size)⟩
    have HW4 := Stow.mk (HW2.out.keep HB24.out)
    have HX4 := Stow.mk (HXH2.out.kept HB24.out)
    have hkN : ks.length ≤ L.length := by rw [← hkl]; exact Tr.kids_len L xk
    have HLT2 : Stow ((∀ k, (Value.slice (some ⟨g7, 0, none⟩) td2.length c7).ownBlock = some k → k < w2.heap.size ∧ k ≠ wl.heap.size) ∧ wl.heap.size < w2.heap.size) := ⟨⟨fun k hk => ⟨(World.ownsRow.lt HW2.out.t k hk).2, by simp [Value.ownBlock] at hk; omega⟩, HXH2.out.lt⟩⟩
    rw [hkl]
    clear hk4 hb4 HK3 HB3' HKK HW2 HXH2 HB3 hkl hks
    have HW40 : Stow (WS L.length w.heap.size w4 (.slice (some ⟨g5, 0, none⟩) (out.length + 1) c5') (.slice (some ⟨g7, 0, none⟩) td2.length c7) g6 (out ++ [(xk, d)]) (td2 ++ (ks.take 0).map (fun k => (k, d + 1)))) := ⟨by simpa using HW4.out⟩
    go_wp2_with fail
    go_loopw [7, 63] (fun v7 u wr => ∃ (i : Nat) (A7 : Option Addr) (c7' : Nat), v7 = .slice A7 (td2.length + i) c7' ∧ u = .int .i64 (i : Int) ∧ i ≤ ks.length ∧ Stow (WS L.length w.heap.size wr (.slice (some ⟨g5, 0, none⟩) (out.length + 1) c5') (.slice A7 (td2.length + i) c7') g6 (out ++ [(xk, d)]) (td2 ++ (ks.take i).map (fun k => (k, d + 1)))) ∧ Stow (Held wr wl.heap.size [.int .i64 (xk : Nat), .int .i64 (d : Nat)] ∧ IRow wr w2.heap.size (.slice Ak ks.length ck) ks ∧ (∀ k, (Value.slice A7 (td2.length + i) c7').ownBlock = some k → k ≠ wl.heap.size ∧ (Value.slice Ak ks.length ck).ownBlock ≠ some k)) ∧ Stow (Below w.heap.size w wr)) (fun _ u _ => ks.length - (intOf u).toNat)
    case atStart => exact ⟨0, _, _, rfl, rfl, by omega, HW40, ⟨HX4.out, HK4.out, fun k hk => ⟨(HLT2.out.1 k hk).2, fun e => by have := (World.ownsRow.lt HK4.out k e).1; have := (HLT2.out.1 k hk).1; omega⟩⟩, HB4⟩
    rotate_right
    obtain ⟨i, A7, c7', rfl, rfl, hi, HWI, HXI, HBI⟩ := hrel
    by_cases hil : i < ks.length
    · have hki : (ks[i]'hil) ∈ ks := List.getElem_mem hil
      obtain ⟨kk, hkk⟩ : ∃ kk, ks[i]'hil = kk := ⟨_, rfl⟩
      have hks0 : ¬ ks.length = 0 := by omega
      obtain ⟨gk, rfl⟩ : ∃ gk, Ak = some ⟨gk, 0, none⟩ := by
        rcases HXI.out.2.1.2 with ⟨_, h1⟩ | ⟨g, cp, cur, hv, _⟩
        · exact absurd h1 hks0
        · simp only [Value.slice.injEq] at hv; exact ⟨g, hv.1⟩
      have hkc := HXI.out.2.1.cell (j := i) (x := kk) (by rw [List.getElem?_eq_getElem hil, hkk])
      have hxc := HXI.out.1.cell (i := 1) rfl
      have hii : (i : Int) < ks.length := by omega
      have hgk := (IRow.lt HXI.out.2.1).2
      have hxl := HXI.out.1.lt
      have HTK : Stow (td2 ++ (ks.take (i + 1)).map (fun k => (k, d + 1)) = td2 ++ (ks.take i).map (fun k => (k, d + 1)) ++ [(kk, d + 1)]) := ⟨by rw [List.take_succ_eq_append_getElem hil, hkk, List.map_append, ← List.append_assoc]; rfl⟩
      have HTL : Stow ((td2 ++ (ks.take i).map (fun k => (k, d + 1))).length = td2.length + i) := ⟨by simp only [List.length_append, List.length_map, List.length_take]; omega⟩
      have hbA := Below.alloc' (Below.self wr) (.cells #[.int .i64 (kk : Nat), .int .i64 ((d : Int) + 1)] 157)
      have HWA := Stow.mk (HWI.out.keep hbA)
      have HXA := Stow.mk (And.intro (HXI.out.1.kept hbA) (own_kept HXI.out.2.1 hbA))
      have HBA : Stow (Below w.heap.size w (wr.alloc (.cells #[.int .i64 (kk : Nat), .int .i64 ((d : Int) + 1)] 157))) := ⟨HBI.out.alloc HBI.out.size _⟩
      obtain ⟨i2, hi2, hz2, hsz2, hby2⟩ := info_parts info_step
      have HII2 := Stow.mk (And.intro hi2 (And.intro hz2 (And.intro hsz2 hby2)))
      have HXX2 : Stow (∀ j v, ([.int .i64 (kk : Nat), .int .i64 ((d : Int) + 1)] : List Value)[j]? = some v → (wr.alloc (.cells #[.int .i64 (kk : Nat), .int .i64 ((d : Int) + 1)] 157)).cell? ((⟨wr.heap.size, 0, none⟩ : Addr).add j) = some v) := ⟨World.news_of_block (cs := #[.int .i64 (kk : Nat), .int .i64 ((d : Int) + 1)]) (heap_alloc_new wr _)⟩
      have HX2 : Stow (∀ v ∈ ([.int .i64 (kk : Nat), .int .i64 ((d : Int) + 1)] : List Value), v.oneCell' = true) := ⟨by intro v hv; simp at hv; rcases hv with rfl | rfl <;> rfl⟩
      have HN2 : Stow (td2.length + i + 1 ≤ maxLen ∧ (td2.length + i + 1) * 16 ≤ 140737488355328) := ⟨by unfold maxLen; omega, by omega⟩
      have HT2 : Stow ((wr.alloc (.cells #[.int .i64 (kk : Nat), .int .i64 ((d : Int) + 1)] 157)).ownsRow w.heap.size 157 2 (.slice A7 (td2.length + i) c7') (td2.length + i) ((td2 ++ (ks.take i).map (fun k => (k, d + 1))).flatMap stc)) := ⟨by have := HWA.out.t; unfold SRow at this; rw [HTL.out] at this; exact this⟩
      have hd1 : (0 : Int) ≤ (d : Int) + 1 ∧ (d : Int) + 1 ≤ 1000001 := by omega
      clear hbA hi2 hz2 hsz2 hby2 hki hkk
      go_wp2_with (at_builtin; refine wpList_append_lies _ rfl (.tmp 67) (.tmp 73) 154 rfl w.heap.size 157 i2 _ 2 16 Tryz.underlying154 HII2.out.1 HII2.out.2.1 HII2.out.2.2.1 HII2.out.2.2.2 rfl (by decide) _ (td2.length + i) _ rfl HT2.out ⟨wr.heap.size, 0, none⟩ 1 1 [.int .i64 (kk : Nat), .int .i64 ((d : Int) + 1)] rfl rfl HXX2.out HX2.out (by decide) HN2.out.1 HN2.out.2 HBA.out.size _ rfl ?_; intro g8 c8 w6 hown6 hgrow6 hat6 hlt6; have HOW6 := Stow.mk (And.intro hown6 (And.intro hgrow6 (And.intro hat6 hlt6))); clear hown6 hgrow6 hat6 hlt6)
      have HW6 : Stow (WS L.length w.heap.size w6 (.slice (some ⟨g5, 0, none⟩) (out.length + 1) c5') (.slice (some ⟨g8, 0, none⟩) (td2.length + i + 1) c8) g6 (out ++ [(xk, d)]) (td2 ++ (ks.take (i + 1)).map (fun k => (k, d + 1)))) := ⟨by
        refine HWA.out.push HOW6.out.2.1 ?_ rfl HOW6.out.2.2.1
        have h := HOW6.out.1
        rw [HTK.out]
        show w6.ownsRow _ _ _ _ _ _
        rw [List.length_append, HTL.out, List.flatMap_append]
        exact h⟩
      have hg8 : g8 ≠ wl.heap.size ∧ gk ≠ g8 := by
        rcases HOW6.out.2.2.1 with h | h
        · have := HXI.out.2.2 g8 h
          exact ⟨this.1, fun e => this.2 (by rw [e]; rfl)⟩
        · simp at h
          exact ⟨by omega, by omega⟩
      have hx6 : Held w6 wl.heap.size [.int .i64 (xk : Nat), .int .i64 (d : Nat)] := HXA.out.1.grown' HOW6.out.2.1 (fun e => (HXI.out.2.2 _ e).1 rfl)
      have hk6 : IRow w6 w2.heap.size (.slice (some ⟨gk, 0, none⟩) ks.length ck) ks := apart_kept HXA.out.2 HOW6.out.2.1 (fun k hk e => (HXI.out.2.2 k e).2 hk)
      have hb6 : Below w.heap.size w w6 := HBA.out.grown HOW6.out.2.1 HBA.out.size (fun k hk => (World.ownsRow.lt HT2.out k hk).1)
      have HF6 := Stow.mk (And.intro hx6 (And.intro hk6 (And.intro hb6 hg8)))
      clear hx6 hk6 hb6 hg8
      exact ⟨⟨i + 1, some ⟨g8, 0, none⟩, c8, rfl, rfl, by omega, HW6, ⟨HF6.out.1, HF6.out.2.1, fun k hk => by
        simp [Value.ownBlock] at hk
        subst hk
        exact ⟨HF6.out.2.2.2.1, fun e => by simp [Value.ownBlock] at e; exact HF6.out.2.2.2.2 e⟩⟩, ⟨HF6.out.2.2.1⟩⟩, by simp [intOf]; omega⟩
    obtain rfl : i = ks.length := by omega
    have hni : ¬ (ks.length : Int) < ks.length := by omega
    have HJN : Stow (TW L n A cap w wr (.slice (some ⟨g5, 0, none⟩) (out.length + 1) c5') (.slice A7 (td2.length + ks.length) c7') g6 (out ++ [(xk, d)]) (td2 ++ ks.map (fun k => (k, d + 1)))) := ⟨⟨by have := HWI.out; rwa [List.take_length] at this, HPU.out.1, HPU.out.2.1, HPU.out.2.2.1, HPU.out.2.2.2.1, HPU.out.2.2.2.2.1, HBI.out⟩⟩
    have HMS := Stow.mk HPU.out.2.2.2.2.2
    clear HWI HXI HBI HPU HW4 HX4 HK4 HB4 HB24 HW40 HLT2
    go_wp2_with fail
    (try go_step3)
    refine ⟨rfl, ?_⟩
    first | exact twJ_mk HJN.out | exact ⟨twJ_mk HJN.out, HMS.out⟩
end Go.Proofs.YtfbhdkkmcfnghaaGreat
end
