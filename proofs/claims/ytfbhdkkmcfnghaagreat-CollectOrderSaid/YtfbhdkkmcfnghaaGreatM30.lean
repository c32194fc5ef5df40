/- Walk of the reference's recursive walk. Condition: a slice's own.; Walks of the reference's Walk and Lost. Condition: a slice's own.; Walk of the reference's Nodes. Condition: a slice's own. -/
import Derived.Test.YtfbhdkkmcfnghaaGreatM29
import Derived.Test.YtfbhdkkmcfnghaaGreatM25
import Derived.Deep.AppendLies
import Derived.Test.YtfbhdkkmcfnghaaGreatM28

section
namespace Go.Proofs.YtfbhdkkmcfnghaaGreat
open Go.RowKit
set_option linter.unusedVariables false

theorem wpList_append_intL {ops : Array Oper} {rest : List Oper} {o : Oper} {a : Act} {Q : Exit → Act → World → Prop}
    {wr : World} {eo : TypeId} {B : Nat} {v : Value} {L : List Nat} (hown : IRow wr B v L) (n : Nat)
    (hgd : o.guard = none) (s y : Operand) (t : TypeId)
    (ho : o.op = Op.call { callee := Callee.builtin Builtin.append, args := #[s, y], argTypes := #[t, t] })
    (ht : (Tryz.prog).underlying t = some (.slice 3))
    (hs : a.eval s = v) (g : Nat) (hy : a.eval y = .slice (some ⟨g, 0, none⟩) 1 1) (hgs : g = wr.heap.size)
    (hbytes : (L.length + 1) * 8 ≤ 140737488355328) (hB : B ≤ wr.heap.size)
    (h : ∀ b cap w', IRow w' B (.slice (some ⟨b, 0, none⟩) (L.length + 1) cap) (L ++ [n]) → (wr.alloc (.cells #[.int .i64 (n : Int)] eo)).grownBy w' v.ownBlock → Below B wr w' → (v.ownBlock = some b ∨ b = wr.heap.size + 1) →
      wpList Tryz.prog ops Q rest (a.put o.dst (.slice (some ⟨b, 0, none⟩) (L.length + 1) cap)) w') :
    wpList Tryz.prog ops Q (o :: rest) a (wr.alloc (.cells #[.int .i64 (n : Int)] eo)) := by
  subst hgs
  obtain ⟨i, hi, hz, hsz, hby⟩ := info_parts info_int
  have hl : (L.map fun m : Nat => Value.int .i64 (m : Int)).length = L.length := by simp
  refine wpList_append_lies _ hgd s y t ho B 3 i (.int .i64 0) 1 8 ht hi hz hsz hby rfl (by decide) v L.length _ hs (World.ownsRow.alloc hown _) ⟨wr.heap.size, 0, none⟩ 1 1 [.int .i64 (n : Int)] hy rfl ?_ ?_ (by decide) (by unfold maxLen; omega) hbytes (by simp; omega) (wr.heap.size + 1) (by simp) ?_
  · intro j u hj
    match j, hj with
    | 0, hj => simp at hj; subst hj; simp [Addr.add]
  · intro u hu; simp at hu; subst hu; rfl
  · intro b cap w' h1 h2 h3 h4
    have hb : Below B wr (wr.alloc (.cells #[.int .i64 (n : Int)] eo)) := (Below.refl _ _).alloc hB _
    refine h b cap w' ?_ h2 (hb.grown h2 (by simp; omega) fun k hk => (World.ownsRow.lt hown k hk).1) h3
    show w'.ownsRow _ _ _ _ (L ++ [n]).length _
    rw [List.length_append]
    simpa using h1

def Apart (a b : Value) : Prop := ∀ k, a.ownBlock = some k → b.ownBlock ≠ some k
/-- Two rows of the call's own. -/
structure AP (w : World) (B : Nat) (v1 v2 : Value) (S D : List Nat) : Prop where
  s : IRow w B v1 S
  d : IRow w B v2 D
  ne : Apart v1 v2
/-- What stands apart from two rows is kept. -/
def KP (w w' : World) (v1 v2 v1' v2' : Value) : Prop := ∀ B vk Lk, IRow w B vk Lk → Apart vk v1 → Apart vk v2 → IRow w' B vk Lk ∧ Apart vk v1' ∧ Apart vk v2'
section
variable {w w' w'' : World} {B : Nat} {v1 v2 v1' v2' v1'' v2'' : Value} {S D S' D' : List Nat}
theorem KP.trans (h : KP w w' v1 v2 v1' v2') (h' : KP w' w'' v1' v2' v1'' v2'') : KP w w'' v1 v2 v1'' v2'' := fun B vk Lk hk h1 h2 => have ⟨a, b, c⟩ := h B vk Lk hk h1 h2; h' B vk Lk a b c
theorem KP.self (w : World) (v1 v2 : Value) : KP w w v1 v2 v1 v2 := fun B vk Lk hk h1 h2 => ⟨hk, h1, h2⟩
theorem KP.of_below (hb : Below w.heap.size w w') (v1 v2 : Value) : KP w w' v1 v2 v1 v2 := fun B vk Lk hk h1 h2 => ⟨own_kept hk hb, h1, h2⟩
theorem AP.keep (h : AP w B v1 v2 S D) (hb : Below w.heap.size w w') : AP w' B v1 v2 S D := ⟨own_kept h.s hb, own_kept h.d hb, h.ne⟩
theorem apart_new {b : Nat} {o : Obj} (hk : ∀ k, v2.ownBlock = some k → k < w.heap.size) (h1 : Apart v2 v1) (hv : v1'.ownBlock = some b) (hl : v1.ownBlock = some b ∨ b = w.heap.size + 1) : Apart v2 v1' := by
  intro k e e'
  rw [hv] at e'
  obtain rfl := Option.some.inj e'
  rcases hl with hl | hl
  · exact h1 _ e hl
  · have := hk _ e; omega
theorem AP.first {b : Nat} {o : Obj} (h : AP w B v1 v2 S D) (hg : (w.alloc o).grownBy w' v1.ownBlock) (hr : IRow w' B v1' S') (hv : v1'.ownBlock = some b) (hl : v1.ownBlock = some b ∨ b = w.heap.size + 1) : AP w' B v1' v2 S' D ∧ KP w w' v1 v2 v1' v2 :=
  ⟨⟨hr, apart_kept (World.ownsRow.alloc h.d o) hg (fun k hk e => h.ne k e hk), fun k e e' => apart_new (o := o) (fun k hk => (World.ownsRow.lt h.d k hk).2) (fun k a b => h.ne k b a) hv hl k e' e⟩,
   fun B vk Lk hk h1 h2 => ⟨apart_kept (World.ownsRow.alloc hk o) hg h1, apart_new (o := o) (fun k e => (World.ownsRow.lt hk k e).2) h1 hv hl, h2⟩⟩
theorem AP.second {b : Nat} {o : Obj} (h : AP w B v1 v2 S D) (hg : (w.alloc o).grownBy w' v2.ownBlock) (hr : IRow w' B v2' D') (hv : v2'.ownBlock = some b) (hl : v2.ownBlock = some b ∨ b = w.heap.size + 1) : AP w' B v1 v2' S D' ∧ KP w w' v1 v2 v1 v2' :=
  ⟨⟨apart_kept (World.ownsRow.alloc h.s o) hg h.ne, hr, apart_new (o := o) (fun k hk => (World.ownsRow.lt h.s k hk).2) h.ne hv hl⟩,
   fun B vk Lk hk h1 h2 => ⟨apart_kept (World.ownsRow.alloc hk o) hg h2, h1, apart_new (o := o) (fun k e => (World.ownsRow.lt hk k e).2) h2 hv hl⟩⟩
end
namespace Tr
def fo (L : List Sp) (f d : Nat) (T : List Nat) (R : List (Nat × Nat)) : List (Nat × Nat) := T.foldl (fun s k => dfs (kids L) f k (d + 1) s) R
theorem fo_out {L : List Sp} {f d : Nat} : ∀ {T : List Nat} {R : List (Nat × Nat)}, (∀ k ∈ T, k < L.length) → Out L.length R → Out L.length (fo L f d T R) ∧ R.length ≤ (fo L f d T R).length
  | [], R, _, ho => ⟨ho, Nat.le_refl _⟩
  | k :: T, R, hT, ho => by
    have h1 := dfs_out (fit L) f k (d + 1) R ho (hT k (by simp))
    have h2 := fo_out (f := f) (d := d) (T := T) (fun k' hk' => hT k' (List.mem_cons_of_mem k hk')) h1.1
    exact ⟨h2.1, Nat.le_trans h1.2 h2.2⟩
theorem fo_next {L : List Sp} {f d i : Nat} {T : List Nat} {R : List (Nat × Nat)} (h : i < T.length) : fo L f d (T.take (i + 1)) R = dfs (kids L) f T[i] (d + 1) (fo L f d (T.take i) R) := by
  unfold fo
  rw [List.take_succ_eq_append_getElem h, List.foldl_append]
  rfl
end Tr

set_option maxHeartbeats 4000000 in
set_option maxRecDepth 100000 in
theorem refWalk_fuel (A : Option Addr) (cap : Nat) (L : List Sp) (w0 : World) (HS0 : Stow (SpR w0 A cap L)) (hn : L.length ≤ 1000000) : ∀ (f n d : Nat) (R : List (Nat × Nat)) (v1 v2 : Value) (w : World), Below w0.heap.size w0 w → AP w w0.heap.size v1 v2 (R.map Prod.fst) (R.map Prod.snd) → Tr.Out L.length R → n < L.length → d ≤ R.length → L.length < f + R.length →
    Calls Tryz.prog 138 #[.slice A L.length cap, .int .i64 (n : Int), .int .i64 (d : Int), v1, v2] w fun e w' => ∃ v1' v2', e = .returned (.tuple #[v1', v2']) ∧ AP w' w0.heap.size v1' v2' ((Tr.dfs (Tr.kids L) f n d R).map Prod.fst) ((Tr.dfs (Tr.kids L) f n d R).map Prod.snd) ∧ Below w0.heap.size w w' ∧ KP w w' v1 v2 v1' v2'
  | 0, n, d, R, v1, v2, w, _, _, ho, _, _, hf => absurd hf (by have := ho.len; omega)
  | f + 1, n, d, R, v1, v2, w, hbw, hap, ho, hl, hd, hf => by
    have HIH := Stow.mk (refWalk_fuel A cap L w0 HS0 hn f)
    have HBW := Stow.mk hbw
    have hRl := ho.len
    obtain ⟨S, hS⟩ : ∃ S, R.map Prod.fst = S := ⟨_, rfl⟩
    obtain ⟨D, hD⟩ : ∃ D, R.map Prod.snd = D := ⟨_, rfl⟩
    have hSl : S.length = R.length := by rw [← hS, List.length_map]
    have hDl : D.length = R.length := by rw [← hD, List.length_map]
    rw [hS, hD] at hap
    obtain ⟨A1, c1, rfl⟩ := own_form hap.s
    obtain ⟨A2, c2, rfl⟩ := own_form hap.d
    have HAP := Stow.mk hap
    have KI := in_any S n A1 c1 w (IRow.ir hap.s)
    have HSD := Stow.mk (And.intro hS hD)
    have HSl := Stow.mk (And.intro hSl hDl)
    by_cases hin : n ∈ S
    · have hdf : Tr.dfs (Tr.kids L) (f + 1) n d R = R := by unfold Tr.dfs; rw [if_pos (hS ▸ hin)]
      rw [hdf, hS, hD]
      rw [decide_eq_true hin] at KI
      have HKI := Stow.mk KI
      clear KI hS hD hSl hDl hap hbw hdf ho hin HIH
      go_enter Tryz.func138, Tryz.ntmps138
      go_wp2_with fail
      refine HKI.out.mono ?_
      rintro e w ⟨rfl, rfl⟩
      go_wp2_with fail
      go_ret2
      exact ⟨_, _, rfl, HAP.out, Below.refl _ _, KP.self _ _ _⟩
    · have HDF : Stow (Tr.dfs (Tr.kids L) (f + 1) n d R = Tr.fo L f d (Tr.kids L n) (R ++ [(n, d)])) := ⟨by unfold Tr.dfs; rw [if_neg (hS ▸ hin)]; rfl⟩
      have HO := Stow.mk (ho.push (d := d) hl (hS ▸ hin))
      rw [decide_eq_false hin] at KI
      have HKI := Stow.mk KI
      have HK := Stow.mk (Tr.fit L)
      have K8 : Stow ((S.length + 1) * 8 ≤ 140737488355328 ∧ (D.length + 1) * 8 ≤ 140737488355328 ∧ w0.heap.size ≤ w.heap.size) := ⟨by omega, by omega, hbw.size⟩
      have hd6 : d ≤ 1000000 := by omega
      clear KI hS hD hSl hDl hap hbw hin ho
      go_enter Tryz.func138, Tryz.ntmps138
      go_wp2_with fail
      refine HKI.out.mono ?_
      rintro e w ⟨rfl, rfl⟩
      go_wp2_with (first
        | (at_builtin; refine wpList_append_intL HAP.out.s n rfl (.tmp 19) (.tmp 21) 105 rfl Tryz.underlying105 rfl _ rfl rfl K8.out.1 K8.out.2.2 ?_; intro b1 c1' w1 h1 hg1 hb1 hat1; have HA1 := Stow.mk (AP.first HAP.out hg1 h1 rfl hat1); have HB1 := Stow.mk hb1; clear h1 hg1 hb1 hat1)
        | (at_builtin; refine wpList_append_intL HA1.out.1.d d rfl (.tmp 23) (.tmp 25) 105 rfl Tryz.underlying105 rfl _ rfl rfl K8.out.2.1 (Nat.le_trans K8.out.2.2 HB1.out.size) ?_; intro b2 c2' w2 h2 hg2 hb2 hat2; have HA2 := Stow.mk (AP.second HA1.out.1 hg2 h2 rfl hat2); have HB2 := Stow.mk (HB1.out.trans hb2); clear h2 hg2 hb2 hat2))
      have HSW : Stow (SpR w2 A cap L) := ⟨HS0.out.keep (HBW.out.trans HB2.out)⟩
      have KK := refKids_at A cap L (n : Int) w2 HSW.out hn
      rw [Tr.kidsI_yes] at KK
      obtain ⟨K, hK⟩ : ∃ K, Tr.kids L n = K := ⟨_, rfl⟩
      have HKL : Stow (∀ k ∈ K, k < L.length) := ⟨fun k hk => HK.out.lt n k (hK ▸ hk)⟩
      have HKN : Stow (K.length ≤ 1000000) := ⟨by have := HK.out.len n; rw [hK] at this; omega⟩
      have HDF2 : Stow (Tr.dfs (Tr.kids L) (f + 1) n d R = Tr.fo L f d K (R ++ [(n, d)])) := ⟨by rw [HDF.out, hK]⟩
      rw [hK] at KK
      refine KK.mono ?_
      rintro e w3 ⟨vk, rfl, hk, hb3⟩
      obtain ⟨Ak, ck, rfl⟩ := own_form hk
      have HR1 : Stow ((R ++ [(n, d)]).map Prod.fst = S ++ [n] ∧ (R ++ [(n, d)]).map Prod.snd = D ++ [d] ∧ (R ++ [(n, d)]).length = R.length + 1) := ⟨by rw [List.map_append, HSD.out.1]; rfl, by rw [List.map_append, HSD.out.2]; rfl, by simp⟩
      have HB3 := Stow.mk (HB2.out.trans (hb3.mono (Nat.le_trans K8.out.2.2 HB2.out.size)))
      have HK3 := Stow.mk hk
      have HA3 := Stow.mk (HA2.out.1.keep hb3)
      have HP3 := Stow.mk (HA1.out.2.trans (HA2.out.2.trans (KP.of_below hb3 _ _)))
      have HN3 : Stow (Apart (.slice Ak K.length ck) (.slice (some ⟨b1, 0, none⟩) (S.length + 1) c1') ∧ Apart (.slice Ak K.length ck) (.slice (some ⟨b2, 0, none⟩) (D.length + 1) c2')) := ⟨fun k e e' => by have h1 := (World.ownsRow.lt hk k e).1; have h2 := (World.ownsRow.lt HA2.out.1.s k e').2; omega, fun k e e' => by have h1 := (World.ownsRow.lt hk k e).1; have h2 := (World.ownsRow.lt HA2.out.1.d k e').2; omega⟩
      obtain ⟨Ro, hRo⟩ : ∃ Ro, R ++ [(n, d)] = Ro := ⟨_, rfl⟩
      rw [hRo] at HO HR1 HDF2
      clear hk hb3 KK hK HK HDF HA1 HA2 HB1 HB2 HSW hRo HAP HKI HSD
      go_wp2_with fail
      go_loopw [3, 4, 13] (fun v3 v4 u wr => ∃ i : Nat, u = .int .i64 (i : Int) ∧ i ≤ K.length ∧ Stow (AP wr w0.heap.size v3 v4 ((Tr.fo L f d (K.take i) Ro).map Prod.fst) ((Tr.fo L f d (K.take i) Ro).map Prod.snd)) ∧ Stow (IRow wr w2.heap.size (.slice Ak K.length ck) K) ∧ Stow (Apart (.slice Ak K.length ck) v3 ∧ Apart (.slice Ak K.length ck) v4) ∧ Stow (Below w0.heap.size w wr ∧ KP w wr (.slice A1 S.length c1) (.slice A2 D.length c2) v3 v4)) (fun _ _ u _ => K.length - (intOf u).toNat)
      case atStart => exact ⟨0, rfl, by omega, ⟨by rw [List.take_zero]; show AP w3 _ _ _ (Ro.map Prod.fst) (Ro.map Prod.snd); rw [HR1.out.1, HR1.out.2.1]; exact HA3.out⟩, HK3, HN3, ⟨HB3.out, HP3.out⟩⟩
      case round =>
        obtain ⟨i, rfl, hi, HA, HKR, HN, HBP⟩ := hrel
        have HKl := HKN.out
        by_cases hlt : i < K.length
        · obtain ⟨g, rfl, hgl, _, q0⟩ := IRow.at_ HKR.out hlt
          obtain ⟨k, hk⟩ : ∃ k, K[i] = k := ⟨_, rfl⟩
          have hkL := HKL.out k (hk ▸ List.getElem_mem hlt)
          rw [hk] at q0
          have hfo := Tr.fo_out (f := f) (d := d) (T := K.take i) (fun k' hk' => HKL.out k' (List.mem_of_mem_take hk')) HO.out
          have hr3 := HR1.out.2.2
          have KW := HIH.out k (d + 1) _ _ _ wr (HBW.out.trans HBP.out.1) HA.out hfo.1 hkL (by omega) (by omega)
          rw [← hk, ← Tr.fo_next hlt, hk] at KW
          have HKW := Stow.mk KW
          have hii : (i : Int) < K.length := by omega
          clear KW hfo hk
          go_wp2_with fail
          refine HKW.out.mono ?_
          rintro e w5 ⟨v5, v6, rfl, ha5, hb5, hk5⟩
          have hkk := hk5 _ _ _ HKR.out HN.out.1 HN.out.2
          have HF : Stow _ := ⟨And.intro ha5 (And.intro hkk.1 (And.intro (And.intro hkk.2.1 hkk.2.2) (And.intro (HBP.out.1.trans hb5) (HBP.out.2.trans hk5))))⟩
          clear ha5 hb5 hk5 hkk
          go_wp2_with fail
          exact ⟨⟨i + 1, rfl, by omega, ⟨HF.out.1⟩, ⟨HF.out.2.1⟩, ⟨HF.out.2.2.1⟩, ⟨HF.out.2.2.2⟩⟩, by simp [intOf]; omega⟩
        · obtain rfl : i = K.length := by omega
          have hni : ¬ (K.length : Int) < K.length := by omega
          have HAE := Stow.mk HA.out
          rw [List.take_length] at HAE
          go_wp2_with fail
          go_ret2
          exact ⟨_, _, rfl, by rw [HDF2.out]; exact HAE.out, HBP.out.1, HBP.out.2⟩
end Go.Proofs.YtfbhdkkmcfnghaaGreat
end

section
namespace Go.Proofs.YtfbhdkkmcfnghaaGreat
open Go.RowKit
set_option linter.unusedVariables false

theorem IRow.win {w : World} {B : Nat} {A : Option Addr} {cap : Nat} {L : List Nat} (h : IRow w B (.slice A L.length cap) L) : (L = [] ∧ (A = none → cap = 0)) ∨ ∃ gg off, A = some ⟨gg, off, none⟩ ∧ ∀ j (h : j < L.length), w.cell? ⟨gg, off + j, none⟩ = some (.int .i64 (L[j] : Nat)) := by
  by_cases hz : L = []
  · refine .inl ⟨hz, fun hA => ?_⟩
    rcases h.2 with ⟨h1, h2⟩ | ⟨g2, cp, cur, hv, _⟩
    · simp only [Value.slice.injEq] at h1; exact h1.2.2
    · simp only [Value.slice.injEq] at hv; rw [hA] at hv; cases hv.1
  · right
    have hpos : 0 < L.length := List.length_pos_iff.2 hz
    obtain ⟨g0, hA, _⟩ := IRow.at_ h hpos
    refine ⟨g0, 0, hA, fun j hj => ?_⟩
    obtain ⟨g1, hA', _, _, hc⟩ := IRow.at_ h hj
    rw [hA] at hA'
    simp only [Option.some.injEq, Addr.mk.injEq] at hA'
    obtain ⟨rfl, _, _⟩ := hA'
    rw [Nat.zero_add, hc]

theorem refWalk_top (A : Option Addr) (cap : Nat) (L : List Sp) (n : Nat) (w : World) (hS : SpR w A cap L) (hn : L.length ≤ 1000000) (hl : n < L.length) :
    Calls Tryz.prog 138 #[.slice A L.length cap, .int .i64 (n : Int), .int .i64 0, .slice none 0 0, .slice none 0 0] w fun e w' => ∃ v1 v2, e = .returned (.tuple #[v1, v2]) ∧ IRow w' w.heap.size v1 ((Tr.walk L n).map Prod.fst) ∧ IRow w' w.heap.size v2 ((Tr.walk L n).map Prod.snd) ∧ Below w.heap.size w w' := by
  rw [Tr.walk_dfs hl (Nat.lt_succ_self _)]
  refine (refWalk_fuel A cap L w ⟨hS⟩ hn (L.length + 1) n 0 [] (.slice none 0 0) (.slice none 0 0) w (Below.self _) ⟨NRow.nil _ _ _ _, NRow.nil _ _ _ _, fun k h => by cases h⟩ ⟨by simp, by simp⟩ hl (Nat.le_refl _) (by simp)).mono ?_
  rintro e w' ⟨v1, v2, rfl, h1, h2, _⟩
  exact ⟨v1, v2, rfl, h1.s, h1.d, h2⟩

set_option maxHeartbeats 2000000 in
set_option maxRecDepth 100000 in
theorem refWalkW_at (A : Option Addr) (cap : Nat) (L : List Sp) (a : Int) (w : World) (hS : SpR w A cap L) (hn : L.length ≤ 1000000) :
    Calls Tryz.prog 146 #[.slice A L.length cap, .int .i64 a] w fun e w' => ∃ v, e = .returned v ∧ IRow w' w.heap.size v ((Tr.walkI L a).map Prod.fst) ∧ Below w.heap.size w w' := by
  have HM := Stow.mk (Below.self w)
  by_cases h1 : a < 0
  · have hw : Stow (Tr.walkI L a = []) := ⟨Tr.walkI_no (.inl h1)⟩
    have hd : decide (a < 0) = true := by simpa using h1
    clear hS
    go_enter Tryz.func146, Tryz.ntmps146
    go_wp2_with fail
    go_ret
    exact ⟨_, rfl, by rw [hw.out]; exact NRow.nil _ _ _ _, HM.out⟩
  · have hd : decide (a < 0) = false := by simpa using h1
    by_cases h2 : (L.length : Int) ≤ a
    · have hw : Stow (Tr.walkI L a = []) := ⟨Tr.walkI_no (.inr h2)⟩
      have hd2 : decide ((L.length : Int) ≤ a) = true := by simpa using h2
      clear hS
      go_enter Tryz.func146, Tryz.ntmps146
      go_wp2_with fail
      go_ret
      exact ⟨_, rfl, by rw [hw.out]; exact NRow.nil _ _ _ _, HM.out⟩
    · obtain ⟨n, rfl⟩ : ∃ n : Nat, a = n := ⟨a.toNat, by omega⟩
      have hd2 : decide (L.length ≤ n) = false := by simp; omega
      have HK := Stow.mk (refWalk_top A cap L n w hS hn (by omega))
      rw [Tr.walkI_yes]
      clear hS
      go_enter Tryz.func146, Tryz.ntmps146
      go_wp2_with fail
      refine HK.out.mono ?_
      rintro e w' ⟨v1, v2, rfl, hr1, hr2, hb⟩
      have HR := Stow.mk (And.intro hr1 hb)
      clear hr1 hr2 hb
      go_wp2_with fail
      go_ret
      exact ⟨_, rfl, HR.out.1, HR.out.2⟩
theorem refWalkW_any (A : Option Addr) (cap : Nat) (L : List Sp) (n : Nat) (w : World) (hS : SpR w A cap L) (hn : L.length ≤ 1000000) :
    Calls Tryz.prog 146 #[.slice A L.length cap, .int .i64 (n : Int)] w fun e w' => ∃ v, e = .returned v ∧ IRow w' w.heap.size v ((Tr.walk L n).map Prod.fst) ∧ Below w.heap.size w w' := by
  have := refWalkW_at A cap L n w hS hn
  rwa [Tr.walkI_yes] at this

theorem Tr.met_len {L : List Sp} : ∀ T : List Nat, (Tr.met L T).length ≤ T.length * L.length
  | [] => by simp [Tr.met]
  | t :: T => by
    have h := Tr.met_len (L := L) T
    have h2 := Tr.walk_len L t
    unfold Tr.met at h ⊢
    rw [List.flatMap_cons, List.length_append, List.length_map, List.length_cons, Nat.succ_mul]
    omega

set_option maxHeartbeats 4000000 in
set_option maxRecDepth 100000 in
theorem refLost_any (A : Option Addr) (cap : Nat) (L : List Sp) (w : World) (hS : SpR w A cap L) (hn : L.length ≤ 1000) :
    Calls Tryz.prog 112 #[.slice A L.length cap] w fun e w' => ∃ v, e = .returned v ∧ IRow w' w.heap.size v (Tr.lost L) ∧ Below w.heap.size w w' := by
  have HS := Stow.mk hS
  have hn6 : L.length ≤ 1000000 := by omega
  have HLE : Stow (Tr.lost L = Tr.no (Tr.met L (Tr.tops L)) L.length) := ⟨rfl⟩
  have HTD : Stow (Tr.tops L = Tr.roots L ++ Tr.orphans L) := ⟨rfl⟩
  obtain ⟨R1, hR1⟩ : ∃ R, Tr.roots L = R := ⟨_, rfl⟩
  obtain ⟨R2, hR2⟩ : ∃ R, Tr.orphans L = R := ⟨_, rfl⟩
  have hl1 : R1.length ≤ L.length := by rw [← hR1]; exact Tr.places_len _ _
  have hl2 : R2.length ≤ L.length := by rw [← hR2]; exact Tr.places_len _ _
  have K1 := refRoots_any A cap L w hS hn6
  rw [hR1] at K1 HTD
  rw [hR2] at HTD
  have HK1 := Stow.mk K1
  have HK2 : Stow (∀ W, SpR W A cap L → Calls Tryz.prog 71 #[.slice A L.length cap] W fun e w' => ∃ v, e = .returned v ∧ IRow w' W.heap.size v R2 ∧ Below W.heap.size W w') := ⟨fun W h => by have := refOrphans_any A cap L W h hn6; rwa [hR2] at this⟩
  clear hS K1 hR1 hR2
  go_enter Tryz.func112, Tryz.ntmps112
  go_wp2_with fail
  refine HK1.out.mono ?_
  rintro e w1 ⟨va, rfl, hra, hba⟩
  obtain ⟨Aa, ca, rfl⟩ := own_form hra
  have HRA := Stow.mk hra
  have HBA := Stow.mk hba
  clear hra hba
  go_wp2_with fail
  refine (HK2.out _ (HS.out.keep HBA.out)).mono ?_
  rintro e w2 ⟨vb, rfl, hrb, hbb⟩
  obtain ⟨Ab, cb, rfl⟩ := own_form hrb
  have HRA2 := Stow.mk (IRow.keep HRA.out hbb)
  have HWB := Stow.mk (IRow.win hrb)
  have HBB := Stow.mk (HBA.out.trans (hbb.mono HBA.out.size))
  have K8 : Stow ((R1.length + R2.length) * 8 ≤ 140737488355328) := ⟨by omega⟩
  clear hrb hbb HRA HBA
  obtain ⟨T, hTe⟩ : ∃ T, R1 ++ R2 = T := ⟨_, rfl⟩
  have hTl : T.length ≤ 2000 := by rw [← hTe, List.length_append]; omega
  rw [hTe] at HTD
  rw [HTD.out] at HLE
  have HTE := Stow.mk hTe
  clear hTe
  go_wp2_with (at_builtin; refine wpList_append_win HRA2.out R2 Ab R2.length cb rfl HWB.out rfl (.tmp 10) (.tmp 12) rfl rfl rfl K8.out HBB.out.size ?_; intro At ct w3 h3 _ hb3; rw [HTE.out] at h3 ⊢; have HT := Stow.mk (And.intro h3 (HBB.out.trans hb3)); clear h3 hb3)
  clear HRA2 HWB HBB K8 HTE HTD HK1 HK2 hl1 hl2
  go_loopw [3, 5] (fun v u wr => ∃ i : Nat, u = .int .i64 (i : Int) ∧ i ≤ T.length ∧ Stow (IRow wr w3.heap.size v (Tr.met L (T.take i))) ∧ Stow (Below w3.heap.size w3 wr)) (fun _ u _ => T.length - (intOf u).toNat)
  case atStart => exact ⟨0, rfl, by omega, ⟨NRow.nil _ _ _ _⟩, ⟨Below.self _⟩⟩
  case round =>
    obtain ⟨i, rfl, hi, HM, HBR⟩ := hrel
    obtain ⟨M, hM⟩ : ∃ M, Tr.met L (T.take i) = M := ⟨_, rfl⟩
    have hMl : M.length ≤ 2000000 := by
      have h1 : (T.take i).length ≤ 2000 := by rw [List.length_take]; omega
      have h2 := Nat.mul_le_mul h1 hn
      have h3 := Tr.met_len (L := L) (T.take i)
      rw [hM] at h3
      omega
    have HMT : Stow (∀ h : i < T.length, Tr.met L (T.take (i + 1)) = M ++ (Tr.walk L T[i]).map Prod.fst) := ⟨fun h => by rw [← hM]; unfold Tr.met; rw [List.take_succ_eq_append_getElem h, List.flatMap_append]; simp⟩
    have HMA : Stow (i = T.length → M = Tr.met L T) := ⟨fun h => by rw [← hM, h, List.take_length]⟩
    rw [hM] at HM
    clear hM
    obtain ⟨Am, cm, rfl⟩ := own_form HM.out
    by_cases hlt : i < T.length
    · obtain ⟨g, rfl, _, _, q0⟩ := IRow.at_ (IRow.keep HT.out.1 HBR.out) hlt
      obtain ⟨k, hk⟩ : ∃ k, T[i] = k := ⟨_, rfl⟩
      have HMT2 := Stow.mk (HMT.out hlt)
      rw [hk] at q0 HMT2
      have KW := refWalkW_any A cap L k wr (HS.out.keep (HT.out.2.trans (HBR.out.mono HT.out.2.size))) hn6
      have hWl : ((Tr.walk L k).map Prod.fst).length ≤ 1000 := by rw [List.length_map]; exact Nat.le_trans (Tr.walk_len L k) hn
      obtain ⟨Wk, hW⟩ : ∃ W, (Tr.walk L k).map Prod.fst = W := ⟨_, rfl⟩
      rw [hW] at KW hWl HMT2
      have HKW := Stow.mk KW
      have hii : (i : Int) < T.length := by omega
      have K8 : Stow ((M.length + Wk.length) * 8 ≤ 140737488355328) := ⟨by omega⟩
      clear KW hW hk HMT HMA
      go_wp2_with fail
      refine HKW.out.mono ?_
      rintro e w5 ⟨v5, rfl, hr5, hb5⟩
      obtain ⟨A5, c5, rfl⟩ := own_form hr5
      have HW5 := Stow.mk (IRow.win hr5)
      have HM5 := Stow.mk (IRow.keep HM.out hb5)
      have HB5 := Stow.mk (HBR.out.trans (hb5.mono HBR.out.size))
      clear hr5 hb5
      go_wp2_with (at_builtin; refine wpList_append_win HM5.out Wk A5 Wk.length c5 rfl HW5.out rfl (.tmp 20) (.tmp 26) rfl rfl rfl K8.out HB5.out.size ?_; intro A6 c6 w6 h6 _ hb6; have HF := Stow.mk (And.intro h6 (HB5.out.trans hb6)); clear h6 hb6)
      exact ⟨⟨i + 1, rfl, by omega, ⟨by rw [HMT2.out]; have h := HF.out.1; simp only [List.length_append] at h; exact h⟩, ⟨HF.out.2⟩⟩, by simp [intOf]; omega⟩
    · obtain rfl : i = T.length := by omega
      have HLM : Stow (Tr.lost L = Tr.no M L.length) := ⟨by rw [HLE.out, HMA.out rfl]⟩
      have hni : ¬ (T.length : Int) < T.length := by omega
      have hwl : w3.heap.size ≤ wr.heap.size := HBR.out.size
      obtain ⟨H, hH⟩ : ∃ H, wr.heap.size = H := ⟨_, rfl⟩
      have HMK : Stow (∀ W, Below H wr W → IR W Am cm M) := ⟨fun W h => IRow.ir (IRow.keep HM.out (hH ▸ h))⟩
      have HBF : Stow (∀ W, Below H wr W → Below w.heap.size w W ∧ w.heap.size ≤ H) := ⟨fun W h => ⟨(HT.out.2.trans (HBR.out.mono HT.out.2.size)).trans (h.mono (by have := HT.out.2.size; omega)), by have := HT.out.2.size; omega⟩⟩
      have HBS : Stow (Below H wr wr ∧ H ≤ wr.heap.size) := ⟨Below.refl _ _, by omega⟩
      clear HMT HMA HBR HM hH hwl
      go_wp2_with fail
      go_loopw [6, 7] (fun v u wz => ∃ j : Nat, u = .int .i64 (j : Int) ∧ j ≤ L.length ∧ Stow (IRow wz H v (Tr.no M j)) ∧ Stow (Below H wr wz)) (fun _ u _ => L.length - (intOf u).toNat)
      case atStart => exact ⟨0, rfl, by omega, ⟨NRow.nil _ _ _ _⟩, ⟨HBS.out.1⟩⟩
      case round =>
        obtain ⟨j, rfl, hj, HR, HBZ⟩ := hrel
        obtain ⟨O, hO⟩ : ∃ O, Tr.no M j = O := ⟨_, rfl⟩
        have hOl : O.length ≤ j := by rw [← hO]; exact Tr.no_len M j
        have HO := Stow.mk hO
        rw [hO] at HR
        clear hO
        obtain ⟨Ao, co, rfl⟩ := own_form HR.out
        have KI := in_any M j Am cm _ (HMK.out _ HBZ.out)
        by_cases hlt : j < L.length
        · by_cases hin : j ∈ M
          · have HN := Stow.mk (Tr.no_yes hin)
            rw [decide_eq_true hin] at KI
            clear hin
            have HKI := Stow.mk KI
            clear KI
            go_wp2_with fail
            refine HKI.out.mono ?_
            rintro e wz ⟨rfl, rfl⟩
            go_wp2_with fail
            exact ⟨⟨j + 1, rfl, by omega, ⟨by rw [HN.out, HO.out]; exact HR.out⟩, HBZ⟩, by simp [intOf]; omega⟩
          · have HN := Stow.mk (Tr.no_no hin)
            rw [decide_eq_false hin] at KI
            clear hin
            have HKI := Stow.mk KI
            have K8 : Stow ((O.length + 1) * 8 ≤ 140737488355328) := ⟨by omega⟩
            have HSZ : Stow _ := ⟨Nat.le_trans HBS.out.2 HBZ.out.size⟩
            clear KI
            go_wp2_with fail
            refine HKI.out.mono ?_
            rintro e wz ⟨rfl, rfl⟩
            go_wp2_with (at_builtin; refine wpList_append_int HR.out j rfl (.tmp 38) (.tmp 40) 105 rfl Tryz.underlying105 info_int rfl _ rfl rfl K8.out HSZ.out ?_; intro A8 c8 w8 h8 _ hb8 _; have HF := Stow.mk (And.intro h8 (HBZ.out.trans hb8)); clear h8 hb8)
            exact ⟨⟨j + 1, rfl, by omega, ⟨by rw [HN.out, HO.out]; exact HF.out.1⟩, ⟨HF.out.2⟩⟩, by simp [intOf]; omega⟩
        · obtain rfl : j = L.length := by omega
          have hni2 : ¬ (L.length : Int) < L.length := by omega
          go_wp2_with fail
          go_ret
          exact ⟨_, rfl, by rw [HLM.out, HO.out]; exact IRow.lower HR.out (HBF.out _ HBZ.out).2, (HBF.out _ HBZ.out).1⟩
end Go.Proofs.YtfbhdkkmcfnghaaGreat
end

section
namespace Go.Proofs.YtfbhdkkmcfnghaaGreat
open Go.RowKit
set_option linter.unusedVariables false

set_option maxHeartbeats 4000000 in
set_option maxRecDepth 100000 in
theorem refNodes_yes (A : Option Addr) (cap : Nat) (L : List Sp) (n : Nat) (w : World) (hS : SpR w A cap L) (hn : L.length ≤ 1000000) (hl : n < L.length) :
    Calls Tryz.prog 105 #[.slice A L.length cap, .int .i64 (n : Int)] w fun e w' => ∃ v, e = .returned v ∧ DRow L w' w.heap.size v (Tr.walk L n) ∧ Below w.heap.size w w' := by
  have HK := Stow.mk (refWalk_top A cap L n w hS hn hl)
  have HS := Stow.mk hS
  have hlt0 := (Tr.walk_out L n).lt
  have hd : decide ((n : Int) < 0) = false := by simp
  have hd2 : decide (L.length ≤ n) = false := by simp; omega
  obtain ⟨R, hR⟩ : ∃ R, Tr.walk L n = R := ⟨_, rfl⟩
  have HRL : Stow (R.length ≤ L.length) := ⟨by rw [← hR]; exact Tr.walk_len L n⟩
  rw [hR] at HK hlt0 ⊢
  have HLT := Stow.mk hlt0
  clear hS hR hlt0
  go_enter Tryz.func105, Tryz.ntmps105
  go_wp2_with fail
  refine HK.out.mono ?_
  rintro e w1 ⟨v1, v2, rfl, hr1, hr2, hb⟩
  obtain ⟨A1, c1, rfl⟩ := own_form hr1
  obtain ⟨A2, c2, rfl⟩ := own_form hr2
  simp only [List.length_map] at hr1 hr2 ⊢
  have HR1 := Stow.mk hr1
  have HR2 := Stow.mk hr2
  have HB := Stow.mk hb
  clear hr1 hr2 hb
  go_wp2_with fail
  go_loopw [7, 8] (fun v u wr => ∃ i : Nat, u = .int .i64 (i : Int) ∧ i ≤ R.length ∧ Stow (DRow L wr w1.heap.size v (R.take i)) ∧ Below w1.heap.size w1 wr) (fun _ u _ => R.length - (intOf u).toNat)
  case atStart => exact ⟨0, rfl, by omega, ⟨World.ownsRow_nil _ _ _ _⟩, Below.self _⟩
  case round =>
    obtain ⟨i, rfl, hi, HO, hbr⟩ := hrel
    have HBR := Stow.mk hbr
    clear hbr
    have hlq : (R.take i).length = i := by rw [List.length_take]; omega
    have hO := HO.out
    unfold DRow at hO
    rw [hlq] at hO
    obtain ⟨Ao, co, rfl⟩ := own_form hO
    have HOO := Stow.mk hO
    clear hO hlq
    by_cases hlt : i < R.length
    · obtain ⟨g1, rfl, hgl1, _, q0⟩ := IRow.at_ (own_kept HR1.out HBR.out) (i := i) (by simpa using hlt)
      obtain ⟨g2, rfl, hgl2, _, q1⟩ := IRow.at_ (own_kept HR2.out HBR.out) (i := i) (by simpa using hlt)
      rw [List.getElem_map] at q0 q1
      obtain ⟨x, hx⟩ : ∃ x, R[i] = x := ⟨_, rfl⟩
      have hxN : x.1 < L.length := HLT.out x.1 (List.mem_map_of_mem (hx ▸ List.getElem_mem hlt))
      rw [hx] at q0 q1
      have HTK : Stow ((R.take (i + 1)).flatMap (ndc L) = (R.take i).flatMap (ndc L) ++ ndc L x ∧ (R.take (i + 1)).length = i + 1) := ⟨by rw [List.take_succ_eq_append_getElem hlt, hx, List.flatMap_append]; simp, by rw [List.length_take]; omega⟩
      obtain ⟨a, d⟩ := x
      simp only at q0 q1 hxN
      have hSr := HS.out.keep (HB.out.trans (HBR.out.mono HB.out.size))
      obtain ⟨b, off, rfl, _, _⟩ := hSr.open (by simp; omega)
      have hsp := span_at hSr hxN
      obtain ⟨s, hs⟩ : ∃ s, L[a] = s := ⟨_, rfl⟩
      have HND : Stow (ndc L (a, d) = [.int .i64 (d : Nat), .string (bs s.name), .int .i64 s.st, .bool s.sh]) := ⟨by unfold ndc; simp only; rw [Tr.sp_get hxN, hs]⟩
      rw [hs] at hsp
      obtain ⟨hltb, p0, p1, p2, p3, p4, p5, p6, p7, p8, p9, p10⟩ := hsp
      have hii : (i : Int) < R.length := by omega
      have hai : (a : Int) < L.length := by omega
      have hrl := HRL.out
      have hbA := Below.alloc' (Below.self wr) (.cells s.cells.toArray 64)
      have HOA := Stow.mk (own_kept HOO.out hbA)
      have HBA : Stow (Below w1.heap.size w1 (wr.alloc (.cells s.cells.toArray 64))) := ⟨HBR.out.trans (hbA.mono HBR.out.size)⟩
      have K8 : Stow ((i + 1) * 40 ≤ 140737488355328 ∧ i + 1 ≤ maxLen) := ⟨by omega, by unfold maxLen; omega⟩
      have q1a : (wr.alloc (.cells s.cells.toArray 64)).cell? ⟨g2, i, none⟩ = some (.int .i64 (d : Nat)) := (hbA.cell (p := ⟨g2, i, none⟩) hgl2).trans q1
      have hH := Held.made wr s.cells 64
      have z4 := hH.cell (i := 4) rfl
      have z5 := hH.cell (i := 5) rfl
      have z8 := hH.cell (i := 8) rfl
      have hwz := HBR.out.size
      obtain ⟨i0, hi0, hz, hsz, hby⟩ := info_parts info_node
      have HI0 := Stow.mk (And.intro hi0 (And.intro hz (And.intro hsz hby)))
      have HO2 : Stow (((wr.alloc (.cells s.cells.toArray 64)).alloc (.cells #[.int .i64 (d : Nat), .string (bs s.name), .int .i64 s.st, .bool s.sh] 67)).drew.ownsRow w1.heap.size 67 4 (.slice Ao i co) i ((R.take i).flatMap (ndc L))) := ⟨World.ownsRow.drew (World.ownsRow.alloc HOA.out _)⟩
      have HXX : Stow (∀ j u, ([.int .i64 (d : Nat), .string (bs s.name), .int .i64 s.st, .bool s.sh] : List Value)[j]? = some u → ((wr.alloc (.cells s.cells.toArray 64)).alloc (.cells #[.int .i64 (d : Nat), .string (bs s.name), .int .i64 s.st, .bool s.sh] 67)).drew.cell? ((⟨wr.heap.size + 1, 0, none⟩ : Addr).add j) = some u) := ⟨by
        have h := World.news_of_block (cs := #[.int .i64 (d : Nat), .string (bs s.name), .int .i64 s.st, .bool s.sh]) (heap_alloc_new (wr.alloc (.cells s.cells.toArray 64)) (.cells #[.int .i64 (d : Nat), .string (bs s.name), .int .i64 s.st, .bool s.sh] 67))
        intro j u hj
        have h2 := h j u hj
        simpa using h2⟩
      have HX1 : Stow (∀ u ∈ ([.int .i64 (d : Nat), .string (bs s.name), .int .i64 s.st, .bool s.sh] : List Value), u.oneCell' = true) := ⟨by rw [← HND.out]; exact ndc_one L (a, d)⟩
      have HN1 : Stow (i + 1 ≤ maxLen ∧ (i + 1) * 40 ≤ 140737488355328 ∧ w1.heap.size ≤ ((wr.alloc (.cells s.cells.toArray 64)).alloc (.cells #[.int .i64 (d : Nat), .string (bs s.name), .int .i64 s.st, .bool s.sh] 67)).drew.heap.size) := ⟨K8.out.2, K8.out.1, by simp; omega⟩
      have HBG : Stow (Below w1.heap.size w1 ((wr.alloc (.cells s.cells.toArray 64)).alloc (.cells #[.int .i64 (d : Nat), .string (bs s.name), .int .i64 s.st, .bool s.sh] 67)).drew) := ⟨(HBA.out.alloc HBA.out.size _).drew⟩
      clear hx hs hSr hbA hi0 hz hsz hby hH
      go_wp2_with fail
      go_region_law (refine step_append_lies _ rfl (.tmp 37) (.tmp 49) 58 rfl w1.heap.size 67 i0 _ 4 40 Tryz.underlying58 HI0.out.1 HI0.out.2.1 HI0.out.2.2.1 HI0.out.2.2.2 rfl (by decide) _ i _ rfl HO2.out ⟨wr.heap.size + 1, 0, none⟩ 1 1 [.int .i64 (d : Nat), .string (bs s.name), .int .i64 s.st, .bool s.sh] rfl rfl HXX.out HX1.out (by decide) HN1.out.1 HN1.out.2.1 HN1.out.2.2 _ rfl ?_; intro g' cap' w' hown hgrow hat hlt'; have HOW := Stow.mk hown; have HGR := Stow.mk hgrow; clear hown hgrow hat)
      all_goals go_wp2_with fail
      all_goals exact ⟨⟨i + 1, rfl, by omega, ⟨by unfold DRow; rw [HTK.out.1, HTK.out.2, HND.out]; exact HOW.out⟩, HBG.out.grown HGR.out HN1.out.2.2 (fun k hk => (World.ownsRow.lt HO2.out k hk).1)⟩, by simp [intOf]; omega⟩
    · obtain rfl : i = R.length := by omega
      have hni : ¬ (R.length : Int) < R.length := by omega
      go_wp2_with fail
      go_ret
      refine ⟨_, rfl, ?_, HB.out.trans (HBR.out.mono HB.out.size)⟩
      have := HO.out
      rw [List.take_length] at this
      exact own_lower this HB.out.size
end Go.Proofs.YtfbhdkkmcfnghaaGreat
end
