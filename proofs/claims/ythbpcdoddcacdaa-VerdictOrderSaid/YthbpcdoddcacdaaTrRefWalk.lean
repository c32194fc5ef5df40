/- Walk of the reference's recursive walk. Condition: a slice's own. -/
import Derived.Test.YthbpcdoddcacdaaTrRefKids
import Derived.Test.YthbpcdoddcacdaaTrState
import Derived.Deep.AppendLies
namespace Go.Proofs.Ythbpcdoddcacdaa
open Go.RowKit
set_option linter.unusedVariables false

theorem wpList_append_intL {ops : Array Oper} {rest : List Oper} {o : Oper} {a : Act} {Q : Exit → Act → World → Prop}
    {wr : World} {eo : TypeId} {B : Nat} {v : Value} {L : List Nat} (hown : IRow wr B v L) (n : Nat)
    (hgd : o.guard = none) (s y : Operand) (t : TypeId)
    (ho : o.op = Op.call { callee := Callee.builtin Builtin.append, args := #[s, y], argTypes := #[t, t] })
    (ht : (Try.prog).underlying t = some (.slice 3))
    (hs : a.eval s = v) (g : Nat) (hy : a.eval y = .slice (some ⟨g, 0, none⟩) 1 1) (hgs : g = wr.heap.size)
    (hbytes : (L.length + 1) * 8 ≤ 140737488355328) (hB : B ≤ wr.heap.size)
    (h : ∀ b cap w', IRow w' B (.slice (some ⟨b, 0, none⟩) (L.length + 1) cap) (L ++ [n]) → (wr.alloc (.cells #[.int .i64 (n : Int)] eo)).grownBy w' v.ownBlock → Below B wr w' → (v.ownBlock = some b ∨ b = wr.heap.size + 1) →
      wpList Try.prog ops Q rest (a.put o.dst (.slice (some ⟨b, 0, none⟩) (L.length + 1) cap)) w') :
    wpList Try.prog ops Q (o :: rest) a (wr.alloc (.cells #[.int .i64 (n : Int)] eo)) := by
  subst hgs
  obtain ⟨i, hi, hz, hsz, hby⟩ := info_parts info_int
  have hl : (L.map fun m : Nat => Value.int .i64 (m : Int)).length = L.length := by simp
  refine wpList_append_lies _ hgd s y t ho B 3 i (.int .i64 0) 1 8 ht hi hz hsz hby rfl (by decide) v L.length _ hs (World.ownsRow.alloc hown _) ⟨wr.heap.size, 0, none⟩ 1 1 [.int .i64 (n : Int)] hy rfl ?_ ?_ (by decide) (by unfold maxLen; omega) hbytes (by simp; omega) (wr.heap.size + 1) (by simp) ?_
  · intro j u hj
    match j, hj with
    | 0, hj => simp at hj; subst hj; simp [Addr.add]
  · intro u hu; simp at hu; subst hu; rfl
  · intro b cap w' h1 h2 h3 h4
    have hb : Below B wr (wr.alloc (.cells #[.int .i64 (n : Int)] eo)) := (Below.refl _ _).alloc hB _
    refine h b cap w' ?_ h2 (hb.grown h2 (by simp; omega) fun k hk => (World.ownsRow.lt hown k hk).1) h3
    show w'.ownsRow _ _ _ _ (L ++ [n]).length _
    rw [List.length_append]
    simpa using h1

def Apart (a b : Value) : Prop := ∀ k, a.ownBlock = some k → b.ownBlock ≠ some k
/-- Two rows of the call's own. -/
structure AP (w : World) (B : Nat) (v1 v2 : Value) (S D : List Nat) : Prop where
  s : IRow w B v1 S
  d : IRow w B v2 D
  ne : Apart v1 v2
/-- What stands apart from two rows is kept. -/
def KP (w w' : World) (v1 v2 v1' v2' : Value) : Prop := ∀ B vk Lk, IRow w B vk Lk → Apart vk v1 → Apart vk v2 → IRow w' B vk Lk ∧ Apart vk v1' ∧ Apart vk v2'
section
variable {w w' w'' : World} {B : Nat} {v1 v2 v1' v2' v1'' v2'' : Value} {S D S' D' : List Nat}
theorem KP.trans (h : KP w w' v1 v2 v1' v2') (h' : KP w' w'' v1' v2' v1'' v2'') : KP w w'' v1 v2 v1'' v2'' := fun B vk Lk hk h1 h2 => have ⟨a, b, c⟩ := h B vk Lk hk h1 h2; h' B vk Lk a b c
theorem KP.self (w : World) (v1 v2 : Value) : KP w w v1 v2 v1 v2 := fun B vk Lk hk h1 h2 => ⟨hk, h1, h2⟩
theorem KP.of_below (hb : Below w.heap.size w w') (v1 v2 : Value) : KP w w' v1 v2 v1 v2 := fun B vk Lk hk h1 h2 => ⟨own_kept hk hb, h1, h2⟩
theorem AP.keep (h : AP w B v1 v2 S D) (hb : Below w.heap.size w w') : AP w' B v1 v2 S D := ⟨own_kept h.s hb, own_kept h.d hb, h.ne⟩
theorem apart_new {b : Nat} {o : Obj} (hk : ∀ k, v2.ownBlock = some k → k < w.heap.size) (h1 : Apart v2 v1) (hv : v1'.ownBlock = some b) (hl : v1.ownBlock = some b ∨ b = w.heap.size + 1) : Apart v2 v1' := by
  intro k e e'
  rw [hv] at e'
  obtain rfl := Option.some.inj e'
  rcases hl with hl | hl
  · exact h1 _ e hl
  · have := hk _ e; omega
theorem AP.first {b : Nat} {o : Obj} (h : AP w B v1 v2 S D) (hg : (w.alloc o).grownBy w' v1.ownBlock) (hr : IRow w' B v1' S') (hv : v1'.ownBlock = some b) (hl : v1.ownBlock = some b ∨ b = w.heap.size + 1) : AP w' B v1' v2 S' D ∧ KP w w' v1 v2 v1' v2 :=
  ⟨⟨hr, apart_kept (World.ownsRow.alloc h.d o) hg (fun k hk e => h.ne k e hk), fun k e e' => apart_new (o := o) (fun k hk => (World.ownsRow.lt h.d k hk).2) (fun k a b => h.ne k b a) hv hl k e' e⟩,
   fun B vk Lk hk h1 h2 => ⟨apart_kept (World.ownsRow.alloc hk o) hg h1, apart_new (o := o) (fun k e => (World.ownsRow.lt hk k e).2) h1 hv hl, h2⟩⟩
theorem AP.second {b : Nat} {o : Obj} (h : AP w B v1 v2 S D) (hg : (w.alloc o).grownBy w' v2.ownBlock) (hr : IRow w' B v2' D') (hv : v2'.ownBlock = some b) (hl : v2.ownBlock = some b ∨ b = w.heap.size + 1) : AP w' B v1 v2' S D' ∧ KP w w' v1 v2 v1 v2' :=
  ⟨⟨apart_kept (World.ownsRow.alloc h.s o) hg h.ne, hr, apart_new (o := o) (fun k hk => (World.ownsRow.lt h.s k hk).2) h.ne hv hl⟩,
   fun B vk Lk hk h1 h2 => ⟨apart_kept (World.ownsRow.alloc hk o) hg h2, h1, apart_new (o := o) (fun k e => (World.ownsRow.lt hk k e).2) h2 hv hl⟩⟩
end
namespace Tr
def fo (L : List Sp) (f d : Nat) (T : List Nat) (R : List (Nat × Nat)) : List (Nat × Nat) := T.foldl (fun s k => dfs (kids L) f k (d + 1) s) R
theorem fo_out {L : List Sp} {f d : Nat} : ∀ {T : List Nat} {R : List (Nat × Nat)}, (∀ k ∈ T, k < L.length) → Out L.length R → Out L.length (fo L f d T R) ∧ R.length ≤ (fo L f d T R).length
  | [], R, _, ho => ⟨ho, Nat.le_refl _⟩
  | k :: T, R, hT, ho => by
    have h1 := dfs_out (fit L) f k (d + 1) R ho (hT k (by simp))
    have h2 := fo_out (f := f) (d := d) (T := T) (fun k' hk' => hT k' (List.mem_cons_of_mem k hk')) h1.1
    exact ⟨h2.1, Nat.le_trans h1.2 h2.2⟩
theorem fo_next {L : List Sp} {f d i : Nat} {T : List Nat} {R : List (Nat × Nat)} (h : i < T.length) : fo L f d (T.take (i + 1)) R = dfs (kids L) f T[i] (d + 1) (fo L f d (T.take i) R) := by
  unfold fo
  rw [List.take_succ_eq_append_getElem h, List.foldl_append]
  rfl
end Tr

set_option maxHeartbeats 4000000 in
set_option maxRecDepth 100000 in
theorem refWalk_fuel (A : Option Addr) (cap : Nat) (L : List Sp) (w0 : World) (HS0 : Stow (SpR w0 A cap L)) (hn : L.length ≤ 1000000) : ∀ (f n d : Nat) (R : List (Nat × Nat)) (v1 v2 : Value) (w : World), Below w0.heap.size w0 w → AP w w0.heap.size v1 v2 (R.map Prod.fst) (R.map Prod.snd) → Tr.Out L.length R → n < L.length → d ≤ R.length → L.length < f + R.length →
    Calls Try.prog 78 #[.slice A L.length cap, .int .i64 (n : Int), .int .i64 (d : Int), v1, v2] w fun e w' => ∃ v1' v2', e = .returned (.tuple #[v1', v2']) ∧ AP w' w0.heap.size v1' v2' ((Tr.dfs (Tr.kids L) f n d R).map Prod.fst) ((Tr.dfs (Tr.kids L) f n d R).map Prod.snd) ∧ Below w0.heap.size w w' ∧ KP w w' v1 v2 v1' v2'
  | 0, n, d, R, v1, v2, w, _, _, ho, _, _, hf => absurd hf (by have := ho.len; omega)
  | f + 1, n, d, R, v1, v2, w, hbw, hap, ho, hl, hd, hf => by
    have HIH := Stow.mk (refWalk_fuel A cap L w0 HS0 hn f)
    have HBW := Stow.mk hbw
    have hRl := ho.len
    obtain ⟨S, hS⟩ : ∃ S, R.map Prod.fst = S := ⟨_, rfl⟩
    obtain ⟨D, hD⟩ : ∃ D, R.map Prod.snd = D := ⟨_, rfl⟩
    have hSl : S.length = R.length := by rw [← hS, List.length_map]
    have hDl : D.length = R.length := by rw [← hD, List.length_map]
    rw [hS, hD] at hap
    obtain ⟨A1, c1, rfl⟩ := own_form hap.s
    obtain ⟨A2, c2, rfl⟩ := own_form hap.d
    have HAP := Stow.mk hap
    have KI := in_any S n A1 c1 w (IRow.ir hap.s)
    have HSD := Stow.mk (And.intro hS hD)
    have HSl := Stow.mk (And.intro hSl hDl)
    by_cases hin : n ∈ S
    · have hdf : Tr.dfs (Tr.kids L) (f + 1) n d R = R := by unfold Tr.dfs; rw [if_pos (hS ▸ hin)]
      rw [hdf, hS, hD]
      rw [decide_eq_true hin] at KI
      have HKI := Stow.mk KI
      clear KI hS hD hSl hDl hap hbw hdf ho hin HIH
      go_enter Try.func78, Try.ntmps78
      go_wp2_with fail
      refine HKI.out.mono ?_
      rintro e w ⟨rfl, rfl⟩
      go_wp2_with fail
      go_ret2
      exact ⟨_, _, rfl, HAP.out, Below.refl _ _, KP.self _ _ _⟩
    · have HDF : Stow (Tr.dfs (Tr.kids L) (f + 1) n d R = Tr.fo L f d (Tr.kids L n) (R ++ [(n, d)])) := ⟨by unfold Tr.dfs; rw [if_neg (hS ▸ hin)]; rfl⟩
      have HO := Stow.mk (ho.push (d := d) hl (hS ▸ hin))
      rw [decide_eq_false hin] at KI
      have HKI := Stow.mk KI
      have HK := Stow.mk (Tr.fit L)
      have K8 : Stow ((S.length + 1) * 8 ≤ 140737488355328 ∧ (D.length + 1) * 8 ≤ 140737488355328 ∧ w0.heap.size ≤ w.heap.size) := ⟨by omega, by omega, hbw.size⟩
      have hd6 : d ≤ 1000000 := by omega
      clear KI hS hD hSl hDl hap hbw hin ho
      go_enter Try.func78, Try.ntmps78
      go_wp2_with fail
      refine HKI.out.mono ?_
      rintro e w ⟨rfl, rfl⟩
      go_wp2_with (first
        | (at_builtin; refine wpList_append_intL HAP.out.s n rfl (.tmp 19) (.tmp 21) 44 rfl Try.underlying44 rfl _ rfl rfl K8.out.1 K8.out.2.2 ?_; intro b1 c1' w1 h1 hg1 hb1 hat1; have HA1 := Stow.mk (AP.first HAP.out hg1 h1 rfl hat1); have HB1 := Stow.mk hb1; clear h1 hg1 hb1 hat1)
        | (at_builtin; refine wpList_append_intL HA1.out.1.d d rfl (.tmp 23) (.tmp 25) 44 rfl Try.underlying44 rfl _ rfl rfl K8.out.2.1 (Nat.le_trans K8.out.2.2 HB1.out.size) ?_; intro b2 c2' w2 h2 hg2 hb2 hat2; have HA2 := Stow.mk (AP.second HA1.out.1 hg2 h2 rfl hat2); have HB2 := Stow.mk (HB1.out.trans hb2); clear h2 hg2 hb2 hat2))
      have HSW : Stow (SpR w2 A cap L) := ⟨HS0.out.keep (HBW.out.trans HB2.out)⟩
      have KK := refKids_at A cap L (n : Int) w2 HSW.out hn
      rw [Tr.kidsI_yes] at KK
      obtain ⟨K, hK⟩ : ∃ K, Tr.kids L n = K := ⟨_, rfl⟩
      have HKL : Stow (∀ k ∈ K, k < L.length) := ⟨fun k hk => HK.out.lt n k (hK ▸ hk)⟩
      have HKN : Stow (K.length ≤ 1000000) := ⟨by have := HK.out.len n; rw [hK] at this; omega⟩
      have HDF2 : Stow (Tr.dfs (Tr.kids L) (f + 1) n d R = Tr.fo L f d K (R ++ [(n, d)])) := ⟨by rw [HDF.out, hK]⟩
      rw [hK] at KK
      refine KK.mono ?_
      rintro e w3 ⟨vk, rfl, hk, hb3⟩
      obtain ⟨Ak, ck, rfl⟩ := own_form hk
      have HR1 : Stow ((R ++ [(n, d)]).map Prod.fst = S ++ [n] ∧ (R ++ [(n, d)]).map Prod.snd = D ++ [d] ∧ (R ++ [(n, d)]).length = R.length + 1) := ⟨by rw [List.map_append, HSD.out.1]; rfl, by rw [List.map_append, HSD.out.2]; rfl, by simp⟩
      have HB3 := Stow.mk (HB2.out.trans (hb3.mono (Nat.le_trans K8.out.2.2 HB2.out.size)))
      have HK3 := Stow.mk hk
      have HA3 := Stow.mk (HA2.out.1.keep hb3)
      have HP3 := Stow.mk (HA1.out.2.trans (HA2.out.2.trans (KP.of_below hb3 _ _)))
      have HN3 : Stow (Apart (.slice Ak K.length ck) (.slice (some ⟨b1, 0, none⟩) (S.length + 1) c1') ∧ Apart (.slice Ak K.length ck) (.slice (some ⟨b2, 0, none⟩) (D.length + 1) c2')) := ⟨fun k e e' => by have h1 := (World.ownsRow.lt hk k e).1; have h2 := (World.ownsRow.lt HA2.out.1.s k e').2; omega, fun k e e' => by have h1 := (World.ownsRow.lt hk k e).1; have h2 := (World.ownsRow.lt HA2.out.1.d k e').2; omega⟩
      obtain ⟨Ro, hRo⟩ : ∃ Ro, R ++ [(n, d)] = Ro := ⟨_, rfl⟩
      rw [hRo] at HO HR1 HDF2
      clear hk hb3 KK hK HK HDF HA1 HA2 HB1 HB2 HSW hRo HAP HKI HSD
      go_wp2_with fail
      go_loopw [3, 4, 13] (fun v3 v4 u wr => ∃ i : Nat, u = .int .i64 (i : Int) ∧ i ≤ K.length ∧ Stow (AP wr w0.heap.size v3 v4 ((Tr.fo L f d (K.take i) Ro).map Prod.fst) ((Tr.fo L f d (K.take i) Ro).map Prod.snd)) ∧ Stow (IRow wr w2.heap.size (.slice Ak K.length ck) K) ∧ Stow (Apart (.slice Ak K.length ck) v3 ∧ Apart (.slice Ak K.length ck) v4) ∧ Stow (Below w0.heap.size w wr ∧ KP w wr (.slice A1 S.length c1) (.slice A2 D.length c2) v3 v4)) (fun _ _ u _ => K.length - (intOf u).toNat)
      case atStart => exact ⟨0, rfl, by omega, ⟨by rw [List.take_zero]; show AP w3 _ _ _ (Ro.map Prod.fst) (Ro.map Prod.snd); rw [HR1.out.1, HR1.out.2.1]; exact HA3.out⟩, HK3, HN3, ⟨HB3.out, HP3.out⟩⟩
      case round =>
        obtain ⟨i, rfl, hi, HA, HKR, HN, HBP⟩ := hrel
        have HKl := HKN.out
        by_cases hlt : i < K.length
        · obtain ⟨g, rfl, hgl, _, q0⟩ := IRow.at_ HKR.out hlt
          obtain ⟨k, hk⟩ : ∃ k, K[i] = k := ⟨_, rfl⟩
          have hkL := HKL.out k (hk ▸ List.getElem_mem hlt)
          rw [hk] at q0
          have hfo := Tr.fo_out (f := f) (d := d) (T := K.take i) (fun k' hk' => HKL.out k' (List.mem_of_mem_take hk')) HO.out
          have hr3 := HR1.out.2.2
          have KW := HIH.out k (d + 1) _ _ _ wr (HBW.out.trans HBP.out.1) HA.out hfo.1 hkL (by omega) (by omega)
          rw [← hk, ← Tr.fo_next hlt, hk] at KW
          have HKW := Stow.mk KW
          have hii : (i : Int) < K.length := by omega
          clear KW hfo hk
          go_wp2_with fail
          refine HKW.out.mono ?_
          rintro e w5 ⟨v5, v6, rfl, ha5, hb5, hk5⟩
          have hkk := hk5 _ _ _ HKR.out HN.out.1 HN.out.2
          have HF : Stow _ := ⟨And.intro ha5 (And.intro hkk.1 (And.intro (And.intro hkk.2.1 hkk.2.2) (And.intro (HBP.out.1.trans hb5) (HBP.out.2.trans hk5))))⟩
          clear ha5 hb5 hk5 hkk
          go_wp2_with fail
          exact ⟨⟨i + 1, rfl, by omega, ⟨HF.out.1⟩, ⟨HF.out.2.1⟩, ⟨HF.out.2.2.1⟩, ⟨HF.out.2.2.2⟩⟩, by simp [intOf]; omega⟩
        · obtain rfl : i = K.length := by omega
          have hni : ¬ (K.length : Int) < K.length := by omega
          have HAE := Stow.mk HA.out
          rw [List.take_length] at HAE
          go_wp2_with fail
          go_ret2
          exact ⟨_, _, rfl, by rw [HDF2.out]; exact HAE.out, HBP.out.1, HBP.out.2⟩
end Go.Proofs.Ythbpcdoddcacdaa
