/- Rows of the call's own, blocks known whole, worlds in which some blocks turned: small laws. No condition.; Walks of head.every, head.Name and the reference's Name. Condition: the text is no longer than an int can say.; Walks of ids.Zero and of the reference's. Condition: two uint64.; Walks of spanrec.Check and of the reference's. Condition: a span's fields fit their types. -/
import Derived.Test.YtfbhdkkmcfnghaaGreatM07
import Derived.Test.YtfbhdkkmcfnghaaGreatProg
import Derived.Deep.MidRow
import Derived.Lib.SliceRun
import Derived.Deep.RegionHeld3
import Derived.Deep.Onto
import Derived.Deep.AppendLies
import Derived.Test.YtfbhdkkmcfnghaaGreatM01
import Derived.Test.YtfbhdkkmcfnghaaGreatM02

section
namespace Go.Proofs.YtfbhdkkmcfnghaaGreat
open Go.RowKit
set_option linter.unusedVariables false

theorem own_undr {w w' : World} {B : Nat} {e : TypeId} {size n : Nat} {v : Value} {xs : List Value} (h : w.ownsRow B e size v n xs) {g : Nat} (ho : Only g w w') (hg : g < B) : w'.ownsRow B e size v n xs := by
  refine World.ownsRow.kept h ho ?_
  cases hv : v.ownBlock with
  | none => exact .inl rfl
  | some k =>
    right
    have := (World.ownsRow.lt h k hv).1
    intro e; cases e; omega
theorem own_of_cells {w : World} {B : Nat} {e : TypeId} {c n cap : Nat} {A : Option Addr} {α : Type} {L : List α} {enc : α → List Value} (hc : ∀ x, (enc x).length = c) (h : w.ownsRow B e c (.slice A n cap) n (L.flatMap enc)) (hn : n = L.length) : SlR w c (.slice A n cap) (L.map enc) := by
  refine SlR.of_own h (by simp [hn]) ?_
  rw [List.flatMap_def]
  exact flat_at (fun x hx => by obtain ⟨y, _, rfl⟩ := List.mem_map.1 hx; exact hc y)
theorem wpList_store_hx {P : Program} {ops : Array Oper} {rest : List Oper} {op : Oper} {a : Act} {w : World} {Q : Exit → Act → World → Prop} (hgd : op.guard = none) (ty : TypeId) (x y : Operand) (ho : op.op = .store ty x y) (hdst : op.dst = none)
    (b o : Nat) (cells : List Value) (hx : a.eval x = .pointer (some ⟨b, o, none⟩)) (hy : a.eval y = .agg cells.toArray)
    (ht : w.there b o cells.length) (hi : (P.info? ty).map (·.size) = some cells.length) (h1 : ∀ u ∈ cells, u.oneCell' = true)
    (h : wpList P ops Q rest a (w.setCells b o cells)) : wpList P ops Q (op :: rest) a w := by
  refine wpList_store_mid hgd ty x y ho b o cells.toArray hx hy (by simpa using ht) (by simpa using hi) (all_oneCell_toArray h1) ?_
  rw [hdst]
  simpa [Act.put] using h
theorem only_all {g : Nat} : ∀ (cs : List Value) (w : World) (i : Nat), Only g w (w.setCells g i cs)
  | [], w, _ => Only.refl g w
  | v :: t, w, i => (Only.set g w i v).trans (only_all t _ (i + 1))
theorem held_all {g : Nat} : ∀ (cs' : List Value) (cs pre : List Value) (W : World), Held W g (pre ++ cs) → cs.length = cs'.length → Held (W.setCells g pre.length cs') g (pre ++ cs')
  | [], cs, pre, W, h, hl => by
    obtain rfl := List.eq_nil_of_length_eq_zero hl
    exact h
  | v :: t, cs, pre, W, h, hl => by
    rcases cs with _ | ⟨u, r⟩
    · cases hl
    · have h1 := h.set pre.length v
      rw [List.set_append_right _ _ (Nat.le_refl _), Nat.sub_self, List.set_cons_zero] at h1
      have h2 := held_all t r (pre ++ [v]) _ (by simpa using h1) (by simpa using hl)
      rw [List.length_append] at h2
      have h3 : Held ((W.setCell ⟨g, pre.length, none⟩ v).setCells g (pre.length + 1) t) g (pre ++ v :: t) := by simpa using h2
      exact h3
/-- A whole block is written over. -/
theorem Held.over {W : World} {g : Nat} {cs : List Value} (h : Held W g cs) (cs' : List Value) (hl : cs.length = cs'.length) : Held (W.setCells g 0 cs') g cs' := held_all cs' cs [] W h hl
theorem Held.there {W : World} {g : Nat} {cs : List Value} (h : Held W g cs) : W.there g 0 cs.length := fun j hj => by
  rw [Nat.zero_add]
  exact ⟨by rw [h.cell (List.getElem?_eq_getElem hj)]; rfl, h.free j⟩
theorem Held.range {W : World} {g : Nat} {cs : List Value} (h : Held W g cs) : W.rangeAt g 0 cs := fun j v hj => by rw [Nat.zero_add]; exact h.cell hj
theorem Held.offO {w w' : World} {g ga : Nat} {cs : List Value} (h : Held w g cs) (ho : Only ga w w') (hne : g ≠ ga) : Held w' g cs := by
  have := h.lt
  obtain ⟨t, h⟩ := h
  exact ⟨t, (ho.block g this (by simpa using hne)).trans h⟩
theorem slr_only {w w' : World} {g c n cap : Nat} {A : Option Addr} {L : List (List Value)} (h : SlR w c (.slice A n cap) L) (ho : Only g w w') (hA : ∀ ad, A = some ad → ad.block ≠ g) : SlR w' c (.slice A n cap) L := by
  obtain ⟨A', cap', hv, h1, h2, h3⟩ := h
  simp only [Value.slice.injEq] at hv
  obtain ⟨rfl, rfl, rfl⟩ := hv
  refine ⟨_, _, rfl, h1, h2, fun hL => ?_⟩
  obtain ⟨b, off, rfl, hlt, hc⟩ := h3 hL
  refine ⟨b, off, rfl, Nat.lt_of_lt_of_le hlt ho.size, fun i x hx j u hu => ?_⟩
  have hb := ho.block b hlt (by have := hA _ rfl; simpa using this)
  have : w'.cell? ⟨b, off + i * c + j, none⟩ = w.cell? ⟨b, off + i * c + j, none⟩ := World.cell?_of_block (w := w) hb
  rw [this]
  exact hc i x hx j u hu
def putL : List Value → Nat → List Value → List Value
  | xs, _, [] => xs
  | xs, i, v :: t => putL (xs.set i v) (i + 1) t
theorem own_putAll {B : Nat} {e : TypeId} {c g n cap : Nat} : ∀ (cs : List Value) (w : World) (i : Nat) (xs : List Value), w.ownsRow B e c (.slice (some ⟨g, 0, none⟩) n cap) n xs → (w.setCells g i cs).ownsRow B e c (.slice (some ⟨g, 0, none⟩) n cap) n (putL xs i cs)
  | [], _, _, _, h => h
  | v :: t, w, i, xs, h => own_putAll t _ (i + 1) _ (World.ownsRow.stored h i v).1
theorem putL_mid : ∀ (cs pre old post : List Value), cs.length = old.length → putL (pre ++ (old ++ post)) pre.length cs = pre ++ (cs ++ post)
  | [], pre, old, post, h => by
    obtain rfl := List.eq_nil_of_length_eq_zero h.symm
    rfl
  | v :: t, pre, old, post, h => by
    rcases old with _ | ⟨u, r⟩
    · cases h
    · unfold putL
      rw [List.set_append_right _ _ (Nat.le_refl _), Nat.sub_self]
      have h1 := putL_mid t (pre ++ [v]) r post (by simpa using h)
      rw [List.length_append] at h1
      simpa using h1
theorem own_there {w : World} {B : Nat} {e : TypeId} {c g n cap k : Nat} {xs : List Value} (h : w.ownsRow B e c (.slice (some ⟨g, 0, none⟩) n cap) n xs) (hk : k < n) : w.there g (k * c) c := fun j hj => by
  have hlt : k * c + j < n * c := by
    have : (k + 1) * c ≤ n * c := Nat.mul_le_mul_right c hk
    rw [Nat.succ_mul] at this; omega
  refine ⟨?_, h.frozenAt _⟩
  have hl := h.1
  rw [h.cellAt (k * c + j) hlt, List.getElem?_eq_getElem (by rw [hl]; exact hlt)]
  rfl
/-- Only blocks of F may have turned. -/
structure Turn (F : Nat → Prop) (w w' : World) : Prop where
  os : w'.os = w.os
  tape : w'.tape = w.tape
  output : w'.output = w.output
  size : w.heap.size ≤ w'.heap.size
  block : ∀ k, k < w.heap.size → ¬ F k → w'.heap[k]? = w.heap[k]?
theorem Turn.refl (F : Nat → Prop) (w : World) : Turn F w w := ⟨rfl, rfl, rfl, Nat.le_refl _, fun _ _ _ => rfl⟩
theorem Turn.of_below {F : Nat → Prop} {w w' : World} (h : Below w.heap.size w w') : Turn F w w' := ⟨h.os, h.tape, h.output, h.size, fun k hk _ => h.block k hk⟩
theorem Turn.of_grown {F : Nat → Prop} {w w' : World} {b : Nat} (h : w.grownBy w' (some b)) (hb : F b ∨ w.heap.size ≤ b) : Turn F w w' :=
  ⟨h.os, h.tape, h.output, h.size, fun k hk hn => h.block k hk (by intro e; cases e; rcases hb with hb | hb; exact hn hb; omega)⟩
theorem Turn.trans {F F' : Nat → Prop} {a b c : World} (h : Turn F a b) (k : Turn F' b c) (hF : ∀ i, F' i → F i ∨ a.heap.size ≤ i) : Turn F a c :=
  ⟨k.os.trans h.os, k.tape.trans h.tape, k.output.trans h.output, Nat.le_trans h.size k.size, fun i hi hn => (k.block i (Nat.lt_of_lt_of_le hi h.size) (fun hf => by rcases hF i hf with h' | h'; exact hn h'; omega)).trans (h.block i hi hn)⟩
theorem Turn.below {F : Nat → Prop} {B : Nat} {w w' : World} (h : Turn F w w') (hF : ∀ i, F i → B ≤ i) (hB : B ≤ w.heap.size) : Below B w w' :=
  ⟨h.os, h.tape, h.output, h.size, fun k hk => h.block k (by omega) (fun hf => by have := hF k hf; omega)⟩
theorem slrTurn {w w' : World} {F : Nat → Prop} {c : Nat} {A : Option Addr} {n cap : Nat} {L : List (List Value)} (h : SlR w c (.slice A n cap) L) (ht : Turn F w w') (hF : ∀ ad, A = some ad → ¬ F ad.block) : SlR w' c (.slice A n cap) L := by
  obtain ⟨A', cap', hv, h1, h2, h3⟩ := h
  simp only [Value.slice.injEq] at hv
  obtain ⟨rfl, rfl, rfl⟩ := hv
  refine ⟨_, _, rfl, h1, h2, fun hL => ?_⟩
  obtain ⟨b, off, rfl, hlt, hc⟩ := h3 hL
  exact ⟨b, off, rfl, Nat.lt_of_lt_of_le hlt ht.size, fun i x hx j u hu => (World.cell?_of_block (w := w) (ht.block b hlt (hF _ rfl))).trans (hc i x hx j u hu)⟩
theorem slr_len {w : World} {c n cap : Nat} {A : Option Addr} {L : List (List Value)} (h : SlR w c (.slice A n cap) L) : n = L.length := by
  obtain ⟨_, _, hv, _⟩ := h
  simp only [Value.slice.injEq] at hv
  exact hv.2.1
theorem slr_none {w : World} {c n cap : Nat} {L : List (List Value)} (h : SlR w c (.slice none n cap) L) : L = [] := by
  obtain ⟨A, cap', hv, _, _, h3⟩ := h
  simp only [Value.slice.injEq] at hv
  obtain ⟨rfl, _, rfl⟩ := hv
  rcases L with _ | ⟨y, t⟩
  · rfl
  · obtain ⟨b, off, hA, _⟩ := h3 (by simp)
    cases hA
/-- A whole struct is loaded behind a guard. -/
theorem wpList_load_guarded {P : Program} {ops : Array Oper} {rest : List Oper} {op : Oper} {a : Act} {w : World} {Q : Exit → Act → World → Prop} (hw : Region.wanted op (yielded ops a.tmps) = true) (ty : TypeId) (x : Operand) (ho : op.op = .load ty x)
    (b o : Nat) (hx : a.eval x = .pointer (some ⟨b, o, none⟩)) (cs : List Value) (d : TypeDesc) (hc : w.rangeAt b o cs)
    (hu : P.underlying ty = some d) (hd : d.isRow = true) (hi : (P.info? ty).map (·.size) = some cs.length)
    (h : wpList P ops Q rest (a.put op.dst (.agg cs.toArray)) w) : wpList P ops Q (op :: rest) a w :=
  wpList_step fun K hK => by
    rw [if_pos hw]
    exact wp_load_mid ty x ho b o hx cs d hc hu hd hi (hK _ _ h)
theorem Held.turn {w w' : World} {g : Nat} {F : Nat → Prop} {cs : List Value} (h : Held w g cs) (ht : Turn F w w') (hF : ¬ F g) : Held w' g cs := by
  have hl := h.lt
  obtain ⟨t, h0⟩ := h
  exact ⟨t, by rw [ht.block g hl hF]; exact h0⟩
end Go.Proofs.YtfbhdkkmcfnghaaGreat
end

section
namespace Go.Proofs.YtfbhdkkmcfnghaaGreat
open Go.RowKit

def nameByte (b : UInt8) : Bool := b.toNat == 45 || (decide (48 ≤ b.toNat) && decide (b.toNat ≤ 57)) || (decide (97 ≤ b.toNat) && decide (b.toNat ≤ 122))
def nameOk (l : List UInt8) : Bool := !l.isEmpty && decide (l.length ≤ 32) && l.all nameByte

theorem all_take_succ {p : UInt8 → Bool} {l : List UInt8} {i : Nat} (h : i < l.length) (ha : (l.take i).all p = true) (hb : p l[i] = true) : (l.take (i + 1)).all p = true := by
  rw [List.take_succ_eq_append_getElem h, List.all_append, ha]; simp [hb]
theorem all_false_of {p : UInt8 → Bool} {l : List UInt8} {i : Nat} (h : i < l.length) (hb : p l[i] = false) : l.all p = false := by
  rw [List.all_eq_false]; exact ⟨l[i], List.getElem_mem h, by simp [hb]⟩

set_option maxHeartbeats 400000 in
set_option maxRecDepth 100000 in
theorem every_any (K : Nat) (p : UInt8 → Bool) (hcf : ∀ (args : Array Value) (w : World), (callFunc K args).run Tryz.prog w = .ok (.enter K args) w) (hf : Hid (∀ (b : UInt8) (w : World), Calls Tryz.prog K #[.int .u8 (b.toNat : Int)] w fun e w' => e = .returned (.bool (p b)) ∧ w' = w))
    (l : List UInt8) (w : World) (hl : l.length ≤ 9223372036854775807) :
    Calls Tryz.prog 177 #[.string (bs l), .func (.func K) #[] #[]] w fun e w' => e = .returned (.bool (l.all p)) ∧ w' = w := by
  go_enter Tryz.func177, Tryz.ntmps177
  go_wp2_with fail
  go_loop [8] (fun v => ∃ i : Nat, v = .int .i64 i ∧ i ≤ l.length ∧ Hid ((l.take i).all p = true)) (fun v => l.length - (intOf v).toNat)
  case atStart => exact ⟨0, rfl, by omega, Lib.hid rfl⟩
  case round =>
    obtain ⟨i, rfl, hi, HA⟩ := hrel
    by_cases hlt : i < l.length
    · obtain ⟨r, hr⟩ : ∃ r, p l[i] = r := ⟨_, rfl⟩
      have HR := Lib.hid hr; clear hr
      cases r
      all_goals
        go_wp2_with fail
        refine (hf.out l[i] _).mono ?_
        rw [HR.out]
        rintro e w' ⟨rfl, rfl⟩
        go_wp2_with fail
      · go_ret
        exact ⟨by rw [all_false_of hlt HR.out]; rfl, rfl⟩
      · exact ⟨⟨i + 1, rfl, by omega, Lib.hid (all_take_succ hlt HA.out HR.out)⟩, by simp [intOf]; omega⟩
    · obtain rfl : i = l.length := by omega
      go_wp2_with fail
      go_ret
      exact ⟨by have h := HA.out; rw [List.take_length] at h; rw [h]; rfl, rfl⟩

set_option maxHeartbeats 400000 in
set_option maxRecDepth 100000 in
theorem nameByte_any (b : UInt8) (w : World) : Calls Tryz.prog 178 #[.int .u8 (b.toNat : Int)] w fun e w' => e = .returned (.bool (nameByte b)) ∧ w' = w := by
  have hb := UInt8.toNat_lt b
  have key : ∀ r : Bool, (r = true ↔ b.toNat = 45 ∨ (48 ≤ b.toNat ∧ b.toNat ≤ 57) ∨ (97 ≤ b.toNat ∧ b.toNat ≤ 122)) → nameByte b = r := by
    intro r h
    rw [Bool.eq_iff_iff, h]
    simp [nameByte, or_assoc]
  have HK := Lib.hid key; clear key
  by_cases h1 : b.toNat = 45
  · go_enter Tryz.func178, Tryz.ntmps178
    go_wp2_with fail
    go_ret
    exact ⟨by rw [HK.out true (by simp; omega)]; rfl, rfl⟩
  by_cases h2 : 48 ≤ b.toNat
  all_goals by_cases h3 : b.toNat ≤ 57
  all_goals by_cases h4 : 97 ≤ b.toNat
  all_goals by_cases h5 : b.toNat ≤ 122
  all_goals first | omega | skip
  all_goals have h1i : ((b.toNat : Int) == 45) = false := by simp; omega
  all_goals
    go_enter Tryz.func178, Tryz.ntmps178
    go_wp2_with fail
    go_ret
  all_goals
    refine ⟨congrArg (fun r => Ending.returned (.bool r)) (?_ : _ = nameByte b), rfl⟩
    symm
    apply HK.out
    simp
    try omega

set_option maxHeartbeats 400000 in
set_option maxRecDepth 100000 in
theorem name_any (l : List UInt8) (w : World) (hl : l.length ≤ 9223372036854775807) :
    Calls Tryz.prog 171 #[.string (bs l)] w fun e w' => e = .returned (.bool (nameOk l)) ∧ w' = w := by
  have hcf := enters_of Tryz.func178 (by kernel_rfl) rfl
  have HC := Lib.hid hcf; clear hcf
  by_cases h0 : l = []
  · subst h0
    go_enter Tryz.func171, Tryz.ntmps171
    go_wp2_with fail
    go_ret
    exact ⟨rfl, rfl⟩
  have h0e : l.isEmpty = false := by simpa using h0
  by_cases h1 : l.length ≤ 32
  · have HN : Hid (nameOk l = l.all nameByte) := Lib.hid (by simp [nameOk, h0, h1])
    clear h0
    go_enter Tryz.func171, Tryz.ntmps171
    go_wp2_with fail
    refine (every_any 178 nameByte HC.out (Lib.hid nameByte_any) l _ hl).mono ?_
    rintro e w' ⟨rfl, rfl⟩
    go_wp2_with fail
    go_ret
    exact ⟨by rw [HN.out]; rfl, rfl⟩
  · have HN : Hid (nameOk l = false) := Lib.hid (by simp [nameOk, h1])
    clear h0
    go_enter Tryz.func171, Tryz.ntmps171
    go_wp2_with fail
    go_ret
    exact ⟨by rw [HN.out]; rfl, rfl⟩

set_option maxHeartbeats 800000 in
set_option maxRecDepth 100000 in
theorem refName_any (l : List UInt8) (w : World) (hl : l.length ≤ 9223372036854775807) :
    Calls Tryz.prog 115 #[.string (bs l)] w fun e w' => e = .returned (.bool (nameOk l)) ∧ w' = w := by
  by_cases h0 : l.length < 1
  · have HN : Hid (nameOk l = false) := Lib.hid (by
      have : l = [] := List.eq_nil_of_length_eq_zero (by omega)
      simp [nameOk, this])
    go_enter Tryz.func115, Tryz.ntmps115
    go_wp2_with fail
    go_ret
    exact ⟨by rw [HN.out]; rfl, rfl⟩
  by_cases h1 : 32 < l.length
  · have HN : Hid (nameOk l = false) := Lib.hid (by simp [nameOk]; omega)
    go_enter Tryz.func115, Tryz.ntmps115
    go_wp2_with fail
    go_ret
    exact ⟨by rw [HN.out]; rfl, rfl⟩
  have HN : Hid (nameOk l = l.all nameByte) := Lib.hid (by
    have : l ≠ [] := by intro h; simp [h] at h0
    simp [nameOk, this]; omega)
  go_enter Tryz.func115, Tryz.ntmps115
  go_wp2_with fail
  go_loop [3] (fun v => ∃ i : Nat, v = .int .i64 i ∧ i ≤ l.length ∧ Hid ((l.take i).all nameByte = true)) (fun v => l.length - (intOf v).toNat)
  case atStart => exact ⟨0, rfl, by omega, Lib.hid rfl⟩
  case round =>
    obtain ⟨i, rfl, hi, HA⟩ := hrel
    by_cases hlt : i < l.length
    · have HK : Hid (∀ r : Bool, (r = true ↔ l[i].toNat = 45 ∨ (48 ≤ l[i].toNat ∧ l[i].toNat ≤ 57) ∨ (97 ≤ l[i].toNat ∧ l[i].toNat ≤ 122)) → nameByte l[i] = r) := Lib.hid (by
        intro r h
        rw [Bool.eq_iff_iff, h]
        simp [nameByte, or_assoc])
      by_cases h1 : l[i].toNat = 45
      · go_wp2_with fail
        exact ⟨⟨i + 1, rfl, by omega, Lib.hid (all_take_succ hlt HA.out (HK.out true (by simp; omega)))⟩, by simp [intOf]; omega⟩
      have h1i : ((l[i].toNat : Int) != 45) = true := by simp; omega
      by_cases h2 : 48 ≤ l[i].toNat
      all_goals by_cases h3 : l[i].toNat ≤ 57
      all_goals by_cases h4 : 97 ≤ l[i].toNat
      all_goals by_cases h5 : l[i].toNat ≤ 122
      all_goals first | omega | skip
      all_goals go_wp2_with fail
      all_goals try simp only [bne_iff_ne, ne_eq, bne_eq_false_iff_eq] at *
      all_goals first
        | exact ⟨⟨i + 1, rfl, by omega, Lib.hid (all_take_succ hlt HA.out (HK.out true (by simp; omega)))⟩, by simp [intOf]; omega⟩
        | (go_ret
           exact ⟨by rw [HN.out, all_false_of hlt (HK.out false (by simp; omega))]; rfl, rfl⟩)
    · obtain rfl : i = l.length := by omega
      go_wp2_with fail
      go_ret
      exact ⟨by have h := HA.out; rw [List.take_length] at h; rw [HN.out, h]; rfl, rfl⟩
end Go.Proofs.YtfbhdkkmcfnghaaGreat
end

section
namespace Go.Proofs.YtfbhdkkmcfnghaaGreat
open Go.RowKit

def zer (hi lo : Nat) : Bool := decide (hi = 0 ∧ lo = 0)

set_option maxHeartbeats 400000 in
set_option maxRecDepth 100000 in
theorem zero_any (hi lo : Nat) (w : World) (h1 : hi < 18446744073709551616) (h2 : lo < 18446744073709551616) :
    Calls Tryz.prog 170 #[.agg #[.int .u64 (hi : Int), .int .u64 (lo : Int)]] w fun e w' => e = .returned (.bool (zer hi lo)) ∧ Below w.heap.size w w' := by
  have HB := Lib.hid (bits_or_u64_nat hi lo h1 h2)
  go_enter Tryz.func170, Tryz.ntmps170
  go_wp2_with fail
  go_ret
  refine ⟨?_, (Below.refl _ _).alloc (Nat.le_refl _) _⟩
  refine congrArg (fun r => Ending.returned (.bool r)) (?_ : _ = zer hi lo)
  rw [HB.out, Bool.eq_iff_iff]
  simp [zer]

set_option maxHeartbeats 400000 in
set_option maxRecDepth 100000 in
theorem refZero_any (hi lo : Nat) (w : World) :
    Calls Tryz.prog 114 #[.agg #[.int .u64 (hi : Int), .int .u64 (lo : Int)]] w fun e w' => e = .returned (.bool (zer hi lo)) ∧ Below w.heap.size w w' := by
  go_enter Tryz.func114, Tryz.ntmps114
  go_wp2_with fail
  all_goals
    go_ret
    exact ⟨by simp [zer, *], (Below.refl _ _).alloc (Nat.le_refl _) _⟩
end Go.Proofs.YtfbhdkkmcfnghaaGreat
end

section
namespace Go.Proofs.YtfbhdkkmcfnghaaGreat
open Go.RowKit

def wi (n a b : Int) : Bool := decide (a ≤ n) && decide (n ≤ b)

def check (s : Sp) : Nat :=
  if zer s.hi s.lo = true then 11 else if s.id = 0 then 11 else if nameOk s.name = false then 7
  else if wi s.st 0 599 = false then 12 else if wi s.sq 0 63 = false then 12 else if wi s.kd 0 64 = false then 12
  else if wi s.t0 0 1099511627776 = false then 12 else if wi s.t1 s.t0 1099511627776 = false then 12 else 0

set_option maxHeartbeats 400000 in
set_option maxRecDepth 100000 in
theorem within_any (n a b : Int) (w : World) : Calls Tryz.prog 172 #[.int .i64 n, .int .i64 a, .int .i64 b] w fun e w' => e = .returned (.bool (wi n a b)) ∧ w' = w := by
  by_cases h : a ≤ n
  · go_enter Tryz.func172, Tryz.ntmps172
    go_wp2_with fail
    go_ret
    exact ⟨by simp [wi, h], rfl⟩
  · have hd : decide (a ≤ n) = false := by simp [h]
    go_enter Tryz.func172, Tryz.ntmps172
    go_wp2_with fail
    go_ret
    exact ⟨by simp [wi, hd], rfl⟩

set_option maxHeartbeats 2000000 in
set_option maxRecDepth 100000 in
theorem check_any (s : Sp) (w : World) (hs : s.fits) : Calls Tryz.prog 154 #[s.val] w fun e w' => e = .returned (.int .i64 (check s)) ∧ Below w.heap.size w w' := by
  obtain ⟨hi, lo, id, up, name, st, sq, kd, sh, t0, t1⟩ := s
  obtain ⟨h1, h2, h3, h4, h5⟩ := hs
  simp only [Sp.val] at *
  rcases Bool.eq_false_or_eq_true (zer hi lo) with k0 | k0
  · go_enter Tryz.func154, Tryz.ntmps154
    go_wp2_with (first
      | (go_at_call 170; refine (zero_any hi lo _ h1 h2).mono ?_; rintro e w1 ⟨rfl, hb1⟩; obtain ⟨hc1, hf1⟩ := bcell hb1)
      | (go_at_call 171; refine (name_any name _ h5).mono ?_; rintro e w' ⟨rfl, rfl⟩)
      | (go_at_call 172; refine (within_any _ _ _ _).mono ?_; rintro e w' ⟨rfl, rfl⟩))
    go_ret
    exact ⟨by simp [check, *], ((Below.refl _ _).alloc (Nat.le_refl _) _).trans (hb1.mono (by simp))⟩
  by_cases k1 : id = 0
  · go_enter Tryz.func154, Tryz.ntmps154
    go_wp2_with (first
      | (go_at_call 170; refine (zero_any hi lo _ h1 h2).mono ?_; rintro e w1 ⟨rfl, hb1⟩; obtain ⟨hc1, hf1⟩ := bcell hb1)
      | (go_at_call 171; refine (name_any name _ h5).mono ?_; rintro e w' ⟨rfl, rfl⟩)
      | (go_at_call 172; refine (within_any _ _ _ _).mono ?_; rintro e w' ⟨rfl, rfl⟩))
    go_ret
    exact ⟨by simp [check, *], ((Below.refl _ _).alloc (Nat.le_refl _) _).trans (hb1.mono (by simp))⟩
  rcases Bool.eq_false_or_eq_true (nameOk name) with k2 | k2
  rotate_left
  · go_enter Tryz.func154, Tryz.ntmps154
    go_wp2_with (first
      | (go_at_call 170; refine (zero_any hi lo _ h1 h2).mono ?_; rintro e w1 ⟨rfl, hb1⟩; obtain ⟨hc1, hf1⟩ := bcell hb1)
      | (go_at_call 171; refine (name_any name _ h5).mono ?_; rintro e w' ⟨rfl, rfl⟩)
      | (go_at_call 172; refine (within_any _ _ _ _).mono ?_; rintro e w' ⟨rfl, rfl⟩))
    go_ret
    exact ⟨by simp [check, *], ((Below.refl _ _).alloc (Nat.le_refl _) _).trans (hb1.mono (by simp))⟩
  rcases Bool.eq_false_or_eq_true (wi st 0 599) with k3 | k3
  rotate_left
  · go_enter Tryz.func154, Tryz.ntmps154
    go_wp2_with (first
      | (go_at_call 170; refine (zero_any hi lo _ h1 h2).mono ?_; rintro e w1 ⟨rfl, hb1⟩; obtain ⟨hc1, hf1⟩ := bcell hb1)
      | (go_at_call 171; refine (name_any name _ h5).mono ?_; rintro e w' ⟨rfl, rfl⟩)
      | (go_at_call 172; refine (within_any _ _ _ _).mono ?_; rintro e w' ⟨rfl, rfl⟩))
    go_ret
    exact ⟨by simp [check, *], ((Below.refl _ _).alloc (Nat.le_refl _) _).trans (hb1.mono (by simp))⟩
  rcases Bool.eq_false_or_eq_true (wi sq 0 63) with k4 | k4
  rotate_left
  · go_enter Tryz.func154, Tryz.ntmps154
    go_wp2_with (first
      | (go_at_call 170; refine (zero_any hi lo _ h1 h2).mono ?_; rintro e w1 ⟨rfl, hb1⟩; obtain ⟨hc1, hf1⟩ := bcell hb1)
      | (go_at_call 171; refine (name_any name _ h5).mono ?_; rintro e w' ⟨rfl, rfl⟩)
      | (go_at_call 172; refine (within_any _ _ _ _).mono ?_; rintro e w' ⟨rfl, rfl⟩))
    go_ret
    exact ⟨by simp [check, *], ((Below.refl _ _).alloc (Nat.le_refl _) _).trans (hb1.mono (by simp))⟩
  rcases Bool.eq_false_or_eq_true (wi kd 0 64) with k5 | k5
  rotate_left
  · go_enter Tryz.func154, Tryz.ntmps154
    go_wp2_with (first
      | (go_at_call 170; refine (zero_any hi lo _ h1 h2).mono ?_; rintro e w1 ⟨rfl, hb1⟩; obtain ⟨hc1, hf1⟩ := bcell hb1)
      | (go_at_call 171; refine (name_any name _ h5).mono ?_; rintro e w' ⟨rfl, rfl⟩)
      | (go_at_call 172; refine (within_any _ _ _ _).mono ?_; rintro e w' ⟨rfl, rfl⟩))
    go_ret
    exact ⟨by simp [check, *], ((Below.refl _ _).alloc (Nat.le_refl _) _).trans (hb1.mono (by simp))⟩
  rcases Bool.eq_false_or_eq_true (wi t0 0 1099511627776) with k6 | k6
  rotate_left
  · go_enter Tryz.func154, Tryz.ntmps154
    go_wp2_with (first
      | (go_at_call 170; refine (zero_any hi lo _ h1 h2).mono ?_; rintro e w1 ⟨rfl, hb1⟩; obtain ⟨hc1, hf1⟩ := bcell hb1)
      | (go_at_call 171; refine (name_any name _ h5).mono ?_; rintro e w' ⟨rfl, rfl⟩)
      | (go_at_call 172; refine (within_any _ _ _ _).mono ?_; rintro e w' ⟨rfl, rfl⟩))
    go_ret
    exact ⟨by simp [check, *], ((Below.refl _ _).alloc (Nat.le_refl _) _).trans (hb1.mono (by simp))⟩
  rcases Bool.eq_false_or_eq_true (wi t1 t0 1099511627776) with k7 | k7
  rotate_left
  · go_enter Tryz.func154, Tryz.ntmps154
    go_wp2_with (first
      | (go_at_call 170; refine (zero_any hi lo _ h1 h2).mono ?_; rintro e w1 ⟨rfl, hb1⟩; obtain ⟨hc1, hf1⟩ := bcell hb1)
      | (go_at_call 171; refine (name_any name _ h5).mono ?_; rintro e w' ⟨rfl, rfl⟩)
      | (go_at_call 172; refine (within_any _ _ _ _).mono ?_; rintro e w' ⟨rfl, rfl⟩))
    go_ret
    exact ⟨by simp [check, *], ((Below.refl _ _).alloc (Nat.le_refl _) _).trans (hb1.mono (by simp))⟩
  go_enter Tryz.func154, Tryz.ntmps154
  go_wp2_with (first
    | (go_at_call 170; refine (zero_any hi lo _ h1 h2).mono ?_; rintro e w1 ⟨rfl, hb1⟩; obtain ⟨hc1, hf1⟩ := bcell hb1)
    | (go_at_call 171; refine (name_any name _ h5).mono ?_; rintro e w' ⟨rfl, rfl⟩)
    | (go_at_call 172; refine (within_any _ _ _ _).mono ?_; rintro e w' ⟨rfl, rfl⟩))
  go_ret
  exact ⟨by simp [check, *], ((Below.refl _ _).alloc (Nat.le_refl _) _).trans (hb1.mono (by simp))⟩


set_option maxHeartbeats 4000000 in
set_option maxRecDepth 100000 in
theorem refCheck_any (s : Sp) (w : World) (hs : s.fits) : Calls Tryz.prog 74 #[s.val] w fun e w' => e = .returned (.int .i64 (check s)) ∧ Below w.heap.size w w' := by
  obtain ⟨hi, lo, id, up, name, st, sq, kd, sh, t0, t1⟩ := s
  obtain ⟨-, -, -, -, h5⟩ := hs
  simp only [Sp.val] at *
  rcases Bool.eq_false_or_eq_true (zer hi lo) with k0 | k0
  · go_enter Tryz.func74, Tryz.ntmps74
    go_wp2_with (first
      | (go_at_call 114; refine (refZero_any hi lo _).mono ?_; rintro e w1 ⟨rfl, hb1⟩; obtain ⟨hc1, hf1⟩ := bcell hb1)
      | (go_at_call 115; refine (refName_any name _ h5).mono ?_; rintro e w' ⟨rfl, rfl⟩))
    go_ret
    exact ⟨by simp [check, *], ((Below.refl _ _).alloc (Nat.le_refl _) _).trans (hb1.mono (by simp))⟩
  by_cases k1 : id = 0
  · go_enter Tryz.func74, Tryz.ntmps74
    go_wp2_with (first
      | (go_at_call 114; refine (refZero_any hi lo _).mono ?_; rintro e w1 ⟨rfl, hb1⟩; obtain ⟨hc1, hf1⟩ := bcell hb1)
      | (go_at_call 115; refine (refName_any name _ h5).mono ?_; rintro e w' ⟨rfl, rfl⟩))
    go_ret
    exact ⟨by simp [check, *], ((Below.refl _ _).alloc (Nat.le_refl _) _).trans (hb1.mono (by simp))⟩
  rcases Bool.eq_false_or_eq_true (nameOk name) with k2 | k2
  rotate_left
  · go_enter Tryz.func74, Tryz.ntmps74
    go_wp2_with (first
      | (go_at_call 114; refine (refZero_any hi lo _).mono ?_; rintro e w1 ⟨rfl, hb1⟩; obtain ⟨hc1, hf1⟩ := bcell hb1)
      | (go_at_call 115; refine (refName_any name _ h5).mono ?_; rintro e w' ⟨rfl, rfl⟩))
    go_ret
    exact ⟨by simp [check, *], ((Below.refl _ _).alloc (Nat.le_refl _) _).trans (hb1.mono (by simp))⟩
  by_cases k3 : st < 0
  · have est : wi st 0 599 = false := by simp [wi]; omega
    go_enter Tryz.func74, Tryz.ntmps74
    go_wp2_with (first
      | (go_at_call 114; refine (refZero_any hi lo _).mono ?_; rintro e w1 ⟨rfl, hb1⟩; obtain ⟨hc1, hf1⟩ := bcell hb1)
      | (go_at_call 115; refine (refName_any name _ h5).mono ?_; rintro e w' ⟨rfl, rfl⟩))
    go_ret
    exact ⟨by simp [check, *], ((Below.refl _ _).alloc (Nat.le_refl _) _).trans (hb1.mono (by simp))⟩
  have dsta : decide (st < 0) = false := by simpa using k3
  by_cases k4 : 599 < st
  · have est : wi st 0 599 = false := by simp [wi]; omega
    go_enter Tryz.func74, Tryz.ntmps74
    go_wp2_with (first
      | (go_at_call 114; refine (refZero_any hi lo _).mono ?_; rintro e w1 ⟨rfl, hb1⟩; obtain ⟨hc1, hf1⟩ := bcell hb1)
      | (go_at_call 115; refine (refName_any name _ h5).mono ?_; rintro e w' ⟨rfl, rfl⟩))
    go_ret
    exact ⟨by simp [check, *], ((Below.refl _ _).alloc (Nat.le_refl _) _).trans (hb1.mono (by simp))⟩
  have dstb : decide (599 < st) = false := by simpa using k4
  have est : wi st 0 599 = true := by simp [wi]; omega
  by_cases k5 : sq < 0
  · have esq : wi sq 0 63 = false := by simp [wi]; omega
    go_enter Tryz.func74, Tryz.ntmps74
    go_wp2_with (first
      | (go_at_call 114; refine (refZero_any hi lo _).mono ?_; rintro e w1 ⟨rfl, hb1⟩; obtain ⟨hc1, hf1⟩ := bcell hb1)
      | (go_at_call 115; refine (refName_any name _ h5).mono ?_; rintro e w' ⟨rfl, rfl⟩))
    go_ret
    exact ⟨by simp [check, *], ((Below.refl _ _).alloc (Nat.le_refl _) _).trans (hb1.mono (by simp))⟩
  have dsqa : decide (sq < 0) = false := by simpa using k5
  by_cases k6 : 64 ≤ sq
  · have esq : wi sq 0 63 = false := by simp [wi]; omega
    go_enter Tryz.func74, Tryz.ntmps74
    go_wp2_with (first
      | (go_at_call 114; refine (refZero_any hi lo _).mono ?_; rintro e w1 ⟨rfl, hb1⟩; obtain ⟨hc1, hf1⟩ := bcell hb1)
      | (go_at_call 115; refine (refName_any name _ h5).mono ?_; rintro e w' ⟨rfl, rfl⟩))
    go_ret
    exact ⟨by simp [check, *], ((Below.refl _ _).alloc (Nat.le_refl _) _).trans (hb1.mono (by simp))⟩
  have dsqb : decide (64 ≤ sq) = false := by simpa using k6
  have esq : wi sq 0 63 = true := by simp [wi]; omega
  by_cases k7 : kd < 0
  · have ekd : wi kd 0 64 = false := by simp [wi]; omega
    go_enter Tryz.func74, Tryz.ntmps74
    go_wp2_with (first
      | (go_at_call 114; refine (refZero_any hi lo _).mono ?_; rintro e w1 ⟨rfl, hb1⟩; obtain ⟨hc1, hf1⟩ := bcell hb1)
      | (go_at_call 115; refine (refName_any name _ h5).mono ?_; rintro e w' ⟨rfl, rfl⟩))
    go_ret
    exact ⟨by simp [check, *], ((Below.refl _ _).alloc (Nat.le_refl _) _).trans (hb1.mono (by simp))⟩
  have dkda : decide (kd < 0) = false := by simpa using k7
  by_cases k8 : 64 < kd
  · have ekd : wi kd 0 64 = false := by simp [wi]; omega
    go_enter Tryz.func74, Tryz.ntmps74
    go_wp2_with (first
      | (go_at_call 114; refine (refZero_any hi lo _).mono ?_; rintro e w1 ⟨rfl, hb1⟩; obtain ⟨hc1, hf1⟩ := bcell hb1)
      | (go_at_call 115; refine (refName_any name _ h5).mono ?_; rintro e w' ⟨rfl, rfl⟩))
    go_ret
    exact ⟨by simp [check, *], ((Below.refl _ _).alloc (Nat.le_refl _) _).trans (hb1.mono (by simp))⟩
  have dkdb : decide (64 < kd) = false := by simpa using k8
  have ekd : wi kd 0 64 = true := by simp [wi]; omega
  by_cases k9 : t0 < 0
  · have et0 : wi t0 0 1099511627776 = false := by simp [wi]; omega
    go_enter Tryz.func74, Tryz.ntmps74
    go_wp2_with (first
      | (go_at_call 114; refine (refZero_any hi lo _).mono ?_; rintro e w1 ⟨rfl, hb1⟩; obtain ⟨hc1, hf1⟩ := bcell hb1)
      | (go_at_call 115; refine (refName_any name _ h5).mono ?_; rintro e w' ⟨rfl, rfl⟩))
    go_ret
    exact ⟨by simp [check, *], ((Below.refl _ _).alloc (Nat.le_refl _) _).trans (hb1.mono (by simp))⟩
  have dt0a : decide (t0 < 0) = false := by simpa using k9
  by_cases k10 : 1099511627776 < t0
  · have et0 : wi t0 0 1099511627776 = false := by simp [wi]; omega
    go_enter Tryz.func74, Tryz.ntmps74
    go_wp2_with (first
      | (go_at_call 114; refine (refZero_any hi lo _).mono ?_; rintro e w1 ⟨rfl, hb1⟩; obtain ⟨hc1, hf1⟩ := bcell hb1)
      | (go_at_call 115; refine (refName_any name _ h5).mono ?_; rintro e w' ⟨rfl, rfl⟩))
    go_ret
    exact ⟨by simp [check, *], ((Below.refl _ _).alloc (Nat.le_refl _) _).trans (hb1.mono (by simp))⟩
  have dt0b : decide (1099511627776 < t0) = false := by simpa using k10
  have et0 : wi t0 0 1099511627776 = true := by simp [wi]; omega
  by_cases k11 : t1 < t0
  · have et1 : wi t1 t0 1099511627776 = false := by simp [wi]; omega
    go_enter Tryz.func74, Tryz.ntmps74
    go_wp2_with (first
      | (go_at_call 114; refine (refZero_any hi lo _).mono ?_; rintro e w1 ⟨rfl, hb1⟩; obtain ⟨hc1, hf1⟩ := bcell hb1)
      | (go_at_call 115; refine (refName_any name _ h5).mono ?_; rintro e w' ⟨rfl, rfl⟩))
    go_ret
    exact ⟨by simp [check, *], ((Below.refl _ _).alloc (Nat.le_refl _) _).trans (hb1.mono (by simp))⟩
  have dt1a : decide (t1 < t0) = false := by simpa using k11
  by_cases k12 : 1099511627776 < t1
  · have et1 : wi t1 t0 1099511627776 = false := by simp [wi]; omega
    go_enter Tryz.func74, Tryz.ntmps74
    go_wp2_with (first
      | (go_at_call 114; refine (refZero_any hi lo _).mono ?_; rintro e w1 ⟨rfl, hb1⟩; obtain ⟨hc1, hf1⟩ := bcell hb1)
      | (go_at_call 115; refine (refName_any name _ h5).mono ?_; rintro e w' ⟨rfl, rfl⟩))
    go_ret
    exact ⟨by simp [check, *], ((Below.refl _ _).alloc (Nat.le_refl _) _).trans (hb1.mono (by simp))⟩
  have dt1b : decide (1099511627776 < t1) = false := by simpa using k12
  have et1 : wi t1 t0 1099511627776 = true := by simp [wi]; omega
  go_enter Tryz.func74, Tryz.ntmps74
  go_wp2_with (first
    | (go_at_call 114; refine (refZero_any hi lo _).mono ?_; rintro e w1 ⟨rfl, hb1⟩; obtain ⟨hc1, hf1⟩ := bcell hb1)
    | (go_at_call 115; refine (refName_any name _ h5).mono ?_; rintro e w' ⟨rfl, rfl⟩))
  go_ret
  exact ⟨by simp [check, *], ((Below.refl _ _).alloc (Nat.le_refl _) _).trans (hb1.mono (by simp))⟩

end Go.Proofs.YtfbhdkkmcfnghaaGreat
end
