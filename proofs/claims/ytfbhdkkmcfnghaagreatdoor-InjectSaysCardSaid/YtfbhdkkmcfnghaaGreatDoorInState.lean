/- Walks of inject.Strip, state, Into, From. Conditions: a slice's own; texts no longer than an int32 can say; a variable of the library's holds an int. -/
import Derived.Test.YtfbhdkkmcfnghaaGreatDoorInLaw
import Derived.Test.YtfbhdkkmcfnghaaGreatDoorTsWrite
namespace Go.Proofs.YtfbhdkkmcfnghaaGreatDoor
open Go.RowKit
set_option linter.unusedVariables false

theorem hdGet_len {L : List Hd} {n : List UInt8} {c : Nat} (h : ∀ m ∈ L, m.2.length ≤ c) : ((hdGet L n).getD []).length ≤ c := by
  unfold hdGet
  cases hf : L.find? (fun h => h.1 == n) with
  | none => simp
  | some x => exact h x (List.mem_of_find?_eq_some hf)
theorem hdSet_mem {L : List Hd} {n v : List UInt8} {m : Hd} (h : m ∈ hdSet L n v) : m = (n, v) ∨ m ∈ L := by
  unfold hdSet at h
  split at h
  · rcases List.mem_append.1 h with h | h
    · exact .inr h
    · simp at h; exact .inl h
  · rcases List.mem_append.1 h with h | h
    · rcases List.mem_append.1 h with h | h
      · exact .inr (List.mem_of_mem_take h)
      · simp at h; exact .inl h
    · unfold hdKeep at h
      exact .inr (List.mem_of_mem_drop ((List.mem_filter.1 h).1))
theorem hdSet_len (L : List Hd) (n v : List UInt8) : (hdSet L n v).length ≤ L.length + 1 := by
  unfold hdSet
  split
  · simp
  · rename_i k _
    have := hdKeep_len (inNames [n]) (L.drop k)
    simp only [List.length_append, List.length_take, List.length_singleton, List.length_drop] at *
    omega
namespace In
theorem into_mem {L : List Hd} {p : Pr} {m : Hd} (h : m ∈ into L p) : m.2.length ≤ 64 ∨ m ∈ L := by
  unfold into at h
  obtain ⟨_, _, _, h64⟩ := state_some L p.sp
  have h55 := prText_len p
  generalize stText L p.sp = S at *
  generalize prText p = T at *
  rcases hdSet_mem h with h | h
  · rw [h]; exact .inl h64
  · rcases hdSet_mem h with h | h
    · rw [h]; exact .inl (by show T.length ≤ 64; omega)
    · exact .inr h
theorem into_size (L : List Hd) (p : Pr) : (into L p).length ≤ L.length + 2 := by
  unfold into
  have h1 := hdSet_len (hdSet L tp (prText p)) ts (stText L p.sp)
  have h2 := hdSet_len L tp (prText p)
  omega
/-- What Into gives. -/
def put (L : List Hd) (p : Pr) : List Hd := if prErr p = 0 then into L p else []
end In

theorem tp_bs : (⟨#[116, 114, 97, 99, 101, 112, 97, 114, 101, 110, 116]⟩ : ByteArray) = bs In.tp := rfl
theorem ts_bs : (⟨#[116, 114, 97, 99, 101, 115, 116, 97, 116, 101]⟩ : ByteArray) = bs In.ts := rfl

set_option maxHeartbeats 1000000 in
set_option maxRecDepth 100000 in
theorem inStrip_any (A : Option Addr) (cap : Nat) (L : List Hd) (w : World) (hS : SlR w 2 (.slice A L.length cap) (L.map Hd.cells)) (hn : L.length ≤ 1099511627776) :
    Calls Tryz.prog 15 #[.slice A L.length cap] w fun e w' => ∃ v, e = .returned v ∧ ORow w' w.heap.size v (In.strip L) ∧ Below w.heap.size w w' := by
  have HS := Stow.mk hS
  clear hS
  go_enter Tryz.func15, Tryz.ntmps15
  go_wp2_with fail
  refine (hdWithout_any [In.tp, In.ts] (some ⟨w.heap.size, 0, none⟩) 2 A cap L _ (names_made w [In.tp, In.ts] _ rfl (by unfold maxLen; simp)) (HS.out.alloc _) hn).mono ?_
  rintro e w1 ⟨v, rfl, hr, hb⟩
  go_wp2_with fail
  go_ret
  exact ⟨v, rfl, hr.base (by simp), Below.call (Below.alloc' (Below.self _) _) hb⟩

set_option maxHeartbeats 1000000 in
set_option maxRecDepth 100000 in
theorem inState_any (L : List Hd) (A : Option Addr) (cap : Nat) (x : Int) (sp : Nat) (hx : x = sp) (w : World) (hS : SlR w 2 (.slice A L.length cap) (L.map Hd.cells)) (hl : ((hdGet L In.ts).getD []).length ≤ 2147483647) (hsp : sp < 18446744073709551616) (hm : MaxIs w) :
    Calls Tryz.prog 35 #[.slice A L.length cap, .int .u64 x] w fun e w' => e = .returned (.string (bs (In.stText L sp))) ∧ Below w.heap.size w w' := by
  subst hx
  have HS := Stow.mk hS
  have HM := Stow.mk hm
  have K1 := fun W h => hdGet_any In.ts A cap L W h
  obtain ⟨M, hM⟩ : ∃ M, In.stMembers L sp = M := ⟨_, rfl⟩
  have HT : Stow (In.stText L sp = In.pick M M.length []) := ⟨by unfold In.stText; rw [hM]⟩
  have hck : Ts.check M = 0 := by rw [← hM]; exact In.members_check L sp
  unfold In.stMembers at hM
  obtain ⟨old, hold⟩ : ∃ o, (hdGet L In.ts).getD [] = o := ⟨_, rfl⟩
  rw [hold] at hM K1 hl
  obtain ⟨r, hr⟩ : ∃ r, Ts.read old = r := ⟨_, rfl⟩
  rw [hr] at hM
  have K3 := fun B c W h => tsPut_any In.mesh (In.hex 16 sp) B c r.1 W h (by decide) (by rw [In.hex_len]; omega)
  obtain ⟨q, hq⟩ : ∃ q, Ts.put r.1 In.mesh (In.hex 16 sp) = q := ⟨_, rfl⟩
  rw [hq] at hM K3
  subst hM
  have HR := Stow.mk hr
  simp only [← ts_bs] at K1
  have HK1 := Stow.mk K1
  have HK3 := Stow.mk K3
  have HCK := Stow.mk hck
  have hM32 : q.1.length ≤ 32 := (Ts.text_len0 hck).2.1
  obtain ⟨X, hX⟩ : ∃ X, In.hex 16 sp = X := ⟨_, rfl⟩
  have K2 := fun W => idsSpanText_any _ sp rfl W hsp
  rw [hX] at K2 HK3
  have HK2 := Stow.mk K2
  clear hS hm K1 K2 K3 hr hq hold hX hck
  go_enter Tryz.func35, Tryz.ntmps35
  go_wp2
  go_step3
  go_wp2_with fail
  refine (HK1.out _ HS.out).mono ?_
  rintro e w1 ⟨rfl, hb1⟩
  have HB1 := Stow.mk hb1
  clear hb1
  go_wp2_with fail
  refine (tsRead_any old _ hl (HM.out.keep HB1.out)).mono ?_
  unfold MembersOf
  rw [HR.out]
  rintro e w2 ⟨v2, rfl, hr2, hb2⟩
  have HB2 : Stow (Below w.heap.size w w2) := ⟨HB1.out.trans (hb2.mono HB1.out.size)⟩
  obtain ⟨A2, c2, rfl⟩ := hr2.form
  have HS2 := Stow.mk hr2.slr
  clear hb2 hr2
  go_wp2_with fail
  refine (HK2.out _).mono ?_
  rintro e w3 ⟨rfl, hb3⟩
  have HB3 : Stow (Below w.heap.size w w3) := ⟨HB2.out.trans (hb3.mono HB2.out.size)⟩
  have HS3 := Stow.mk (HS2.out.keep hb3)
  clear hb3
  go_wp2_with fail
  refine (HK3.out _ _ _ HS3.out).mono ?_
  unfold MembersOf
  rintro e w4 ⟨v4, rfl, hr4, hb4⟩
  have HB4 : Stow (Below w.heap.size w w4) := ⟨HB3.out.trans (hb4.mono HB3.out.size)⟩
  obtain ⟨A4, c4, rfl⟩ := hr4.form
  have HS4 := Stow.mk hr4.slr
  have hc4 : q.1.length ≤ c4 := by
    obtain ⟨_, _, he, hcap, _⟩ := hr4.slr.form
    simp only [Value.slice.injEq, List.length_map] at he hcap
    omega
  clear hb4 hr4
  go_wp2; go_step3; go_wp2
  go_loopw [9, 10] (fun m v wr => ∃ n t, v = .int .i64 (n : Nat) ∧ m = .string (bs t) ∧ n ≤ q.1.length ∧ Stow (In.pick q.1 n t = In.stText L sp) ∧ Below w4.heap.size w4 wr) (fun _ v _ => (intOf v).toNat)
  case atStart => exact ⟨q.1.length, [], rfl, rfl, Nat.le_refl _, ⟨HT.out.symm⟩, Below.self _⟩
  case round =>
    obtain ⟨n, t, rfl, rfl, hn, HJ, hbr⟩ := hrel
    have HBR := Stow.mk hbr
    clear hbr
    cases n with
    | zero =>
      have HE : Stow (t = In.stText L sp) := ⟨HJ.out⟩
      go_wp2_with fail
      (simp +zetaDelta only [Exit.noGoto_ret]; go_ret)
      exact ⟨by rw [HE.out]; rfl, HB4.out.trans (HBR.out.mono HB4.out.size)⟩
    | succ k =>
      have hin : (0 : Int) ≤ (k : Int) + 1 ∧ (k : Int) + 1 ≤ c4 := ⟨by omega, by omega⟩
      have hw := In.write_take HCK.out (k + 1)
      have KW := fun W h => tsWrite_any A4 c4 (q.1.take (k + 1)) W h (fun m hm => by have := (Ts.text_len0 (In.take_check HCK.out (k + 1))).2.2 m hm; exact ⟨by unfold maxLen; omega, by unfold maxLen; omega⟩)
      have htl := (Ts.text_len0 (In.take_check HCK.out (k + 1))).1
      rw [List.length_take, Nat.min_eq_left hn] at KW htl
      have hj := HJ.out
      unfold In.pick at hj
      obtain ⟨z, hz⟩ : ∃ z, Ts.write (q.1.take (k + 1)) = z := ⟨_, rfl⟩
      rw [hz] at hj KW hw
      rw [← hw] at htl
      have HKW := Stow.mk KW
      have HS5 : Stow (SlR _ 2 (.slice A4 (k + 1) c4) ((q.1.take (k + 1)).map Hd.cells)) := ⟨by
        have := (HS4.out.keep HBR.out).take (k + 1) (by rw [List.length_map]; exact hn)
        rw [← List.map_take] at this
        exact this⟩
      by_cases h64 : z.1.length ≤ 64
      · rw [if_pos h64] at hj
        have HE := Stow.mk hj
        clear hj hw KW hz
        go_wp2_with fail
        refine (HKW.out _ HS5.out).mono ?_
        rintro e w6 ⟨rfl, hb6⟩
        have HB6 : Stow (Below w.heap.size w w6) := ⟨HB4.out.trans (Below.mono (HBR.out.trans (hb6.mono HBR.out.size)) HB4.out.size)⟩
        clear hb6
        go_wp2_with fail
        (simp +zetaDelta only [Exit.noGoto_ret]; go_ret)
        exact ⟨by rw [HE.out]; rfl, HB6.out⟩
      · rw [if_neg h64] at hj
        have HE := Stow.mk hj
        clear hj hw KW hz
        go_wp2_with fail
        refine (HKW.out _ HS5.out).mono ?_
        rintro e w6 ⟨rfl, hb6⟩
        have HB6 : Stow (Below w4.heap.size w4 w6) := ⟨HBR.out.trans (hb6.mono HBR.out.size)⟩
        clear hb6
        go_wp2_with fail
        exact ⟨⟨k, z.1, rfl, rfl, by omega, HE, HB6.out⟩, by simp [intOf]⟩

theorem in_into_box (w : World) (p : Pr) : Stow (∀ W, Below (w.alloc (.cells #[.int .u64 p.hi, .int .u64 p.lo, .int .u64 p.sp, .int .i64 p.fl] 27)).heap.size (w.alloc (.cells #[.int .u64 p.hi, .int .u64 p.lo, .int .u64 p.sp, .int .i64 p.fl] 27)) W →
    Held W w.heap.size [.int .u64 p.hi, .int .u64 p.lo, .int .u64 p.sp, .int .i64 p.fl] ∧ Below w.heap.size w W) :=
  ⟨fun W hb => ⟨(Held.made w [.int .u64 p.hi, .int .u64 p.lo, .int .u64 p.sp, .int .i64 p.fl] _).kept hb, Below.call (Below.alloc' (Below.self _) _) hb⟩⟩

set_option maxHeartbeats 1000000 in
set_option maxRecDepth 100000 in
theorem inInto_any (L : List Hd) (A : Option Addr) (cap : Nat) (p : Pr) (w : World) (hS : SlR w 2 (.slice A L.length cap) (L.map Hd.cells)) (hn : L.length ≤ 1000) (hl : ∀ m ∈ L, m.2.length ≤ 400) (hf : In.Pr.fits p) (hm : MaxIs w) :
    Calls Tryz.prog 10 #[.slice A L.length cap, p.val] w fun e w' => ∃ v, e = .returned (.tuple #[v, .int .i64 (In.prErr p : Nat)]) ∧ ORow w' w.heap.size v (In.put L p) ∧ Below w.heap.size w w' := by
  have HS := Stow.mk hS
  have HM := Stow.mk hm
  have HX := in_into_box w p
  have K1 := fun W => parWrite_any p W hf
  obtain ⟨er, he⟩ : ∃ er, In.prErr p = er := ⟨_, rfl⟩
  by_cases h0 : er = 0
  rotate_left
  · have HP : Stow (In.put L p = []) := ⟨by unfold In.put; rw [if_neg (by rw [he]; exact h0)]⟩
    have h0i : ((er : Int) != 0) = true := by rw [bne_iff_ne]; omega
    rw [he] at K1
    have HK1 := Stow.mk K1
    have HE := Stow.mk he
    clear K1 hS hm hf he
    obtain ⟨hi, lo, sp, fl⟩ := p
    unfold Pr.val
    simp only at HK1 HX ⊢
    go_enter Tryz.func10, Tryz.ntmps10
    go_wp2_with fail
    refine (HK1.out _).mono ?_
    rintro e w1 ⟨rfl, hb1⟩
    obtain ⟨hH, hB⟩ := HX.out w1 hb1
    have HB1 := Stow.mk hB
    clear hb1 hH hB
    go_wp2_with fail
    go_ret2
    exact ⟨.slice none 0 0, by rw [HE.out]; rfl, by rw [HP.out]; exact ORow.nil _ _, HB1.out⟩
  subst h0
  have hpt : In.prWrite p = In.prText p := by unfold In.prWrite; rw [if_pos he]
  have HP : Stow (In.put L p = hdSet (hdSet L In.tp (In.prText p)) In.ts (In.stText L p.sp)) := ⟨by unfold In.put; rw [if_pos he]; rfl⟩
  rw [he, hpt] at K1
  obtain ⟨T, hT⟩ : ∃ T, In.prText p = T := ⟨_, rfl⟩
  rw [hT] at K1 HP
  have h3 := hf.sp
  have K2 := fun W h => hdSet_any In.tp T A cap L W h (by omega)
  have K3 := fun W h1 h2 => inState_any L A cap _ p.sp rfl W h1 (by have := hdGet_len (n := In.ts) hl; omega) h3 h2
  obtain ⟨S, hSt⟩ : ∃ S, In.stText L p.sp = S := ⟨_, rfl⟩
  rw [hSt] at K3 HP
  have hle := hdSet_len L In.tp T
  obtain ⟨Y, hY⟩ : ∃ Y, hdSet L In.tp T = Y := ⟨_, rfl⟩
  rw [hY] at K2 HP hle
  have K4 := fun B c W h => hdSet_any In.ts S B c Y W h (by omega)
  simp only [← tp_bs] at K2
  simp only [← ts_bs] at K4
  have HK1 := Stow.mk K1
  have HK2 := Stow.mk K2
  have HK3 := Stow.mk K3
  have HK4 := Stow.mk K4
  have HE := Stow.mk he
  clear K1 K2 K3 K4 hS hm hf he hpt hT hSt hY h3 hle
  obtain ⟨hi, lo, sp, fl⟩ := p
  unfold Pr.val
  simp only at HK1 HK3 HX HP ⊢
  go_enter Tryz.func10, Tryz.ntmps10
  go_wp2_with fail
  refine (HK1.out _).mono ?_
  rintro e w1 ⟨rfl, hb1⟩
  obtain ⟨hH1, hB1⟩ := HX.out w1 hb1
  have HH1 := Stow.mk hH1
  have HB1 := Stow.mk hB1
  clear hb1 hH1 hB1
  go_wp2_with fail
  refine (HK2.out _ (HS.out.keep HB1.out)).mono ?_
  rintro e w2 ⟨v2, rfl, hr2, hb2⟩
  obtain ⟨A2, c2, rfl⟩ := hr2.form
  have HB2 : Stow (Below w.heap.size w w2) := ⟨HB1.out.trans (hb2.mono HB1.out.size)⟩
  have hH2 := HH1.out.kept hb2
  have HR2 := Stow.mk hr2
  clear hb2 hr2
  have q0 := hH2.cell (i := 0) rfl
  have q1 := hH2.cell (i := 1) rfl
  have q2 := hH2.cell (i := 2) rfl
  have q3 := hH2.cell (i := 3) rfl
  clear hH2
  go_wp2_with fail
  refine (HK3.out _ (HS.out.keep HB2.out) (HM.out.keep HB2.out)).mono ?_
  rintro e w3 ⟨rfl, hb3⟩
  have HB3 : Stow (Below w.heap.size w w3) := ⟨HB2.out.trans (hb3.mono HB2.out.size)⟩
  have HS3 := Stow.mk (HR2.out.kept hb3).slr
  clear hb3 q0 q1 q2 q3
  go_wp2_with fail
  refine (HK4.out _ _ _ HS3.out).mono ?_
  rintro e w4 ⟨v4, rfl, hr4, hb4⟩
  have HB4 : Stow (Below w.heap.size w w4) := ⟨HB3.out.trans (hb4.mono HB3.out.size)⟩
  go_wp2_with fail
  go_ret2
  exact ⟨v4, by rw [HE.out]; rfl, by rw [HP.out]; exact hr4.base HB3.out.size, HB4.out⟩

theorem inFrom_results (W : World) (g : Nat) (a b c d : Value) (n : Int) (tmps : Array Value) (hH : Held W g [a, b, c, d]) (h2 : tmps[2]?.getD undef = .pointer (some ⟨g, 0, none⟩)) (h3 : tmps[3]?.getD undef = .int .i64 n) :
    (results Tryz.f12 tmps).run Tryz.prog W = .ok (.tuple #[.agg #[a, b, c, d], .int .i64 n]) W := by
  have c0 := hH.cell (i := 0) rfl
  have c1 := hH.cell (i := 1) rfl
  have c2 := hH.cell (i := 2) rfl
  have c3 := hH.cell (i := 3) rfl
  simp [results, Tryz.results12, go_sem, h2, h3, c0, c1, c2, c3]

set_option maxHeartbeats 1000000 in
set_option maxRecDepth 100000 in
theorem inFrom_any (L : List Hd) (A : Option Addr) (cap : Nat) (w : World) (hS : SlR w 2 (.slice A L.length cap) (L.map Hd.cells)) (hl : ∀ m ∈ L, m.2.length ≤ 140737488355328) :
    Calls Tryz.prog 12 #[.slice A L.length cap] w fun e w' => e = .returned (.tuple #[(In.from_ L).1.val, .int .i64 ((In.from_ L).2 : Nat)]) ∧ Below w.heap.size w w' := by
  have HS := Stow.mk hS
  have K1 := fun W h => hdGet_any In.tp A cap L W h
  simp only [← tp_bs] at K1
  have hlen := hdGet_len (n := In.tp) hl
  unfold In.from_
  obtain ⟨o, ho⟩ : ∃ o, hdGet L In.tp = o := ⟨_, rfl⟩
  simp only [ho] at K1 hlen ⊢
  have HK1 := Stow.mk K1
  clear K1 hS ho
  have hM := Held.made w [.int .u64 0, .int .u64 0, .int .u64 0, .int .i64 0] 27
  have HM : Stow (∀ W, Below (w.alloc (.cells #[.int .u64 0, .int .u64 0, .int .u64 0, .int .i64 0] 27)).heap.size (w.alloc (.cells #[.int .u64 0, .int .u64 0, .int .u64 0, .int .i64 0] 27)) W → Held W w.heap.size [.int .u64 0, .int .u64 0, .int .u64 0, .int .i64 0] ∧ Below w.heap.size w W) := ⟨fun W hb => ⟨hM.kept hb, Below.call (Below.alloc' (Below.self _) _) hb⟩⟩
  clear hM
  cases o with
  | none =>
    simp only [Option.getD_none, Option.isSome_none] at HK1 ⊢
    unfold Pr.val In.zero
    go_enter Tryz.func12, Tryz.ntmps12
    go_wp2_with fail
    refine (HK1.out _ (HS.out.alloc _)).mono ?_
    rintro e w1 ⟨rfl, hb1⟩
    obtain ⟨hH, hB⟩ := HM.out w1 hb1
    have HH := Stow.mk hH
    have HB := Stow.mk hB
    have r0 := Held.cell hH (i := 0) rfl
    have r1 := Held.cell hH (i := 1) rfl
    have r2 := Held.cell hH (i := 2) rfl
    have r3 := Held.cell hH (i := 3) rfl
    have f0 := Held.free hH 0
    have f1 := Held.free hH 1
    have f2 := Held.free hH 2
    have f3 := Held.free hH 3
    have hlt := Held.lt hH
    clear hb1 hH hB
    go_wp2_with fail
    refine bodyPost_ret (inFrom_results _ w.heap.size (.int .u64 0) (.int .u64 0) (.int .u64 0) (.int .i64 0) 9 _ ((((HH.out.set 0 _).set 1 _).set 2 _).set 3 _) rfl rfl) rfl ?_
    exact ⟨rfl, below_set4 HB.out (Nat.le_refl _) _ _ _ _⟩
  | some t =>
    simp only [Option.getD_some, Option.isSome_some] at HK1 hlen ⊢
    have K2 := fun W => parRead_any t W (by omega)
    obtain ⟨z, hz⟩ : ∃ z, In.prRead t = z := ⟨_, rfl⟩
    simp only [hz] at K2 ⊢
    have HK2 := Stow.mk K2
    clear K2 hz
    obtain ⟨⟨hi, lo, sp, fl⟩, er⟩ := z
    unfold Pr.val at *
    simp only at HK2 ⊢
    go_enter Tryz.func12, Tryz.ntmps12
    go_wp2_with fail
    refine (HK1.out _ (HS.out.alloc _)).mono ?_
    rintro e w1 ⟨rfl, hb1⟩
    obtain ⟨hH, hB⟩ := HM.out w1 hb1
    have HH := Stow.mk hH
    have HB := Stow.mk hB
    clear hb1 hH hB
    go_wp2_with fail
    refine (HK2.out _).mono ?_
    rintro e w2 ⟨rfl, hb2⟩
    have HH2 := Stow.mk (HH.out.kept hb2)
    have HB2 : Stow (Below w.heap.size w w2) := ⟨HB.out.trans (hb2.mono HB.out.size)⟩
    clear hb2
    have hH := HH2.out
    have r0 := Held.cell hH (i := 0) rfl
    have r1 := Held.cell hH (i := 1) rfl
    have r2 := Held.cell hH (i := 2) rfl
    have r3 := Held.cell hH (i := 3) rfl
    have f0 := Held.free hH 0
    have f1 := Held.free hH 1
    have f2 := Held.free hH 2
    have f3 := Held.free hH 3
    have hlt := Held.lt hH
    clear hH
    go_wp2_with fail
    refine bodyPost_ret (inFrom_results _ w.heap.size (.int .u64 hi) (.int .u64 lo) (.int .u64 sp) (.int .i64 fl) er _ ((((HH2.out.set 0 _).set 1 _).set 2 _).set 3 _) rfl rfl) rfl ?_
    exact ⟨rfl, below_set4 HB2.out (Nat.le_refl _) _ _ _ _⟩
end Go.Proofs.YtfbhdkkmcfnghaaGreatDoor
