/- Walk of pred.Check. Condition: the texts' lengths. -/
import Derived.Test.YtfbhdkkmcfnghaaGreatDoorPdCheck
namespace Go.Proofs.YtfbhdkkmcfnghaaGreatDoor
open Go.RowKit
set_option linter.unusedVariables false
set_option linter.unusedSimpArgs false

set_option maxHeartbeats 1000000 in
set_option maxRecDepth 100000 in
theorem pdAsked_any (m h p : List UInt8) (w : World) (hq : (Rq.mk m h p [] []).fits) : Calls Tryz.prog 213 #[.agg #[.string (bs m), .string (bs h), .string (bs p), .slice none 0 0, .string (bs [])]] w fun e w' => e = .returned (.int .i64 (Ms.check ⟨m, h, p, [], []⟩ : Nat)) ∧ Below w.heap.size w w' := by
  have HB := Stow.mk (Below.alloc' (Below.self w) (.cells #[.string (bs m), .string (bs h), .string (bs p), .slice none 0 0, .string (bs [])] 242))
  have HC := Stow.mk (fun W => msCheck_any ⟨m, h, p, [], []⟩ none 0 W ⟨SlR.nil _ _, by simp⟩ hq)
  unfold Rq.val at HC
  clear hq
  go_enter Tryz.func213, Tryz.ntmps213
  go_wp2_with fail
  refine (HC.out _).mono ?_
  rintro e w1 ⟨rfl, hb1⟩
  have HB1 := Stow.mk (HB.out.trans (hb1.mono HB.out.size))
  clear hb1
  go_wp2_with fail
  go_ret
  exact ⟨rfl, HB1.out⟩
set_option maxHeartbeats 1000000 in
set_option maxRecDepth 100000 in
theorem pdMethod_any (s : List UInt8) (w : World) (hs : s.length ≤ 140737488355328) : Calls Tryz.prog 212 #[.string (bs s)] w fun e w' => e = .returned (.int .i64 (Pd.chk 1 s : Nat)) ∧ Below w.heap.size w w' := by
  have l1 : (⟨#[97]⟩ : ByteArray) = bs [97] := rfl
  have l2 : (⟨#[47]⟩ : ByteArray) = bs [47] := rfl
  have HA := Stow.mk (pdAsked_any s [97] [47] w ⟨by simp; omega, by simp, by simp, by simp⟩)
  have HE : Stow (Ms.check ⟨s, [97], [47], [], []⟩ = Pd.chk 1 s) := ⟨by
    have h1 : nameOk [97] = true := by decide +kernel
    have h2 : Ms.pathOk [47] = true := by decide +kernel
    unfold Ms.check Pd.chk
    simp [h1, h2, Ms.tailErr, Ms.headsErr, Ms.hdErr]⟩
  rw [HE.out] at HA
  go_enter Tryz.func212, Tryz.ntmps212
  go_wp2_with fail
  refine HA.out.mono ?_
  rintro e w1 ⟨rfl, hb1⟩
  have HB1 := Stow.mk hb1
  clear hb1
  go_wp2_with fail
  go_ret
  exact ⟨rfl, HB1.out⟩
set_option maxHeartbeats 1000000 in
set_option maxRecDepth 100000 in
theorem pdPath_any (k : Int) (hk : k = 3 ∨ k = 4) (s : List UInt8) (w : World) (hs : s.length ≤ 140737488355328) : Calls Tryz.prog 214 #[.string (bs s)] w fun e w' => e = .returned (.int .i64 (Pd.chk k s : Nat)) ∧ Below w.heap.size w w' := by
  have l1 : (⟨#[97]⟩ : ByteArray) = bs [97] := rfl
  have l2 : (⟨#[65]⟩ : ByteArray) = bs [65] := rfl
  have HA := Stow.mk (pdAsked_any [65] [97] s w ⟨by simp, by simp, by simp; omega, by simp⟩)
  have HE : Stow (Ms.check ⟨[65], [97], s, [], []⟩ = Pd.chk k s) := ⟨by
    have h1 : nameOk [97] = true := by decide +kernel
    have h2 : Ms.methodOk [65] = true := by decide +kernel
    unfold Ms.check Pd.chk
    rcases hk with rfl | rfl <;> simp [h1, h2, Ms.tailErr, Ms.headsErr, Ms.hdErr]⟩
  rw [HE.out] at HA
  go_enter Tryz.func214, Tryz.ntmps214
  go_wp2_with fail
  refine HA.out.mono ?_
  rintro e w1 ⟨rfl, hb1⟩
  have HB1 := Stow.mk hb1
  clear hb1
  go_wp2_with fail
  go_ret
  exact ⟨rfl, HB1.out⟩
set_option maxHeartbeats 1000000 in
set_option maxRecDepth 100000 in
theorem pdFree_any (s : List UInt8) (w : World) : Calls Tryz.prog 224 #[.string (bs s)] w fun e w' => e = .returned (.int .i64 0) ∧ w' = w := by
  go_enter Tryz.func224, Tryz.ntmps224
  go_wp2_with fail
  go_ret
  exact ⟨rfl, rfl⟩
set_option maxHeartbeats 1000000 in
set_option maxRecDepth 100000 in
theorem pdWhenFn_any (K x y : Nat) (n : Int) (b : Bool) (s : List UInt8) (w : World) (hcf : ∀ (args : Array Value) (w : World), (callFunc K args).run Tryz.prog w = .ok (.enter K args) w) (hx : Held w x [.func (.func K) #[] #[]]) (hy : Held w y [.int .i64 n]) (hf : Calls Tryz.prog K #[.string (bs s)] w fun e w' => e = .returned (.bool b) ∧ w' = w) :
    Calls Tryz.prog 241 #[.string (bs s), .pointer (some ⟨x, 0, none⟩), .pointer (some ⟨y, 0, none⟩)] w fun e w' => e = .returned (.int .i64 (if b then 0 else n)) ∧ w' = w := by
  have HF := Stow.mk hf
  have cx := hx.cell (i := 0) rfl
  have cy := hy.cell (i := 0) rfl
  clear hf hx hy
  cases b with
  | false =>
    go_enter Tryz.func241, Tryz.ntmps241
    go_wp2_with fail
    refine HF.out.mono ?_
    rintro e w1 ⟨rfl, rfl⟩
    go_wp2_with fail
    go_ret
    exact ⟨rfl, rfl⟩
  | true =>
    go_enter Tryz.func241, Tryz.ntmps241
    go_wp2_with fail
    refine HF.out.mono ?_
    rintro e w1 ⟨rfl, rfl⟩
    go_wp2_with fail
    go_ret
    exact ⟨rfl, rfl⟩
theorem pdHost_any (x y : Nat) (v : List UInt8) (w : World) (hv : v.length ≤ 140737488355328) (hx : Held w x [(.func (.func 155) #[] #[])]) (hy : Held w y [.int .i64 7]) : Calls Tryz.prog 241 #[.string (bs v), .pointer (some ⟨x, 0, none⟩), .pointer (some ⟨y, 0, none⟩)] w fun e w' => e = .returned (.int .i64 (Pd.chk 2 v : Nat)) ∧ Below w.heap.size w w' := by
  have hcf := enters_of Tryz.func155 (by kernel_rfl) rfl
  refine (pdWhenFn_any 155 x y 7 (nameOk v) v w hcf hx hy (name_any v w (by omega))).mono fun e w' ⟨h1, h2⟩ => ⟨?_, h2 ▸ Below.self _⟩
  rw [h1]
  cases h : nameOk v <;> simp [Pd.chk, h]
theorem pdVal_any (x y : Nat) (v : List UInt8) (w : World) (hv : v.length ≤ 140737488355328) (hx : Held w x [(.func (.func 221) #[] #[])]) (hy : Held w y [.int .i64 15]) : Calls Tryz.prog 241 #[.string (bs v), .pointer (some ⟨x, 0, none⟩), .pointer (some ⟨y, 0, none⟩)] w fun e w' => e = .returned (.int .i64 (Pd.chk 5 v : Nat)) ∧ Below w.heap.size w w' := by
  have hcf := enters_of Tryz.func221 (by kernel_rfl) rfl
  refine (pdWhenFn_any 221 x y 15 (Ms.valueOk v) v w hcf hx hy (value_any v w (by omega))).mono fun e w' ⟨h1, h2⟩ => ⟨?_, h2 ▸ Below.self _⟩
  rw [h1]
  cases h : Ms.valueOk v <;> simp [Pd.chk, h]
set_option maxHeartbeats 2000000 in
set_option maxRecDepth 100000 in
theorem pdCheck_1 (n v : List UInt8) (w : World) (hn : n.length ≤ 140737488355328) (hv : v.length ≤ 140737488355328) : Calls Tryz.prog 116 #[.agg #[.int .i64 1, .string (bs n), .string (bs v)]] w fun e w' => e = .returned (.int .i64 ((Pd.mk 1 n v).err : Nat)) ∧ Below w.heap.size w w' := by
  rcases n with _ | ⟨c0, n0⟩
  · have HER : Stow ((Pd.mk 1 [] v).err = Pd.chk 1 v) := ⟨by simp [Pd.err, Pd.named, Pd.valued]⟩
    have hp0 := Held.made w [.int .i64 1, .string (bs []), .string (bs v)] 98
    have hbp := Below.alloc' (Below.self w) (.cells #[.int .i64 1, .string (bs []), .string (bs v)] 98)
    have HP := Stow.mk hp0
    have HBP := Stow.mk hbp
    have HO := Stow.mk (pdOf_1 (w.alloc (.cells #[.int .i64 1, .string (bs []), .string (bs v)] 98)))
    unfold OfOut at HO
    clear hp0 hbp
    go_enter Tryz.func116, Tryz.ntmps116
    go_wp2_with fail
    refine HO.out.mono ?_
    rintro e w1 ⟨x, y, z, u, rfl, hx, hy, hz, hu, hb1⟩
    have bz := Below.alloc' (Below.self w1) (.cells #[.bool false, .bool false, .nilFunc, .nilFunc] 188)
    have hZ := Held.made w1 [.bool false, .bool false, .nilFunc, .nilFunc] 188
    have hO := only_all (g := w1.heap.size) [.bool false, .bool true, (.func (.func 212) #[] #[]), (.func (.func 215) #[] #[])] (w1.alloc (.cells #[.bool false, .bool false, .nilFunc, .nilFunc] 188)) 0
    have hbz := bz.trans (hO.below (Nat.le_refl _) bz.size)
    have HT := Stow.mk (show (w1.alloc (.cells #[.bool false, .bool false, .nilFunc, .nilFunc] 188)).there w1.heap.size 0 [Value.bool false, .bool true, (.func (.func 212) #[] #[]), (.func (.func 215) #[] #[])].length from hZ.there)
    have HK := Stow.mk (hZ.over [.bool false, .bool true, (.func (.func 212) #[] #[]), (.func (.func 215) #[] #[])] rfl)
    have HXX := Stow.mk (hx.kept hbz)
    have HYY := Stow.mk (hy.kept hbz)
    have HZZ := Stow.mk (hz.kept hbz)
    have HUU := Stow.mk (hu.kept hbz)
    have HP := Stow.mk ((HP.out.kept hb1).kept hbz)
    have HB := Stow.mk (HBP.out.trans ((hb1.trans (hbz.mono hb1.size)).mono HBP.out.size))
    clear hx hy hz hu hb1 bz hZ hO hbz HO HBP
    go_upto_region 2 with (refine wpList_store_lit 188 (.tmp 3) (.tmp 9) w1.heap.size 0 [.bool false, .bool true, (.func (.func 212) #[] #[]), (.func (.func 215) #[] #[])] ?_ ?_ ?_ ?_ ?_ ?_; exact rfl; exact rfl; exact HT.out; kernel_rfl; (intro v hv; simp at hv; rcases hv with rfl | rfl | rfl | rfl <;> rfl))
    generalize (w1.alloc (.cells #[.bool false, .bool false, .nilFunc, .nilFunc] 188)).setCells w1.heap.size 0 [.bool false, .bool true, (.func (.func 212) #[] #[]), (.func (.func 215) #[] #[])] = w2 at HK HXX HYY HZZ HUU HP HB ⊢
    clear HT
    have p0 := HP.out.cell (i := 0) rfl
    have p1 := HP.out.cell (i := 1) rfl
    have p2 := HP.out.cell (i := 2) rfl
    have k0 := HK.out.cell (i := 0) rfl
    have k1 := HK.out.cell (i := 1) rfl
    have k2 := HK.out.cell (i := 2) rfl
    go_wp2_with fail
    refine (pdMethod_any v _ hv).mono ?_
    rintro e w3 ⟨rfl, hb3⟩
    have HB3 := Stow.mk (HB.out.trans (hb3.mono HB.out.size))
    clear hb3
    go_wp2_with fail
    go_ret
    exact ⟨by rw [HER.out]; rfl, HB3.out⟩
  · have HER : Stow ((Pd.mk 1 (c0 :: n0) v).err = 2) := ⟨by simp [Pd.err, Pd.named]⟩
    have hp0 := Held.made w [.int .i64 1, .string (bs (c0 :: n0)), .string (bs v)] 98
    have hbp := Below.alloc' (Below.self w) (.cells #[.int .i64 1, .string (bs (c0 :: n0)), .string (bs v)] 98)
    have HP := Stow.mk hp0
    have HBP := Stow.mk hbp
    have HO := Stow.mk (pdOf_1 (w.alloc (.cells #[.int .i64 1, .string (bs (c0 :: n0)), .string (bs v)] 98)))
    unfold OfOut at HO
    clear hp0 hbp
    go_enter Tryz.func116, Tryz.ntmps116
    go_wp2_with fail
    refine HO.out.mono ?_
    rintro e w1 ⟨x, y, z, u, rfl, hx, hy, hz, hu, hb1⟩
    have bz := Below.alloc' (Below.self w1) (.cells #[.bool false, .bool false, .nilFunc, .nilFunc] 188)
    have hZ := Held.made w1 [.bool false, .bool false, .nilFunc, .nilFunc] 188
    have hO := only_all (g := w1.heap.size) [.bool false, .bool true, (.func (.func 212) #[] #[]), (.func (.func 215) #[] #[])] (w1.alloc (.cells #[.bool false, .bool false, .nilFunc, .nilFunc] 188)) 0
    have hbz := bz.trans (hO.below (Nat.le_refl _) bz.size)
    have HT := Stow.mk (show (w1.alloc (.cells #[.bool false, .bool false, .nilFunc, .nilFunc] 188)).there w1.heap.size 0 [Value.bool false, .bool true, (.func (.func 212) #[] #[]), (.func (.func 215) #[] #[])].length from hZ.there)
    have HK := Stow.mk (hZ.over [.bool false, .bool true, (.func (.func 212) #[] #[]), (.func (.func 215) #[] #[])] rfl)
    have HXX := Stow.mk (hx.kept hbz)
    have HYY := Stow.mk (hy.kept hbz)
    have HZZ := Stow.mk (hz.kept hbz)
    have HUU := Stow.mk (hu.kept hbz)
    have HP := Stow.mk ((HP.out.kept hb1).kept hbz)
    have HB := Stow.mk (HBP.out.trans ((hb1.trans (hbz.mono hb1.size)).mono HBP.out.size))
    clear hx hy hz hu hb1 bz hZ hO hbz HO HBP
    go_upto_region 2 with (refine wpList_store_lit 188 (.tmp 3) (.tmp 9) w1.heap.size 0 [.bool false, .bool true, (.func (.func 212) #[] #[]), (.func (.func 215) #[] #[])] ?_ ?_ ?_ ?_ ?_ ?_; exact rfl; exact rfl; exact HT.out; kernel_rfl; (intro v hv; simp at hv; rcases hv with rfl | rfl | rfl | rfl <;> rfl))
    generalize (w1.alloc (.cells #[.bool false, .bool false, .nilFunc, .nilFunc] 188)).setCells w1.heap.size 0 [.bool false, .bool true, (.func (.func 212) #[] #[]), (.func (.func 215) #[] #[])] = w2 at HK HXX HYY HZZ HUU HP HB ⊢
    clear HT
    have p0 := HP.out.cell (i := 0) rfl
    have p1 := HP.out.cell (i := 1) rfl
    have p2 := HP.out.cell (i := 2) rfl
    have k0 := HK.out.cell (i := 0) rfl
    have k1 := HK.out.cell (i := 1) rfl
    have k2 := HK.out.cell (i := 2) rfl
    go_wp2_with fail
    go_ret
    exact ⟨by rw [HER.out]; rfl, HB.out⟩
set_option maxHeartbeats 2000000 in
set_option maxRecDepth 100000 in
theorem pdCheck_3 (n v : List UInt8) (w : World) (hn : n.length ≤ 140737488355328) (hv : v.length ≤ 140737488355328) : Calls Tryz.prog 116 #[.agg #[.int .i64 3, .string (bs n), .string (bs v)]] w fun e w' => e = .returned (.int .i64 ((Pd.mk 3 n v).err : Nat)) ∧ Below w.heap.size w w' := by
  rcases n with _ | ⟨c0, n0⟩
  · have HER : Stow ((Pd.mk 3 [] v).err = Pd.chk 3 v) := ⟨by simp [Pd.err, Pd.named, Pd.valued]⟩
    have hp0 := Held.made w [.int .i64 3, .string (bs []), .string (bs v)] 98
    have hbp := Below.alloc' (Below.self w) (.cells #[.int .i64 3, .string (bs []), .string (bs v)] 98)
    have HP := Stow.mk hp0
    have HBP := Stow.mk hbp
    have HO := Stow.mk (pdOf_3 (w.alloc (.cells #[.int .i64 3, .string (bs []), .string (bs v)] 98)))
    unfold OfOut at HO
    clear hp0 hbp
    go_enter Tryz.func116, Tryz.ntmps116
    go_wp2_with fail
    refine HO.out.mono ?_
    rintro e w1 ⟨x, y, z, u, rfl, hx, hy, hz, hu, hb1⟩
    have bz := Below.alloc' (Below.self w1) (.cells #[.bool false, .bool false, .nilFunc, .nilFunc] 188)
    have hZ := Held.made w1 [.bool false, .bool false, .nilFunc, .nilFunc] 188
    have hO := only_all (g := w1.heap.size) [.bool false, .bool true, (.func (.func 214) #[] #[]), (.func (.func 218) #[] #[])] (w1.alloc (.cells #[.bool false, .bool false, .nilFunc, .nilFunc] 188)) 0
    have hbz := bz.trans (hO.below (Nat.le_refl _) bz.size)
    have HT := Stow.mk (show (w1.alloc (.cells #[.bool false, .bool false, .nilFunc, .nilFunc] 188)).there w1.heap.size 0 [Value.bool false, .bool true, (.func (.func 214) #[] #[]), (.func (.func 218) #[] #[])].length from hZ.there)
    have HK := Stow.mk (hZ.over [.bool false, .bool true, (.func (.func 214) #[] #[]), (.func (.func 218) #[] #[])] rfl)
    have HXX := Stow.mk (hx.kept hbz)
    have HYY := Stow.mk (hy.kept hbz)
    have HZZ := Stow.mk (hz.kept hbz)
    have HUU := Stow.mk (hu.kept hbz)
    have HP := Stow.mk ((HP.out.kept hb1).kept hbz)
    have HB := Stow.mk (HBP.out.trans ((hb1.trans (hbz.mono hb1.size)).mono HBP.out.size))
    clear hx hy hz hu hb1 bz hZ hO hbz HO HBP
    go_upto_region 2 with (refine wpList_store_lit 188 (.tmp 3) (.tmp 9) w1.heap.size 0 [.bool false, .bool true, (.func (.func 214) #[] #[]), (.func (.func 218) #[] #[])] ?_ ?_ ?_ ?_ ?_ ?_; exact rfl; exact rfl; exact HT.out; kernel_rfl; (intro v hv; simp at hv; rcases hv with rfl | rfl | rfl | rfl <;> rfl))
    generalize (w1.alloc (.cells #[.bool false, .bool false, .nilFunc, .nilFunc] 188)).setCells w1.heap.size 0 [.bool false, .bool true, (.func (.func 214) #[] #[]), (.func (.func 218) #[] #[])] = w2 at HK HXX HYY HZZ HUU HP HB ⊢
    clear HT
    have p0 := HP.out.cell (i := 0) rfl
    have p1 := HP.out.cell (i := 1) rfl
    have p2 := HP.out.cell (i := 2) rfl
    have k0 := HK.out.cell (i := 0) rfl
    have k1 := HK.out.cell (i := 1) rfl
    have k2 := HK.out.cell (i := 2) rfl
    go_wp2_with fail
    refine (pdPath_any 3 (.inl rfl) v _ hv).mono ?_
    rintro e w3 ⟨rfl, hb3⟩
    have HB3 := Stow.mk (HB.out.trans (hb3.mono HB.out.size))
    clear hb3
    go_wp2_with fail
    go_ret
    exact ⟨by rw [HER.out]; rfl, HB3.out⟩
  · have HER : Stow ((Pd.mk 3 (c0 :: n0) v).err = 2) := ⟨by simp [Pd.err, Pd.named]⟩
    have hp0 := Held.made w [.int .i64 3, .string (bs (c0 :: n0)), .string (bs v)] 98
    have hbp := Below.alloc' (Below.self w) (.cells #[.int .i64 3, .string (bs (c0 :: n0)), .string (bs v)] 98)
    have HP := Stow.mk hp0
    have HBP := Stow.mk hbp
    have HO := Stow.mk (pdOf_3 (w.alloc (.cells #[.int .i64 3, .string (bs (c0 :: n0)), .string (bs v)] 98)))
    unfold OfOut at HO
    clear hp0 hbp
    go_enter Tryz.func116, Tryz.ntmps116
    go_wp2_with fail
    refine HO.out.mono ?_
    rintro e w1 ⟨x, y, z, u, rfl, hx, hy, hz, hu, hb1⟩
    have bz := Below.alloc' (Below.self w1) (.cells #[.bool false, .bool false, .nilFunc, .nilFunc] 188)
    have hZ := Held.made w1 [.bool false, .bool false, .nilFunc, .nilFunc] 188
    have hO := only_all (g := w1.heap.size) [.bool false, .bool true, (.func (.func 214) #[] #[]), (.func (.func 218) #[] #[])] (w1.alloc (.cells #[.bool false, .bool false, .nilFunc, .nilFunc] 188)) 0
    have hbz := bz.trans (hO.below (Nat.le_refl _) bz.size)
    have HT := Stow.mk (show (w1.alloc (.cells #[.bool false, .bool false, .nilFunc, .nilFunc] 188)).there w1.heap.size 0 [Value.bool false, .bool true, (.func (.func 214) #[] #[]), (.func (.func 218) #[] #[])].length from hZ.there)
    have HK := Stow.mk (hZ.over [.bool false, .bool true, (.func (.func 214) #[] #[]), (.func (.func 218) #[] #[])] rfl)
    have HXX := Stow.mk (hx.kept hbz)
    have HYY := Stow.mk (hy.kept hbz)
    have HZZ := Stow.mk (hz.kept hbz)
    have HUU := Stow.mk (hu.kept hbz)
    have HP := Stow.mk ((HP.out.kept hb1).kept hbz)
    have HB := Stow.mk (HBP.out.trans ((hb1.trans (hbz.mono hb1.size)).mono HBP.out.size))
    clear hx hy hz hu hb1 bz hZ hO hbz HO HBP
    go_upto_region 2 with (refine wpList_store_lit 188 (.tmp 3) (.tmp 9) w1.heap.size 0 [.bool false, .bool true, (.func (.func 214) #[] #[]), (.func (.func 218) #[] #[])] ?_ ?_ ?_ ?_ ?_ ?_; exact rfl; exact rfl; exact HT.out; kernel_rfl; (intro v hv; simp at hv; rcases hv with rfl | rfl | rfl | rfl <;> rfl))
    generalize (w1.alloc (.cells #[.bool false, .bool false, .nilFunc, .nilFunc] 188)).setCells w1.heap.size 0 [.bool false, .bool true, (.func (.func 214) #[] #[]), (.func (.func 218) #[] #[])] = w2 at HK HXX HYY HZZ HUU HP HB ⊢
    clear HT
    have p0 := HP.out.cell (i := 0) rfl
    have p1 := HP.out.cell (i := 1) rfl
    have p2 := HP.out.cell (i := 2) rfl
    have k0 := HK.out.cell (i := 0) rfl
    have k1 := HK.out.cell (i := 1) rfl
    have k2 := HK.out.cell (i := 2) rfl
    go_wp2_with fail
    go_ret
    exact ⟨by rw [HER.out]; rfl, HB.out⟩
set_option maxHeartbeats 2000000 in
set_option maxRecDepth 100000 in
theorem pdCheck_4 (n v : List UInt8) (w : World) (hn : n.length ≤ 140737488355328) (hv : v.length ≤ 140737488355328) : Calls Tryz.prog 116 #[.agg #[.int .i64 4, .string (bs n), .string (bs v)]] w fun e w' => e = .returned (.int .i64 ((Pd.mk 4 n v).err : Nat)) ∧ Below w.heap.size w w' := by
  rcases n with _ | ⟨c0, n0⟩
  · have HER : Stow ((Pd.mk 4 [] v).err = Pd.chk 4 v) := ⟨by simp [Pd.err, Pd.named, Pd.valued]⟩
    have hp0 := Held.made w [.int .i64 4, .string (bs []), .string (bs v)] 98
    have hbp := Below.alloc' (Below.self w) (.cells #[.int .i64 4, .string (bs []), .string (bs v)] 98)
    have HP := Stow.mk hp0
    have HBP := Stow.mk hbp
    have HO := Stow.mk (pdOf_4 (w.alloc (.cells #[.int .i64 4, .string (bs []), .string (bs v)] 98)))
    unfold OfOut at HO
    clear hp0 hbp
    go_enter Tryz.func116, Tryz.ntmps116
    go_wp2_with fail
    refine HO.out.mono ?_
    rintro e w1 ⟨x, y, z, u, rfl, hx, hy, hz, hu, hb1⟩
    have bz := Below.alloc' (Below.self w1) (.cells #[.bool false, .bool false, .nilFunc, .nilFunc] 188)
    have hZ := Held.made w1 [.bool false, .bool false, .nilFunc, .nilFunc] 188
    have hO := only_all (g := w1.heap.size) [.bool false, .bool true, (.func (.func 214) #[] #[]), (.func (.func 219) #[] #[])] (w1.alloc (.cells #[.bool false, .bool false, .nilFunc, .nilFunc] 188)) 0
    have hbz := bz.trans (hO.below (Nat.le_refl _) bz.size)
    have HT := Stow.mk (show (w1.alloc (.cells #[.bool false, .bool false, .nilFunc, .nilFunc] 188)).there w1.heap.size 0 [Value.bool false, .bool true, (.func (.func 214) #[] #[]), (.func (.func 219) #[] #[])].length from hZ.there)
    have HK := Stow.mk (hZ.over [.bool false, .bool true, (.func (.func 214) #[] #[]), (.func (.func 219) #[] #[])] rfl)
    have HXX := Stow.mk (hx.kept hbz)
    have HYY := Stow.mk (hy.kept hbz)
    have HZZ := Stow.mk (hz.kept hbz)
    have HUU := Stow.mk (hu.kept hbz)
    have HP := Stow.mk ((HP.out.kept hb1).kept hbz)
    have HB := Stow.mk (HBP.out.trans ((hb1.trans (hbz.mono hb1.size)).mono HBP.out.size))
    clear hx hy hz hu hb1 bz hZ hO hbz HO HBP
    go_upto_region 2 with (refine wpList_store_lit 188 (.tmp 3) (.tmp 9) w1.heap.size 0 [.bool false, .bool true, (.func (.func 214) #[] #[]), (.func (.func 219) #[] #[])] ?_ ?_ ?_ ?_ ?_ ?_; exact rfl; exact rfl; exact HT.out; kernel_rfl; (intro v hv; simp at hv; rcases hv with rfl | rfl | rfl | rfl <;> rfl))
    generalize (w1.alloc (.cells #[.bool false, .bool false, .nilFunc, .nilFunc] 188)).setCells w1.heap.size 0 [.bool false, .bool true, (.func (.func 214) #[] #[]), (.func (.func 219) #[] #[])] = w2 at HK HXX HYY HZZ HUU HP HB ⊢
    clear HT
    have p0 := HP.out.cell (i := 0) rfl
    have p1 := HP.out.cell (i := 1) rfl
    have p2 := HP.out.cell (i := 2) rfl
    have k0 := HK.out.cell (i := 0) rfl
    have k1 := HK.out.cell (i := 1) rfl
    have k2 := HK.out.cell (i := 2) rfl
    go_wp2_with fail
    refine (pdPath_any 4 (.inr rfl) v _ hv).mono ?_
    rintro e w3 ⟨rfl, hb3⟩
    have HB3 := Stow.mk (HB.out.trans (hb3.mono HB.out.size))
    clear hb3
    go_wp2_with fail
    go_ret
    exact ⟨by rw [HER.out]; rfl, HB3.out⟩
  · have HER : Stow ((Pd.mk 4 (c0 :: n0) v).err = 2) := ⟨by simp [Pd.err, Pd.named]⟩
    have hp0 := Held.made w [.int .i64 4, .string (bs (c0 :: n0)), .string (bs v)] 98
    have hbp := Below.alloc' (Below.self w) (.cells #[.int .i64 4, .string (bs (c0 :: n0)), .string (bs v)] 98)
    have HP := Stow.mk hp0
    have HBP := Stow.mk hbp
    have HO := Stow.mk (pdOf_4 (w.alloc (.cells #[.int .i64 4, .string (bs (c0 :: n0)), .string (bs v)] 98)))
    unfold OfOut at HO
    clear hp0 hbp
    go_enter Tryz.func116, Tryz.ntmps116
    go_wp2_with fail
    refine HO.out.mono ?_
    rintro e w1 ⟨x, y, z, u, rfl, hx, hy, hz, hu, hb1⟩
    have bz := Below.alloc' (Below.self w1) (.cells #[.bool false, .bool false, .nilFunc, .nilFunc] 188)
    have hZ := Held.made w1 [.bool false, .bool false, .nilFunc, .nilFunc] 188
    have hO := only_all (g := w1.heap.size) [.bool false, .bool true, (.func (.func 214) #[] #[]), (.func (.func 219) #[] #[])] (w1.alloc (.cells #[.bool false, .bool false, .nilFunc, .nilFunc] 188)) 0
    have hbz := bz.trans (hO.below (Nat.le_refl _) bz.size)
    have HT := Stow.mk (show (w1.alloc (.cells #[.bool false, .bool false, .nilFunc, .nilFunc] 188)).there w1.heap.size 0 [Value.bool false, .bool true, (.func (.func 214) #[] #[]), (.func (.func 219) #[] #[])].length from hZ.there)
    have HK := Stow.mk (hZ.over [.bool false, .bool true, (.func (.func 214) #[] #[]), (.func (.func 219) #[] #[])] rfl)
    have HXX := Stow.mk (hx.kept hbz)
    have HYY := Stow.mk (hy.kept hbz)
    have HZZ := Stow.mk (hz.kept hbz)
    have HUU := Stow.mk (hu.kept hbz)
    have HP := Stow.mk ((HP.out.kept hb1).kept hbz)
    have HB := Stow.mk (HBP.out.trans ((hb1.trans (hbz.mono hb1.size)).mono HBP.out.size))
    clear hx hy hz hu hb1 bz hZ hO hbz HO HBP
    go_upto_region 2 with (refine wpList_store_lit 188 (.tmp 3) (.tmp 9) w1.heap.size 0 [.bool false, .bool true, (.func (.func 214) #[] #[]), (.func (.func 219) #[] #[])] ?_ ?_ ?_ ?_ ?_ ?_; exact rfl; exact rfl; exact HT.out; kernel_rfl; (intro v hv; simp at hv; rcases hv with rfl | rfl | rfl | rfl <;> rfl))
    generalize (w1.alloc (.cells #[.bool false, .bool false, .nilFunc, .nilFunc] 188)).setCells w1.heap.size 0 [.bool false, .bool true, (.func (.func 214) #[] #[]), (.func (.func 219) #[] #[])] = w2 at HK HXX HYY HZZ HUU HP HB ⊢
    clear HT
    have p0 := HP.out.cell (i := 0) rfl
    have p1 := HP.out.cell (i := 1) rfl
    have p2 := HP.out.cell (i := 2) rfl
    have k0 := HK.out.cell (i := 0) rfl
    have k1 := HK.out.cell (i := 1) rfl
    have k2 := HK.out.cell (i := 2) rfl
    go_wp2_with fail
    go_ret
    exact ⟨by rw [HER.out]; rfl, HB.out⟩
set_option maxHeartbeats 2000000 in
set_option maxRecDepth 100000 in
theorem pdCheck_2 (n v : List UInt8) (w : World) (hn : n.length ≤ 140737488355328) (hv : v.length ≤ 140737488355328) : Calls Tryz.prog 116 #[.agg #[.int .i64 2, .string (bs n), .string (bs v)]] w fun e w' => e = .returned (.int .i64 ((Pd.mk 2 n v).err : Nat)) ∧ Below w.heap.size w w' := by
  rcases n with _ | ⟨c0, n0⟩
  · have HER : Stow ((Pd.mk 2 [] v).err = Pd.chk 2 v) := ⟨by simp [Pd.err, Pd.named, Pd.valued]⟩
    have hp0 := Held.made w [.int .i64 2, .string (bs []), .string (bs v)] 98
    have hbp := Below.alloc' (Below.self w) (.cells #[.int .i64 2, .string (bs []), .string (bs v)] 98)
    have HP := Stow.mk hp0
    have HBP := Stow.mk hbp
    have HO := Stow.mk (pdOf_2 (w.alloc (.cells #[.int .i64 2, .string (bs []), .string (bs v)] 98)))
    unfold OfOut at HO
    clear hp0 hbp
    go_enter Tryz.func116, Tryz.ntmps116
    go_wp2_with fail
    refine HO.out.mono ?_
    rintro e w1 ⟨x, y, z, u, rfl, hx, hy, hz, hu, hb1⟩
    have bz := Below.alloc' (Below.self w1) (.cells #[.bool false, .bool false, .nilFunc, .nilFunc] 188)
    have hZ := Held.made w1 [.bool false, .bool false, .nilFunc, .nilFunc] 188
    have hO := only_all (g := w1.heap.size) [.bool false, .bool true, (.func (.func 241) #[] #[.pointer (some ⟨x, 0, none⟩), .pointer (some ⟨y, 0, none⟩)]), (.func (.func 217) #[] #[])] (w1.alloc (.cells #[.bool false, .bool false, .nilFunc, .nilFunc] 188)) 0
    have hbz := bz.trans (hO.below (Nat.le_refl _) bz.size)
    have HT := Stow.mk (show (w1.alloc (.cells #[.bool false, .bool false, .nilFunc, .nilFunc] 188)).there w1.heap.size 0 [Value.bool false, .bool true, (.func (.func 241) #[] #[.pointer (some ⟨x, 0, none⟩), .pointer (some ⟨y, 0, none⟩)]), (.func (.func 217) #[] #[])].length from hZ.there)
    have HK := Stow.mk (hZ.over [.bool false, .bool true, (.func (.func 241) #[] #[.pointer (some ⟨x, 0, none⟩), .pointer (some ⟨y, 0, none⟩)]), (.func (.func 217) #[] #[])] rfl)
    have HXX := Stow.mk (hx.kept hbz)
    have HYY := Stow.mk (hy.kept hbz)
    have HZZ := Stow.mk (hz.kept hbz)
    have HUU := Stow.mk (hu.kept hbz)
    have HP := Stow.mk ((HP.out.kept hb1).kept hbz)
    have HB := Stow.mk (HBP.out.trans ((hb1.trans (hbz.mono hb1.size)).mono HBP.out.size))
    clear hx hy hz hu hb1 bz hZ hO hbz HO HBP
    go_upto_region 2 with (refine wpList_store_lit 188 (.tmp 3) (.tmp 9) w1.heap.size 0 [.bool false, .bool true, (.func (.func 241) #[] #[.pointer (some ⟨x, 0, none⟩), .pointer (some ⟨y, 0, none⟩)]), (.func (.func 217) #[] #[])] ?_ ?_ ?_ ?_ ?_ ?_; exact rfl; exact rfl; exact HT.out; kernel_rfl; (intro v hv; simp at hv; rcases hv with rfl | rfl | rfl | rfl <;> rfl))
    generalize (w1.alloc (.cells #[.bool false, .bool false, .nilFunc, .nilFunc] 188)).setCells w1.heap.size 0 [.bool false, .bool true, (.func (.func 241) #[] #[.pointer (some ⟨x, 0, none⟩), .pointer (some ⟨y, 0, none⟩)]), (.func (.func 217) #[] #[])] = w2 at HK HXX HYY HZZ HUU HP HB ⊢
    clear HT
    have p0 := HP.out.cell (i := 0) rfl
    have p1 := HP.out.cell (i := 1) rfl
    have p2 := HP.out.cell (i := 2) rfl
    have k0 := HK.out.cell (i := 0) rfl
    have k1 := HK.out.cell (i := 1) rfl
    have k2 := HK.out.cell (i := 2) rfl
    go_wp2_with fail
    refine (pdHost_any x y v _ hv HXX.out HYY.out).mono ?_
    rintro e w3 ⟨rfl, hb3⟩
    have HB3 := Stow.mk (HB.out.trans (hb3.mono HB.out.size))
    clear hb3
    go_wp2_with fail
    go_ret
    exact ⟨by rw [HER.out]; rfl, HB3.out⟩
  · have HER : Stow ((Pd.mk 2 (c0 :: n0) v).err = 2) := ⟨by simp [Pd.err, Pd.named]⟩
    have hp0 := Held.made w [.int .i64 2, .string (bs (c0 :: n0)), .string (bs v)] 98
    have hbp := Below.alloc' (Below.self w) (.cells #[.int .i64 2, .string (bs (c0 :: n0)), .string (bs v)] 98)
    have HP := Stow.mk hp0
    have HBP := Stow.mk hbp
    have HO := Stow.mk (pdOf_2 (w.alloc (.cells #[.int .i64 2, .string (bs (c0 :: n0)), .string (bs v)] 98)))
    unfold OfOut at HO
    clear hp0 hbp
    go_enter Tryz.func116, Tryz.ntmps116
    go_wp2_with fail
    refine HO.out.mono ?_
    rintro e w1 ⟨x, y, z, u, rfl, hx, hy, hz, hu, hb1⟩
    have bz := Below.alloc' (Below.self w1) (.cells #[.bool false, .bool false, .nilFunc, .nilFunc] 188)
    have hZ := Held.made w1 [.bool false, .bool false, .nilFunc, .nilFunc] 188
    have hO := only_all (g := w1.heap.size) [.bool false, .bool true, (.func (.func 241) #[] #[.pointer (some ⟨x, 0, none⟩), .pointer (some ⟨y, 0, none⟩)]), (.func (.func 217) #[] #[])] (w1.alloc (.cells #[.bool false, .bool false, .nilFunc, .nilFunc] 188)) 0
    have hbz := bz.trans (hO.below (Nat.le_refl _) bz.size)
    have HT := Stow.mk (show (w1.alloc (.cells #[.bool false, .bool false, .nilFunc, .nilFunc] 188)).there w1.heap.size 0 [Value.bool false, .bool true, (.func (.func 241) #[] #[.pointer (some ⟨x, 0, none⟩), .pointer (some ⟨y, 0, none⟩)]), (.func (.func 217) #[] #[])].length from hZ.there)
    have HK := Stow.mk (hZ.over [.bool false, .bool true, (.func (.func 241) #[] #[.pointer (some ⟨x, 0, none⟩), .pointer (some ⟨y, 0, none⟩)]), (.func (.func 217) #[] #[])] rfl)
    have HXX := Stow.mk (hx.kept hbz)
    have HYY := Stow.mk (hy.kept hbz)
    have HZZ := Stow.mk (hz.kept hbz)
    have HUU := Stow.mk (hu.kept hbz)
    have HP := Stow.mk ((HP.out.kept hb1).kept hbz)
    have HB := Stow.mk (HBP.out.trans ((hb1.trans (hbz.mono hb1.size)).mono HBP.out.size))
    clear hx hy hz hu hb1 bz hZ hO hbz HO HBP
    go_upto_region 2 with (refine wpList_store_lit 188 (.tmp 3) (.tmp 9) w1.heap.size 0 [.bool false, .bool true, (.func (.func 241) #[] #[.pointer (some ⟨x, 0, none⟩), .pointer (some ⟨y, 0, none⟩)]), (.func (.func 217) #[] #[])] ?_ ?_ ?_ ?_ ?_ ?_; exact rfl; exact rfl; exact HT.out; kernel_rfl; (intro v hv; simp at hv; rcases hv with rfl | rfl | rfl | rfl <;> rfl))
    generalize (w1.alloc (.cells #[.bool false, .bool false, .nilFunc, .nilFunc] 188)).setCells w1.heap.size 0 [.bool false, .bool true, (.func (.func 241) #[] #[.pointer (some ⟨x, 0, none⟩), .pointer (some ⟨y, 0, none⟩)]), (.func (.func 217) #[] #[])] = w2 at HK HXX HYY HZZ HUU HP HB ⊢
    clear HT
    have p0 := HP.out.cell (i := 0) rfl
    have p1 := HP.out.cell (i := 1) rfl
    have p2 := HP.out.cell (i := 2) rfl
    have k0 := HK.out.cell (i := 0) rfl
    have k1 := HK.out.cell (i := 1) rfl
    have k2 := HK.out.cell (i := 2) rfl
    go_wp2_with fail
    go_ret
    exact ⟨by rw [HER.out]; rfl, HB.out⟩
set_option maxHeartbeats 2000000 in
set_option maxRecDepth 100000 in
theorem pdCheck_5 (n v : List UInt8) (w : World) (hn : n.length ≤ 140737488355328) (hv : v.length ≤ 140737488355328) : Calls Tryz.prog 116 #[.agg #[.int .i64 5, .string (bs n), .string (bs v)]] w fun e w' => e = .returned (.int .i64 ((Pd.mk 5 n v).err : Nat)) ∧ Below w.heap.size w w' := by
  cases hne : nameOk n with
  | false =>
    have HER : Stow ((Pd.mk 5 n v).err = 7) := ⟨by simp [Pd.err, Pd.named, Pd.valued, hne]⟩
    have hp0 := Held.made w [.int .i64 5, .string (bs n), .string (bs v)] 98
    have hbp := Below.alloc' (Below.self w) (.cells #[.int .i64 5, .string (bs n), .string (bs v)] 98)
    have HP := Stow.mk hp0
    have HBP := Stow.mk hbp
    have HO := Stow.mk (pdOf_5 (w.alloc (.cells #[.int .i64 5, .string (bs n), .string (bs v)] 98)))
    unfold OfOut at HO
    clear hp0 hbp
    go_enter Tryz.func116, Tryz.ntmps116
    go_wp2_with fail
    refine HO.out.mono ?_
    rintro e w1 ⟨x, y, z, u, rfl, hx, hy, hz, hu, hb1⟩
    have bz := Below.alloc' (Below.self w1) (.cells #[.bool false, .bool false, .nilFunc, .nilFunc] 188)
    have hZ := Held.made w1 [.bool false, .bool false, .nilFunc, .nilFunc] 188
    have hO := only_all (g := w1.heap.size) [.bool true, .bool true, (.func (.func 241) #[] #[.pointer (some ⟨z, 0, none⟩), .pointer (some ⟨u, 0, none⟩)]), (.func (.func 222) #[] #[])] (w1.alloc (.cells #[.bool false, .bool false, .nilFunc, .nilFunc] 188)) 0
    have hbz := bz.trans (hO.below (Nat.le_refl _) bz.size)
    have HT := Stow.mk (show (w1.alloc (.cells #[.bool false, .bool false, .nilFunc, .nilFunc] 188)).there w1.heap.size 0 [Value.bool true, .bool true, (.func (.func 241) #[] #[.pointer (some ⟨z, 0, none⟩), .pointer (some ⟨u, 0, none⟩)]), (.func (.func 222) #[] #[])].length from hZ.there)
    have HK := Stow.mk (hZ.over [.bool true, .bool true, (.func (.func 241) #[] #[.pointer (some ⟨z, 0, none⟩), .pointer (some ⟨u, 0, none⟩)]), (.func (.func 222) #[] #[])] rfl)
    have HXX := Stow.mk (hx.kept hbz)
    have HYY := Stow.mk (hy.kept hbz)
    have HZZ := Stow.mk (hz.kept hbz)
    have HUU := Stow.mk (hu.kept hbz)
    have HP := Stow.mk ((HP.out.kept hb1).kept hbz)
    have HB := Stow.mk (HBP.out.trans ((hb1.trans (hbz.mono hb1.size)).mono HBP.out.size))
    clear hx hy hz hu hb1 bz hZ hO hbz HO HBP
    go_upto_region 2 with (refine wpList_store_lit 188 (.tmp 3) (.tmp 9) w1.heap.size 0 [.bool true, .bool true, (.func (.func 241) #[] #[.pointer (some ⟨z, 0, none⟩), .pointer (some ⟨u, 0, none⟩)]), (.func (.func 222) #[] #[])] ?_ ?_ ?_ ?_ ?_ ?_; exact rfl; exact rfl; exact HT.out; kernel_rfl; (intro v hv; simp at hv; rcases hv with rfl | rfl | rfl | rfl <;> rfl))
    generalize (w1.alloc (.cells #[.bool false, .bool false, .nilFunc, .nilFunc] 188)).setCells w1.heap.size 0 [.bool true, .bool true, (.func (.func 241) #[] #[.pointer (some ⟨z, 0, none⟩), .pointer (some ⟨u, 0, none⟩)]), (.func (.func 222) #[] #[])] = w2 at HK HXX HYY HZZ HUU HP HB ⊢
    clear HT
    have p0 := HP.out.cell (i := 0) rfl
    have p1 := HP.out.cell (i := 1) rfl
    have p2 := HP.out.cell (i := 2) rfl
    have k0 := HK.out.cell (i := 0) rfl
    have k1 := HK.out.cell (i := 1) rfl
    have k2 := HK.out.cell (i := 2) rfl
    have HNM := Stow.mk (name_any n w2 (by omega))
    rw [hne] at HNM
    clear hne
    go_wp2_with fail
    refine HNM.out.mono ?_
    rintro e w3 ⟨rfl, rfl⟩
    go_wp2_with fail
    go_ret
    exact ⟨by rw [HER.out]; rfl, HB.out⟩
  | true =>
    have HER : Stow ((Pd.mk 5 n v).err = Pd.chk 5 v) := ⟨by simp [Pd.err, Pd.named, Pd.valued, hne]⟩
    have hp0 := Held.made w [.int .i64 5, .string (bs n), .string (bs v)] 98
    have hbp := Below.alloc' (Below.self w) (.cells #[.int .i64 5, .string (bs n), .string (bs v)] 98)
    have HP := Stow.mk hp0
    have HBP := Stow.mk hbp
    have HO := Stow.mk (pdOf_5 (w.alloc (.cells #[.int .i64 5, .string (bs n), .string (bs v)] 98)))
    unfold OfOut at HO
    clear hp0 hbp
    go_enter Tryz.func116, Tryz.ntmps116
    go_wp2_with fail
    refine HO.out.mono ?_
    rintro e w1 ⟨x, y, z, u, rfl, hx, hy, hz, hu, hb1⟩
    have bz := Below.alloc' (Below.self w1) (.cells #[.bool false, .bool false, .nilFunc, .nilFunc] 188)
    have hZ := Held.made w1 [.bool false, .bool false, .nilFunc, .nilFunc] 188
    have hO := only_all (g := w1.heap.size) [.bool true, .bool true, (.func (.func 241) #[] #[.pointer (some ⟨z, 0, none⟩), .pointer (some ⟨u, 0, none⟩)]), (.func (.func 222) #[] #[])] (w1.alloc (.cells #[.bool false, .bool false, .nilFunc, .nilFunc] 188)) 0
    have hbz := bz.trans (hO.below (Nat.le_refl _) bz.size)
    have HT := Stow.mk (show (w1.alloc (.cells #[.bool false, .bool false, .nilFunc, .nilFunc] 188)).there w1.heap.size 0 [Value.bool true, .bool true, (.func (.func 241) #[] #[.pointer (some ⟨z, 0, none⟩), .pointer (some ⟨u, 0, none⟩)]), (.func (.func 222) #[] #[])].length from hZ.there)
    have HK := Stow.mk (hZ.over [.bool true, .bool true, (.func (.func 241) #[] #[.pointer (some ⟨z, 0, none⟩), .pointer (some ⟨u, 0, none⟩)]), (.func (.func 222) #[] #[])] rfl)
    have HXX := Stow.mk (hx.kept hbz)
    have HYY := Stow.mk (hy.kept hbz)
    have HZZ := Stow.mk (hz.kept hbz)
    have HUU := Stow.mk (hu.kept hbz)
    have HP := Stow.mk ((HP.out.kept hb1).kept hbz)
    have HB := Stow.mk (HBP.out.trans ((hb1.trans (hbz.mono hb1.size)).mono HBP.out.size))
    clear hx hy hz hu hb1 bz hZ hO hbz HO HBP
    go_upto_region 2 with (refine wpList_store_lit 188 (.tmp 3) (.tmp 9) w1.heap.size 0 [.bool true, .bool true, (.func (.func 241) #[] #[.pointer (some ⟨z, 0, none⟩), .pointer (some ⟨u, 0, none⟩)]), (.func (.func 222) #[] #[])] ?_ ?_ ?_ ?_ ?_ ?_; exact rfl; exact rfl; exact HT.out; kernel_rfl; (intro v hv; simp at hv; rcases hv with rfl | rfl | rfl | rfl <;> rfl))
    generalize (w1.alloc (.cells #[.bool false, .bool false, .nilFunc, .nilFunc] 188)).setCells w1.heap.size 0 [.bool true, .bool true, (.func (.func 241) #[] #[.pointer (some ⟨z, 0, none⟩), .pointer (some ⟨u, 0, none⟩)]), (.func (.func 222) #[] #[])] = w2 at HK HXX HYY HZZ HUU HP HB ⊢
    clear HT
    have p0 := HP.out.cell (i := 0) rfl
    have p1 := HP.out.cell (i := 1) rfl
    have p2 := HP.out.cell (i := 2) rfl
    have k0 := HK.out.cell (i := 0) rfl
    have k1 := HK.out.cell (i := 1) rfl
    have k2 := HK.out.cell (i := 2) rfl
    have HNM := Stow.mk (name_any n w2 (by omega))
    rw [hne] at HNM
    clear hne
    go_wp2_with fail
    refine HNM.out.mono ?_
    rintro e w3 ⟨rfl, rfl⟩
    go_wp2_with fail
    refine (pdVal_any z u v _ hv HZZ.out HUU.out).mono ?_
    rintro e w3 ⟨rfl, hb3⟩
    have HB3 := Stow.mk (HB.out.trans (hb3.mono HB.out.size))
    clear hb3
    go_wp2_with fail
    go_ret
    exact ⟨by rw [HER.out]; rfl, HB3.out⟩
set_option maxHeartbeats 2000000 in
set_option maxRecDepth 100000 in
theorem pdCheck_6 (n v : List UInt8) (w : World) (hn : n.length ≤ 140737488355328) (hv : v.length ≤ 140737488355328) : Calls Tryz.prog 116 #[.agg #[.int .i64 6, .string (bs n), .string (bs v)]] w fun e w' => e = .returned (.int .i64 ((Pd.mk 6 n v).err : Nat)) ∧ Below w.heap.size w w' := by
  rcases v with _ | ⟨c0, v0⟩
  · cases hne : nameOk n with
    | false =>
      have HER : Stow ((Pd.mk 6 n []).err = 7) := ⟨by simp [Pd.err, Pd.named, Pd.valued, hne]⟩
      have hp0 := Held.made w [.int .i64 6, .string (bs n), .string (bs [])] 98
      have hbp := Below.alloc' (Below.self w) (.cells #[.int .i64 6, .string (bs n), .string (bs [])] 98)
      have HP := Stow.mk hp0
      have HBP := Stow.mk hbp
      have HO := Stow.mk (pdOf_6 (w.alloc (.cells #[.int .i64 6, .string (bs n), .string (bs [])] 98)))
      unfold OfOut at HO
      clear hp0 hbp
      go_enter Tryz.func116, Tryz.ntmps116
      go_wp2_with fail
      refine HO.out.mono ?_
      rintro e w1 ⟨x, y, z, u, rfl, hx, hy, hz, hu, hb1⟩
      have bz := Below.alloc' (Below.self w1) (.cells #[.bool false, .bool false, .nilFunc, .nilFunc] 188)
      have hZ := Held.made w1 [.bool false, .bool false, .nilFunc, .nilFunc] 188
      have hO := only_all (g := w1.heap.size) [.bool true, .bool false, (.func (.func 224) #[] #[]), (.func (.func 225) #[] #[])] (w1.alloc (.cells #[.bool false, .bool false, .nilFunc, .nilFunc] 188)) 0
      have hbz := bz.trans (hO.below (Nat.le_refl _) bz.size)
      have HT := Stow.mk (show (w1.alloc (.cells #[.bool false, .bool false, .nilFunc, .nilFunc] 188)).there w1.heap.size 0 [Value.bool true, .bool false, (.func (.func 224) #[] #[]), (.func (.func 225) #[] #[])].length from hZ.there)
      have HK := Stow.mk (hZ.over [.bool true, .bool false, (.func (.func 224) #[] #[]), (.func (.func 225) #[] #[])] rfl)
      have HXX := Stow.mk (hx.kept hbz)
      have HYY := Stow.mk (hy.kept hbz)
      have HZZ := Stow.mk (hz.kept hbz)
      have HUU := Stow.mk (hu.kept hbz)
      have HP := Stow.mk ((HP.out.kept hb1).kept hbz)
      have HB := Stow.mk (HBP.out.trans ((hb1.trans (hbz.mono hb1.size)).mono HBP.out.size))
      clear hx hy hz hu hb1 bz hZ hO hbz HO HBP
      go_upto_region 2 with (refine wpList_store_lit 188 (.tmp 3) (.tmp 9) w1.heap.size 0 [.bool true, .bool false, (.func (.func 224) #[] #[]), (.func (.func 225) #[] #[])] ?_ ?_ ?_ ?_ ?_ ?_; exact rfl; exact rfl; exact HT.out; kernel_rfl; (intro v hv; simp at hv; rcases hv with rfl | rfl | rfl | rfl <;> rfl))
      generalize (w1.alloc (.cells #[.bool false, .bool false, .nilFunc, .nilFunc] 188)).setCells w1.heap.size 0 [.bool true, .bool false, (.func (.func 224) #[] #[]), (.func (.func 225) #[] #[])] = w2 at HK HXX HYY HZZ HUU HP HB ⊢
      clear HT
      have p0 := HP.out.cell (i := 0) rfl
      have p1 := HP.out.cell (i := 1) rfl
      have p2 := HP.out.cell (i := 2) rfl
      have k0 := HK.out.cell (i := 0) rfl
      have k1 := HK.out.cell (i := 1) rfl
      have k2 := HK.out.cell (i := 2) rfl
      have HNM := Stow.mk (name_any n w2 (by omega))
      rw [hne] at HNM
      clear hne
      go_wp2_with fail
      refine HNM.out.mono ?_
      rintro e w3 ⟨rfl, rfl⟩
      go_wp2_with fail
      go_ret
      exact ⟨by rw [HER.out]; rfl, HB.out⟩
    | true =>
      have HER : Stow ((Pd.mk 6 n []).err = 0) := ⟨by simp [Pd.err, Pd.named, Pd.valued, Pd.chk, hne]⟩
      have hp0 := Held.made w [.int .i64 6, .string (bs n), .string (bs [])] 98
      have hbp := Below.alloc' (Below.self w) (.cells #[.int .i64 6, .string (bs n), .string (bs [])] 98)
      have HP := Stow.mk hp0
      have HBP := Stow.mk hbp
      have HO := Stow.mk (pdOf_6 (w.alloc (.cells #[.int .i64 6, .string (bs n), .string (bs [])] 98)))
      unfold OfOut at HO
      clear hp0 hbp
      go_enter Tryz.func116, Tryz.ntmps116
      go_wp2_with fail
      refine HO.out.mono ?_
      rintro e w1 ⟨x, y, z, u, rfl, hx, hy, hz, hu, hb1⟩
      have bz := Below.alloc' (Below.self w1) (.cells #[.bool false, .bool false, .nilFunc, .nilFunc] 188)
      have hZ := Held.made w1 [.bool false, .bool false, .nilFunc, .nilFunc] 188
      have hO := only_all (g := w1.heap.size) [.bool true, .bool false, (.func (.func 224) #[] #[]), (.func (.func 225) #[] #[])] (w1.alloc (.cells #[.bool false, .bool false, .nilFunc, .nilFunc] 188)) 0
      have hbz := bz.trans (hO.below (Nat.le_refl _) bz.size)
      have HT := Stow.mk (show (w1.alloc (.cells #[.bool false, .bool false, .nilFunc, .nilFunc] 188)).there w1.heap.size 0 [Value.bool true, .bool false, (.func (.func 224) #[] #[]), (.func (.func 225) #[] #[])].length from hZ.there)
      have HK := Stow.mk (hZ.over [.bool true, .bool false, (.func (.func 224) #[] #[]), (.func (.func 225) #[] #[])] rfl)
      have HXX := Stow.mk (hx.kept hbz)
      have HYY := Stow.mk (hy.kept hbz)
      have HZZ := Stow.mk (hz.kept hbz)
      have HUU := Stow.mk (hu.kept hbz)
      have HP := Stow.mk ((HP.out.kept hb1).kept hbz)
      have HB := Stow.mk (HBP.out.trans ((hb1.trans (hbz.mono hb1.size)).mono HBP.out.size))
      clear hx hy hz hu hb1 bz hZ hO hbz HO HBP
      go_upto_region 2 with (refine wpList_store_lit 188 (.tmp 3) (.tmp 9) w1.heap.size 0 [.bool true, .bool false, (.func (.func 224) #[] #[]), (.func (.func 225) #[] #[])] ?_ ?_ ?_ ?_ ?_ ?_; exact rfl; exact rfl; exact HT.out; kernel_rfl; (intro v hv; simp at hv; rcases hv with rfl | rfl | rfl | rfl <;> rfl))
      generalize (w1.alloc (.cells #[.bool false, .bool false, .nilFunc, .nilFunc] 188)).setCells w1.heap.size 0 [.bool true, .bool false, (.func (.func 224) #[] #[]), (.func (.func 225) #[] #[])] = w2 at HK HXX HYY HZZ HUU HP HB ⊢
      clear HT
      have p0 := HP.out.cell (i := 0) rfl
      have p1 := HP.out.cell (i := 1) rfl
      have p2 := HP.out.cell (i := 2) rfl
      have k0 := HK.out.cell (i := 0) rfl
      have k1 := HK.out.cell (i := 1) rfl
      have k2 := HK.out.cell (i := 2) rfl
      have HNM := Stow.mk (name_any n w2 (by omega))
      rw [hne] at HNM
      clear hne
      go_wp2_with fail
      refine HNM.out.mono ?_
      rintro e w3 ⟨rfl, rfl⟩
      go_wp2_with fail
      refine (pdFree_any [] _).mono ?_
      rintro e w4 ⟨rfl, rfl⟩
      go_wp2_with fail
      go_ret
      exact ⟨by rw [HER.out]; rfl, HB.out⟩
  · have HER : Stow ((Pd.mk 6 n (c0 :: v0)).err = 2) := ⟨by simp [Pd.err, Pd.named, Pd.valued]⟩
    have hp0 := Held.made w [.int .i64 6, .string (bs n), .string (bs (c0 :: v0))] 98
    have hbp := Below.alloc' (Below.self w) (.cells #[.int .i64 6, .string (bs n), .string (bs (c0 :: v0))] 98)
    have HP := Stow.mk hp0
    have HBP := Stow.mk hbp
    have HO := Stow.mk (pdOf_6 (w.alloc (.cells #[.int .i64 6, .string (bs n), .string (bs (c0 :: v0))] 98)))
    unfold OfOut at HO
    clear hp0 hbp
    go_enter Tryz.func116, Tryz.ntmps116
    go_wp2_with fail
    refine HO.out.mono ?_
    rintro e w1 ⟨x, y, z, u, rfl, hx, hy, hz, hu, hb1⟩
    have bz := Below.alloc' (Below.self w1) (.cells #[.bool false, .bool false, .nilFunc, .nilFunc] 188)
    have hZ := Held.made w1 [.bool false, .bool false, .nilFunc, .nilFunc] 188
    have hO := only_all (g := w1.heap.size) [.bool true, .bool false, (.func (.func 224) #[] #[]), (.func (.func 225) #[] #[])] (w1.alloc (.cells #[.bool false, .bool false, .nilFunc, .nilFunc] 188)) 0
    have hbz := bz.trans (hO.below (Nat.le_refl _) bz.size)
    have HT := Stow.mk (show (w1.alloc (.cells #[.bool false, .bool false, .nilFunc, .nilFunc] 188)).there w1.heap.size 0 [Value.bool true, .bool false, (.func (.func 224) #[] #[]), (.func (.func 225) #[] #[])].length from hZ.there)
    have HK := Stow.mk (hZ.over [.bool true, .bool false, (.func (.func 224) #[] #[]), (.func (.func 225) #[] #[])] rfl)
    have HXX := Stow.mk (hx.kept hbz)
    have HYY := Stow.mk (hy.kept hbz)
    have HZZ := Stow.mk (hz.kept hbz)
    have HUU := Stow.mk (hu.kept hbz)
    have HP := Stow.mk ((HP.out.kept hb1).kept hbz)
    have HB := Stow.mk (HBP.out.trans ((hb1.trans (hbz.mono hb1.size)).mono HBP.out.size))
    clear hx hy hz hu hb1 bz hZ hO hbz HO HBP
    go_upto_region 2 with (refine wpList_store_lit 188 (.tmp 3) (.tmp 9) w1.heap.size 0 [.bool true, .bool false, (.func (.func 224) #[] #[]), (.func (.func 225) #[] #[])] ?_ ?_ ?_ ?_ ?_ ?_; exact rfl; exact rfl; exact HT.out; kernel_rfl; (intro v hv; simp at hv; rcases hv with rfl | rfl | rfl | rfl <;> rfl))
    generalize (w1.alloc (.cells #[.bool false, .bool false, .nilFunc, .nilFunc] 188)).setCells w1.heap.size 0 [.bool true, .bool false, (.func (.func 224) #[] #[]), (.func (.func 225) #[] #[])] = w2 at HK HXX HYY HZZ HUU HP HB ⊢
    clear HT
    have p0 := HP.out.cell (i := 0) rfl
    have p1 := HP.out.cell (i := 1) rfl
    have p2 := HP.out.cell (i := 2) rfl
    have k0 := HK.out.cell (i := 0) rfl
    have k1 := HK.out.cell (i := 1) rfl
    have k2 := HK.out.cell (i := 2) rfl
    go_wp2_with fail
    go_ret
    exact ⟨by rw [HER.out]; rfl, HB.out⟩
set_option maxHeartbeats 2000000 in
set_option maxRecDepth 100000 in
theorem pdCheck_bad (k : Int) (hk : k < 1 ∨ 6 < k) (n v : List UInt8) (w : World) : Calls Tryz.prog 116 #[.agg #[.int .i64 k, .string (bs n), .string (bs v)]] w fun e w' => e = .returned (.int .i64 2) ∧ Below w.heap.size w w' := by
  have hp0 := Held.made w [.int .i64 k, .string (bs n), .string (bs v)] 98
  have hbp := Below.alloc' (Below.self w) (.cells #[.int .i64 k, .string (bs n), .string (bs v)] 98)
  have HP := Stow.mk hp0
  have HBP := Stow.mk hbp
  have HO := Stow.mk (pdOf_bad k hk (w.alloc (.cells #[.int .i64 k, .string (bs n), .string (bs v)] 98)))
  clear hp0 hbp
  go_enter Tryz.func116, Tryz.ntmps116
  go_wp2_with fail
  refine HO.out.mono ?_
  rintro e w1 ⟨rfl, hb1⟩
  have bz := Below.alloc' (Below.self w1) (.cells #[.bool false, .bool false, .nilFunc, .nilFunc] 188)
  have hZ := Held.made w1 [.bool false, .bool false, .nilFunc, .nilFunc] 188
  have hO := only_all (g := w1.heap.size) [.bool false, .bool false, .nilFunc, .nilFunc] (w1.alloc (.cells #[.bool false, .bool false, .nilFunc, .nilFunc] 188)) 0
  have hbz := bz.trans (hO.below (Nat.le_refl _) bz.size)
  have HT := Stow.mk hZ.there
  have HB := Stow.mk (HBP.out.trans ((hb1.trans (hbz.mono hb1.size)).mono HBP.out.size))
  clear hb1 bz hZ hO hbz HO HBP
  go_upto_region 2 with (refine wpList_store_lit 188 (.tmp 3) (.tmp 9) w1.heap.size 0 [.bool false, .bool false, .nilFunc, .nilFunc] ?_ ?_ ?_ ?_ ?_ ?_; exact rfl; exact rfl; exact HT.out; kernel_rfl; (intro v hv; simp at hv; rcases hv with rfl | rfl <;> rfl))
  generalize (w1.alloc (.cells #[.bool false, .bool false, .nilFunc, .nilFunc] 188)).setCells w1.heap.size 0 [.bool false, .bool false, .nilFunc, .nilFunc] = w2 at HB ⊢
  clear HT
  go_wp2_with fail
  go_ret
  exact ⟨rfl, HB.out⟩
theorem pdCheck_any (p : Pd) (w : World) (hp : p.fits) : Calls Tryz.prog 116 #[.agg p.cells.toArray] w fun e w' => e = .returned (.int .i64 (p.err : Nat)) ∧ Below w.heap.size w w' := by
  obtain ⟨k, n, v⟩ := p
  obtain ⟨hn, hv⟩ := hp
  by_cases hk : k < 1 ∨ 6 < k
  · have he : (Pd.mk k n v).err = 2 := by unfold Pd.err; rw [if_pos hk]
    rw [he]
    exact pdCheck_bad k hk n v w
  · obtain rfl | rfl | rfl | rfl | rfl | rfl : k = 1 ∨ k = 2 ∨ k = 3 ∨ k = 4 ∨ k = 5 ∨ k = 6 := by omega
    · exact pdCheck_1 n v w hn hv
    · exact pdCheck_2 n v w hn hv
    · exact pdCheck_3 n v w hn hv
    · exact pdCheck_4 n v w hn hv
    · exact pdCheck_5 n v w hn hv
    · exact pdCheck_6 n v w hn hv
end Go.Proofs.YtfbhdkkmcfnghaaGreatDoor
