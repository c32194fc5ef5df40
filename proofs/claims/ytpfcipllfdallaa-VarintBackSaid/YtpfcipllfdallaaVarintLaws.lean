/- The three statements on varint: their walks. Condition: what the form itself grants of arguments. -/
import Derived.Test.YtpfcipllfdallaaVarintTake
import Derived.Test.YtpfcipllfdallaaVarintText
namespace Go.Proofs.Ytpfcipllfdallaa
open Go.RowKit

set_option maxHeartbeats 400000 in
set_option maxRecDepth 100000 in
theorem known02_any (w : World) : Calls Try.prog 17 #[] w fun e w' => e = .returned (.bool true) ∧ Below w.heap.size w w' := by
  have H1 : Hid (Vr.get [172, 2, 120] 0 = (300, 2, 0)) := Lib.hid (by decide +kernel)
  have H2 : Hid (Vr.take [120, 2, 97, 98, 99] 1 9 = ([97, 98], 4, 0)) := Lib.hid (by decide +kernel)
  have H3 : Hid (Vr.put 300 = [172, 2]) := Lib.hid (by decide +kernel)
  have H4 : Hid (Vr.text [97, 98] = [2, 97, 98]) := Lib.hid (by decide +kernel)
  go_enter Try.func17, Try.ntmps17
  go_wp2_with fail
  refine (get_any [172, 2, 120] 0 _ (by decide)).mono ?_
  rw [H1.out]
  rintro e w' ⟨rfl, rfl⟩
  go_wp2_with fail
  refine (take_any [120, 2, 97, 98, 99] 1 9 _ (by decide) (by decide) (by decide)).mono ?_
  rw [H2.out]
  rintro e w' ⟨rfl, rfl⟩
  go_wp2_with fail
  refine (put_any _ 300 rfl _ (by decide)).mono ?_
  rw [H3.out]
  rintro e w1 ⟨rfl, hb1⟩
  go_wp2_with fail
  refine (text_any [97, 98] _ (by decide)).mono ?_
  rw [H4.out]
  rintro e w2 ⟨rfl, hb2⟩
  go_wp2_with fail
  go_ret
  exact ⟨rfl, hb1.trans (hb2.mono hb1.size)⟩

set_option maxHeartbeats 400000 in
set_option maxRecDepth 100000 in
theorem forms_walk (n : Nat) (l : List UInt8) (x : Int) (w : World) (hn : n < 18446744073709551616) (hl : l.length ≤ 9223372036854775807) (hx2 : x ≤ 9223372036854775807) :
    Calls Try.prog 3 #[.int .u64 n, .string (bs l), .int .i64 x] w fun e w' => e = .returned (.bool true) ∧ Below w.heap.size w w' := by
  obtain ⟨a, b, c, hg⟩ : ∃ a b c, Vr.get l x = (a, b, c) := ⟨_, _, _, rfl⟩
  have HG := Lib.hid hg; clear hg
  have HN : Hid (n < 2 * 128 ^ 9) := Lib.hid (by have e : 2 * 128 ^ 9 = 18446744073709551616 := rfl; omega)
  have HP : Hid (Vr.putF 9 n = Vr.put n) := Lib.hid rfl
  go_enter Try.func3, Try.ntmps3
  go_wp2_with fail
  refine (get_any l x _ hl).mono ?_
  rw [HG.out]
  rintro e w' ⟨rfl, rfl⟩
  go_wp2_with fail
  refine (refGet_any l x _ hl hx2).mono ?_
  rw [HG.out]
  rintro e w' ⟨rfl, rfl⟩
  go_wp2_with fail
  refine (put_any _ n rfl _ hn).mono ?_
  rintro e w1 ⟨rfl, hb1⟩
  go_wp2_with fail
  refine (refPut_any 9 _ n _ rfl hn (by omega) HN).mono ?_
  rw [HP.out]
  rintro e w2 ⟨rfl, hb2⟩
  go_wp2_with fail
  refine (known02_any _).mono ?_
  rintro e w3 ⟨rfl, hb3⟩
  go_wp2_with fail
  go_ret
  exact ⟨rfl, hb1.trans ((hb2.mono hb1.size).trans (hb3.mono (Nat.le_trans hb1.size hb2.size)))⟩

set_option maxHeartbeats 400000 in
set_option maxRecDepth 100000 in
theorem texts_walk (l : List UInt8) (x most : Int) (w : World) (hl : l.length ≤ 9223372036854775807) (hx2 : x ≤ 9223372036854775807) (hm2 : most ≤ 9223372036854775807) :
    Calls Try.prog 4 #[.string (bs l), .int .i64 x, .int .i64 most] w fun e w' => e = .returned (.bool true) ∧ Below w.heap.size w w' := by
  by_cases h2 : 2000 < l.length
  · go_enter Try.func4, Try.ntmps4
    go_wp2_with fail
    refine (known02_any _).mono ?_
    rintro e w3 ⟨rfl, hb3⟩
    go_wp2_with fail
    go_ret
    exact ⟨rfl, hb3⟩
  obtain ⟨a, b, c, hg⟩ : ∃ a b c, Vr.take l x most = (a, b, c) := ⟨_, _, _, rfl⟩
  have HG := Lib.hid hg; clear hg
  go_enter Try.func4, Try.ntmps4
  go_wp2_with fail
  refine (take_any l x most _ hl hx2 hm2).mono ?_
  rw [HG.out]
  rintro e w' ⟨rfl, rfl⟩
  go_wp2_with fail
  refine (refTake_any l x most _ hl hx2 hm2).mono ?_
  rw [HG.out]
  rintro e w' ⟨rfl, rfl⟩
  go_wp2_with fail
  refine (text_any l _ (by omega)).mono ?_
  rintro e w1 ⟨rfl, hb1⟩
  go_wp2_with fail
  refine (refText_any l _ (by omega)).mono ?_
  rintro e w2 ⟨rfl, hb2⟩
  go_wp2_with fail
  refine (known02_any _).mono ?_
  rintro e w3 ⟨rfl, hb3⟩
  go_wp2_with fail
  go_ret
  exact ⟨rfl, hb1.trans ((hb2.mono hb1.size).trans (hb3.mono (Nat.le_trans hb1.size hb2.size)))⟩
end Go.Proofs.Ytpfcipllfdallaa
