/- Walks of Text, of the program and of the reference. Condition: the text has at most 2^40 bytes. -/
import Derived.Test.YtkhepehgafijfaaVarintPut
namespace Go.Proofs.Ytkhepehgafijfaa
open Go.RowKit

theorem put_len (n : Nat) : 1 ≤ (Vr.put n).length ∧ (Vr.put n).length ≤ 10 := Vr.putF_len 9 n

set_option maxHeartbeats 400000 in
set_option maxRecDepth 100000 in
theorem text_any (l : List UInt8) (w : World) (hl : l.length ≤ 1099511627776) :
    Calls Try.prog 44 #[.string (bs l)] w fun e w' => e = .returned (.string (bs (Vr.text l))) ∧ Below w.heap.size w w' := by
  have HN : Hid (l.length < 2 * 128 ^ 9) := Lib.hid (by have e : 2 * 128 ^ 9 = 18446744073709551616 := rfl; omega)
  have hp := (put_len l.length).2
  have HP : Hid (Vr.putF 9 l.length = Vr.put l.length) := Lib.hid rfl
  go_enter Try.func44, Try.ntmps44
  go_wp2_with fail
  refine (put_any _ l.length (by omega) _ (by omega)).mono ?_
  try rw [HP.out]
  rintro e w1 ⟨rfl, hb⟩
  go_wp2_with fail
  go_ret
  exact ⟨rfl, hb⟩

set_option maxHeartbeats 400000 in
set_option maxRecDepth 100000 in
theorem refText_any (l : List UInt8) (w : World) (hl : l.length ≤ 1099511627776) :
    Calls Try.prog 48 #[.string (bs l)] w fun e w' => e = .returned (.string (bs (Vr.text l))) ∧ Below w.heap.size w w' := by
  have HN : Hid (l.length < 2 * 128 ^ 9) := Lib.hid (by have e : 2 * 128 ^ 9 = 18446744073709551616 := rfl; omega)
  have hp := (put_len l.length).2
  have HP : Hid (Vr.putF 9 l.length = Vr.put l.length) := Lib.hid rfl
  go_enter Try.func48, Try.ntmps48
  go_wp2_with fail
  refine (refPut_any 9 _ l.length _ (by omega) (by omega) (by omega) HN).mono ?_
  try rw [HP.out]
  rintro e w1 ⟨rfl, hb⟩
  go_wp2_with fail
  go_ret
  exact ⟨rfl, hb⟩

end Go.Proofs.Ytkhepehgafijfaa
