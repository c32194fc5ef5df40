/- Walk of the statements' known: fixed calls of a config's functions. Conditions: what the library's variables hold. -/
import Derived.Test.YtfbhdkkmcfnghaaGreatDoorCfRead
import Derived.Test.YtfbhdkkmcfnghaaGreatDoorCfWrite
import Derived.Test.YtfbhdkkmcfnghaaGreatDoorCfSame
namespace Go.Proofs.YtfbhdkkmcfnghaaGreatDoor
open Go.RowKit
set_option linter.unusedVariables false
set_option linter.unusedSimpArgs false

namespace Cf
def kr : Ru := ⟨5, [⟨4, [], [47, 97]⟩, ⟨5, [107], [118, 32, 119]⟩], [98], 0, 0, 10, 3, 0, [], 100⟩
def kc : Cf := ⟨[kr], [37, 80, 65, 84, 72, 37, 32, 120]⟩
def kt : List UInt8 := [102, 111, 114, 109, 97, 116, 32, 37, 80, 65, 84, 72, 37, 32, 120, 10, 114, 117, 108, 101, 32, 53, 10, 112, 114, 101, 102, 105, 120, 32, 47, 97, 10, 104, 101, 97, 100, 32, 107, 32, 118, 32, 119, 10, 116, 111, 32, 98, 10, 100, 101, 108, 97, 121, 32, 49, 48, 32, 51, 10, 115, 97, 109, 112, 108, 101, 32, 49, 48, 48, 10, 101, 110, 100, 10]
def kt2 : List UInt8 := [114, 117, 108, 101, 32, 53, 10, 116, 111, 32, 98, 10, 114, 117, 108, 101, 10]
theorem kc_check : check kc = 0 := by rfl
theorem i5 : Lib.itoa 5 = [53] := itoa_pos1 (n := 5) (by omega)
theorem i3 : Lib.itoa 3 = [51] := itoa_pos1 (n := 3) (by omega)
theorem i1 : Lib.itoa 1 = [49] := itoa_pos1 (n := 1) (by omega)
theorem i10 : Lib.itoa 10 = [49, 48] := by
  rw [itoa_more (x := 10) (by decide), show (10 : Int).tdiv 10 = 1 from rfl, i1]; rfl
theorem i100 : Lib.itoa 100 = [49, 48, 48] := by
  rw [itoa_more (x := 100) (by decide), show (100 : Int).tdiv 10 = 10 from rfl, i10]; rfl
theorem kc_text : text kc = kt := by
  unfold text kc kr
  simp only [List.flatMap_cons, List.flatMap_nil]
  unfold ruleText lnRank lnPs lnTo lnAb lnDe lnMi lnSa
  simp only [List.map_cons, List.map_nil, i5, i10, i3, i100]
  rfl
theorem kc_write : write kc = (kt, 0) := by unfold write; rw [if_neg (by rw [kc_check]; simp), kc_text]
theorem kc_read : read kt = (kc, 0, 0) := by rw [← kc_text]; exact read_text kc_check (by rw [kc_text]; decide)
theorem kt2_read : read kt2 = (⟨[], []⟩, 3, 3) := by rfl
end Cf
set_option maxHeartbeats 4000000 in
set_option maxRecDepth 100000 in
theorem known13_any (w : World) (hm : MaxIs w) (hP : Pow10 w) : Calls Tryz.prog 26 #[] w fun e w' => e = .returned (.bool true) ∧ Below w.heap.size w w' := by
  have h1 := World.ownsRow_lit (base := w.heap.size) (e := 98) (size := 3) w #[.int .i64 4, .string ⟨#[]⟩, .string ⟨#[47, 97]⟩, .int .i64 5, .string ⟨#[107]⟩, .string ⟨#[118, 32, 119]⟩] 2 (Nat.le_refl _) (by unfold maxLen; omega) rfl
  have e1 : (w.alloc (.cells #[.int .i64 4, .string ⟨#[]⟩, .string ⟨#[47, 97]⟩, .int .i64 5, .string ⟨#[107]⟩, .string ⟨#[118, 32, 119]⟩] 98)).heap.size = w.heap.size + 1 := by simp
  have b1 := Below.alloc' (Below.self w) (.cells #[.int .i64 4, .string ⟨#[]⟩, .string ⟨#[47, 97]⟩, .int .i64 5, .string ⟨#[107]⟩, .string ⟨#[118, 32, 119]⟩] 98)
  obtain ⟨W1, hW1⟩ : ∃ W, w.alloc (.cells #[.int .i64 4, .string ⟨#[]⟩, .string ⟨#[47, 97]⟩, .int .i64 5, .string ⟨#[107]⟩, .string ⟨#[118, 32, 119]⟩] 98) = W := ⟨_, rfl⟩
  rw [hW1] at h1 e1 b1
  have h2 := World.ownsRow_lit (base := W1.heap.size) (e := 95) (size := 10) W1 #[.int .i64 5, .slice (some ⟨w.heap.size, 0, none⟩) 2 2, .string ⟨#[98]⟩, .int .i64 0, .int .i64 0, .int .i64 10, .int .i64 3, .int .i64 0, .string ⟨#[]⟩, .int .i64 100] 1 (Nat.le_refl _) (by unfold maxLen; omega) rfl
  have e2 : (W1.alloc (.cells #[.int .i64 5, .slice (some ⟨w.heap.size, 0, none⟩) 2 2, .string ⟨#[98]⟩, .int .i64 0, .int .i64 0, .int .i64 10, .int .i64 3, .int .i64 0, .string ⟨#[]⟩, .int .i64 100] 95)).heap.size = w.heap.size + 2 := by simp [e1]
  have b2 := Below.alloc' (Below.self W1) (.cells #[.int .i64 5, .slice (some ⟨w.heap.size, 0, none⟩) 2 2, .string ⟨#[98]⟩, .int .i64 0, .int .i64 0, .int .i64 10, .int .i64 3, .int .i64 0, .string ⟨#[]⟩, .int .i64 100] 95)
  obtain ⟨W2, hW2⟩ : ∃ W, W1.alloc (.cells #[.int .i64 5, .slice (some ⟨w.heap.size, 0, none⟩) 2 2, .string ⟨#[98]⟩, .int .i64 0, .int .i64 0, .int .i64 10, .int .i64 3, .int .i64 0, .string ⟨#[]⟩, .int .i64 100] 95) = W := ⟨_, rfl⟩
  rw [hW2] at h2 e2 b2
  have h3 := Held.made W2 [.slice (some ⟨w.heap.size + 1, 0, none⟩) 1 1, .string ⟨#[37, 80, 65, 84, 72, 37, 32, 120]⟩] 54
  have b3 := Below.alloc' (Below.self W2) (.cells #[.slice (some ⟨w.heap.size + 1, 0, none⟩) 1 1, .string ⟨#[37, 80, 65, 84, 72, 37, 32, 120]⟩] 54)
  obtain ⟨W3, hW3⟩ : ∃ W, W2.alloc (.cells #[.slice (some ⟨w.heap.size + 1, 0, none⟩) 1 1, .string ⟨#[37, 80, 65, 84, 72, 37, 32, 120]⟩] 54) = W := ⟨_, rfl⟩
  rw [show W2.alloc (.cells [.slice (some ⟨w.heap.size + 1, 0, none⟩) 1 1, .string ⟨#[37, 80, 65, 84, 72, 37, 32, 120]⟩].toArray 54) = W3 from hW3] at h3
  rw [hW3] at b3
  rw [e1] at h2
  rw [e2] at h3
  have hB3 := Below.call (Below.call b1 b2) b3
  have s1 : SlR W3 3 (.slice (some ⟨w.heap.size, 0, none⟩) 2 2) (Cf.kr.ps.map Pd.cells) := ((own_of_cells (enc := Pd.cells) (L := Cf.kr.ps) (fun _ => rfl) h1 rfl).keep b2).keep b3
  have hrs : RsR W3 (some ⟨w.heap.size + 1, 0, none⟩) 1 [⟨Cf.kr, some ⟨w.heap.size, 0, none⟩, 2⟩] := ⟨(own_of_cells (enc := Rm.cells) (L := [⟨Cf.kr, some ⟨w.heap.size, 0, none⟩, 2⟩]) (fun _ => rfl) h2 rfl).keep b3, fun m hm => by
    rw [List.mem_singleton.1 hm]
    refine ⟨s1, ?_, by simp [Cf.kr], by simp [Cf.kr]⟩
    intro p hp
    simp only [Cf.kr, List.mem_cons, List.not_mem_nil, or_false] at hp
    rcases hp with rfl | rfl <;> exact ⟨by decide, by decide⟩⟩
  have HX : Stow (((w.alloc (.cells #[.int .i64 4, .string ⟨#[]⟩, .string ⟨#[47, 97]⟩, .int .i64 5, .string ⟨#[107]⟩, .string ⟨#[118, 32, 119]⟩] 98)).alloc (.cells #[.int .i64 5, .slice (some ⟨w.heap.size, 0, none⟩) 2 2, .string ⟨#[98]⟩, .int .i64 0, .int .i64 0, .int .i64 10, .int .i64 3, .int .i64 0, .string ⟨#[]⟩, .int .i64 100] 95)).alloc (.cells #[.slice (some ⟨w.heap.size + 1, 0, none⟩) 1 1, .string ⟨#[37, 80, 65, 84, 72, 37, 32, 120]⟩] 54) = W3) := ⟨by rw [hW1, hW2, hW3]⟩
  have HWR := Stow.mk (cfWrite_any Cf.kc (some ⟨w.heap.size + 1, 0, none⟩) 1 [⟨Cf.kr, some ⟨w.heap.size, 0, none⟩, 2⟩] W3 hrs rfl (by decide) (hP.keep hB3))
  rw [Cf.kc_write] at HWR
  have HRS := Stow.mk hrs
  have HC3 : Stow (Held W3 (w.heap.size + 1 + 1) [.slice (some ⟨w.heap.size + 1, 0, none⟩) 1 1, .string ⟨#[37, 80, 65, 84, 72, 37, 32, 120]⟩]) := ⟨h3⟩
  have HM3 := Stow.mk (hm.keep hB3)
  have HB3 := Stow.mk hB3
  clear h1 h2 h3 e1 e2 b1 b2 b3 hW1 hW2 hW3 hB3 s1 hrs hm hP
  go_enter Tryz.func26, Tryz.ntmps26
  go_upto_region 3 with fail
  rw [HX.out, show (⟨(List.append [102, 111, 114, 109, 97, 116, 32, 37, 80, 65, 84, 72, 37, 32, 120, 10, 114, 117, 108, 101, 32, 53, 10, 112, 114, 101, 102, 105, 120, 32, 47, 97, 10, 104, 101, 97, 100] [32, 107, 32, 118, 32, 119, 10, 116, 111, 32, 98, 10, 100, 101, 108, 97, 121, 32, 49, 48, 32, 51, 10, 115, 97, 109, 112, 108, 101, 32, 49, 48, 48, 10, 101, 110, 100, 10]).toArray⟩ : ByteArray) = bs Cf.kt from rfl]
  have c0 := HC3.out.cell (i := 0) rfl
  have c1 := HC3.out.cell (i := 1) rfl
  go_wp2_with fail
  refine HWR.out.mono ?_
  rintro e w4 ⟨rfl, hb4⟩
  have HC4 := Stow.mk (HC3.out.kept hb4)
  have HB4 := Stow.mk (Below.call HB3.out hb4)
  have HR4 := Stow.mk (HRS.out.keep hb4)
  have HRD := Stow.mk (cfRead_any Cf.kt w4 (by decide) (HM3.out.keep hb4))
  have HM4 := Stow.mk (HM3.out.keep hb4)
  unfold ReadOut at HRD
  rw [Cf.kc_read] at HRD
  clear hb4 c0 c1 HWR HC3 HRS HB3
  go_wp2_with fail
  refine HRD.out.mono ?_
  rintro e w5 ⟨A5, k5, R5, rfl, hb5, hr5, hm5⟩
  have hl5 : R5.length = 1 := by
    have := congrArg List.length hm5
    simpa [Cf.kc] using this.symm
  rw [hl5]
  have HC5 := Stow.mk (HC4.out.kept hb5)
  have HB5 := Stow.mk (Below.call HB4.out hb5)
  have HR5 := Stow.mk (HR4.out.keep hb5)
  have HQ5 := Stow.mk hr5
  have HM5 := Stow.mk (HM4.out.keep hb5)
  have HE5 := Stow.mk hm5
  have HL5 := Stow.mk hl5
  have hd := Held.made w5 [.slice A5 1 k5, .string (bs [37, 80, 65, 84, 72, 37, 32, 120])] 54
  have hb6 := Below.alloc' (Below.self w5) (.cells #[.slice A5 1 k5, .string (bs [37, 80, 65, 84, 72, 37, 32, 120])] 54)
  obtain ⟨W6, hW6⟩ : ∃ W, w5.alloc (.cells #[.slice A5 1 k5, .string (bs [37, 80, 65, 84, 72, 37, 32, 120])] 54) = W := ⟨_, rfl⟩
  rw [show w5.alloc (.cells [.slice A5 1 k5, .string (bs [37, 80, 65, 84, 72, 37, 32, 120])].toArray 54) = W6 from hW6] at hd
  rw [hW6] at hb6
  have HX6 : Stow (w5.alloc (.cells #[.slice A5 1 k5, .string (bs Cf.kc.f)] 54) = W6) := ⟨hW6⟩
  have HD6 := Stow.mk hd
  have HB6 := Stow.mk hb6
  have HRD2 := Stow.mk (cfRead_any Cf.kt2 W6 (by decide) (HM5.out.keep hb6))
  unfold ReadOut at HRD2
  rw [Cf.kt2_read] at HRD2
  clear hb5 hr5 hm5 hl5 hd hb6 hW6 HRD HC4 HB4 HR4 HM4
  go_upto_region 5 with fail
  rw [HX6.out]
  go_wp2_with fail
  refine HRD2.out.mono ?_
  rintro e w7 ⟨A7, k7, R7, rfl, hb7, hr7, hm7⟩
  obtain rfl : R7 = [] := by
    have := congrArg List.length hm7
    simpa using this.symm
  have hb8 := Below.alloc' (Below.self w7) (.cells #[.slice A7 0 k7, .string ⟨#[]⟩] 54)
  have HB8 := Stow.mk (Below.call HB6.out (Below.call hb7 hb8))
  obtain ⟨W8, hW8⟩ : ∃ W, w7.alloc (.cells #[.slice A7 0 k7, .string ⟨#[]⟩] 54) = W := ⟨_, rfl⟩
  rw [hW8] at HB8 hb8
  have HX8 : Stow (w7.alloc (.cells #[.slice A7 0 k7, .string (bs [])] 54) = W8) := ⟨hW8⟩
  have h78 := Below.call hb7 hb8
  have HC8 := Stow.mk ((HC5.out.kept HB6.out).kept h78)
  have HD8 := Stow.mk (HD6.out.kept h78)
  have HRA := Stow.mk ((HQ5.out.keep HB6.out).keep h78)
  have HRB := Stow.mk ((HR5.out.keep HB6.out).keep h78)
  clear hb7 hr7 hm7 hb8 hW8 h78 HRD2
  go_upto_region 6 with fail
  rw [HX8.out]
  have c0 := HC8.out.cell (i := 0) rfl
  have c1 := HC8.out.cell (i := 1) rfl
  have d0 := HD8.out.cell (i := 0) rfl
  have d1 := HD8.out.cell (i := 1) rfl
  have HSM := Stow.mk (cfSame_any 1 R5 [⟨Cf.kr, some ⟨w.heap.size, 0, none⟩, 2⟩] A5 (some ⟨w.heap.size + 1, 0, none⟩) k5 1 [37, 80, 65, 84, 72, 37, 32, 120] W8 HL5.out HRA.out HRB.out HE5.out.symm)
  go_wp2_with fail
  refine HSM.out.mono ?_
  rintro e w9 ⟨rfl, hb9⟩
  have HC9 := Stow.mk (HC8.out.kept hb9)
  have HB9 := Stow.mk (Below.call HB5.out (Below.call HB8.out hb9))
  have HCK := Stow.mk (cfCheck_any Cf.kc (some ⟨w.heap.size + 1, 0, none⟩) 1 [⟨Cf.kr, some ⟨w.heap.size, 0, none⟩, 2⟩] w9 (HRB.out.keep hb9) rfl (by decide))
  rw [Cf.kc_check] at HCK
  clear hb9 c0 c1 d0 d1
  have c0 := HC9.out.cell (i := 0) rfl
  have c1 := HC9.out.cell (i := 1) rfl
  go_wp2_with fail
  refine HCK.out.mono ?_
  rintro e w10 ⟨rfl, hb10⟩
  have HB10 := Stow.mk (Below.call HB9.out hb10)
  clear hb10
  go_wp2_with fail
  go_ret
  exact ⟨rfl, HB10.out⟩
end Go.Proofs.YtfbhdkkmcfnghaaGreatDoor
