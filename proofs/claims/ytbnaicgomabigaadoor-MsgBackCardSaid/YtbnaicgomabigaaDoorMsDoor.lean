/- What the condition of the rows on messages gives: what the library's variables hold; a world that meets it. -/
import Derived.Test.YtbnaicgomabigaaDoorPgDoor
namespace Go.Proofs.YtbnaicgomabigaaDoor
open Go.ChangeShapes Go.WideShapes Go.ChangeAt Go.RowKit

def laidMg : List (String × DataW Unit) := [("math/bits.deBruijn32tab", Rows.laid_math_bits_deBruijn32tab), ("math/bits.deBruijn64tab", Rows.laid_math_bits_deBruijn64tab), ("internal/strconv.uint64pow10", Rows.laid_internal_strconv_uint64pow10), ("unicode/utf8.acceptRanges", Rows.laid_unicode_utf8_acceptRanges), ("strconv.ErrRange", Rows.laid_strconv_ErrRange), ("strconv.ErrSyntax", Rows.laid_strconv_ErrSyntax), ("unicode/utf8.first", Rows.laid_unicode_utf8_first)]
theorem doorMg_met (os : Os) (args : Array Value) : laidMetH Tryd.prog laidMg ((World.laidAll Tryd.prog os laidMg).forCall (fun _ _ => 0) ⟨#[], args, []⟩).memory := by
  rw [MakeChecks.laidMetH_plain _ _ _ (by kernel_rfl)]
  exact laidMet_laidAll _ (by kernel_rfl) (by kernel_rfl)
theorem doorMg_shaped (os : Os) (args : Array Value) : ((World.laidAll Tryd.prog os laidMg).forCall (fun _ _ => 0) ⟨#[], args, []⟩).Shaped Tryd.prog := World.shaped_of_RefB (by kernel_rfl) (by kernel_rfl)
theorem mgEnv_of {W : World} (hS : W.ShapedOpen Tryd.prog) (h : laidMetH Tryd.prog laidMg W) : PgEnv W := by
  rw [MakeChecks.laidMetH_plain _ _ _ (by kernel_rfl)] at h
  exact ⟨max_of_shaped' hS, pow10_head h.tail.tail, syn_head h.tail.tail.tail.tail.tail⟩
end Go.Proofs.YtbnaicgomabigaaDoor
