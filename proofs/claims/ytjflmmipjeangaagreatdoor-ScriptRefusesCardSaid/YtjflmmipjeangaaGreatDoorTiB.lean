/-
  The tie's facts, one by one: which variables are laid.
-/
import Derived.Test.YtjflmmipjeangaaGreatDoorRows
import Derived.LaidByTextLater
import Derived.SevenTiedAt
import Derived.LaidSub
import Derived.LaidOnce
import Derived.Test.YtjflmmipjeangaaGreatDoorTiA
namespace Go.Proofs.YtjflmmipjeangaaGreatDoor.Own
open Go Go.Proofs.YtjflmmipjeangaaGreatDoor
set_option maxRecDepth 100000
theorem hn : varsNamedLaterB Tryz.prog (varsId Tryz.prog) [("sawmill/schedule.words", Rows.laid_sawmill_schedule_words), ("sawmill/ring.directions", Rows.laid_sawmill_ring_directions), ("sawmill/poly.turns", Rows.laid_sawmill_poly_turns), ("internal/strconv.uint64pow10", Rows.laid_internal_strconv_uint64pow10), ("math/bits.deBruijn32tab", Rows.laid_math_bits_deBruijn32tab), ("math/bits.deBruijn64tab", Rows.laid_math_bits_deBruijn64tab), ("sawmill/kiln.stillAir", Rows.laid_sawmill_kiln_stillAir), ("unicode/utf8.acceptRanges", Rows.laid_unicode_utf8_acceptRanges), ("sawmill/cutting.none", Rows.laid_sawmill_cutting_none)] = true := by rw [vid]; kernel_rfl
theorem noOwnUnsafe : Tryz.pinned.checked.prog.headLifts.contains "ownunsafe" = false := by kernel_rfl
theorem hw : Tryz.prog.worded (varsWordLater true) = true := by kernel_rfl
theorem hw' : Tryz.prog.worded (varsWordLater !true) = false := by kernel_rfl
theorem hroot : Tryz.prog.worded rootWordLater = true := by kernel_rfl
theorem hk : ([("sawmill/schedule.words", Rows.laid_sawmill_schedule_words), ("sawmill/ring.directions", Rows.laid_sawmill_ring_directions), ("sawmill/poly.turns", Rows.laid_sawmill_poly_turns), ("internal/strconv.uint64pow10", Rows.laid_internal_strconv_uint64pow10), ("math/bits.deBruijn32tab", Rows.laid_math_bits_deBruijn32tab), ("math/bits.deBruijn64tab", Rows.laid_math_bits_deBruijn64tab), ("sawmill/kiln.stillAir", Rows.laid_sawmill_kiln_stillAir), ("unicode/utf8.acceptRanges", Rows.laid_unicode_utf8_acceptRanges), ("sawmill/cutting.none", Rows.laid_sawmill_cutting_none)] : List (String × DataW Unit)).map (fun x => Tryz.prog.kindOfLater x.1) = ([.data, .data, .data, .data, .data, .data, .data, .data, .data] : List LaidKind).map some := by kernel_rfl
end Go.Proofs.YtjflmmipjeangaaGreatDoor.Own
