/-
  The tie's facts, one by one: what the initialiser leaves.
-/
import Derived.Test.YtjflmmipjeangaaGreatDoorRows
import Derived.LaidByTextLater
import Derived.SevenTiedAt
import Derived.LaidSub
import Derived.LaidOnce
namespace Go.Proofs.YtjflmmipjeangaaGreatDoor.Own
open Go Go.Proofs.YtjflmmipjeangaaGreatDoor
set_option maxRecDepth 100000
theorem hrun : ∀ os tape, doorLeaves Tryz.prog 55 8 65 ([("sawmill/schedule.words", Rows.laid_sawmill_schedule_words), ("sawmill/ring.directions", Rows.laid_sawmill_ring_directions), ("sawmill/poly.turns", Rows.laid_sawmill_poly_turns), ("internal/strconv.uint64pow10", Rows.laid_internal_strconv_uint64pow10), ("math/bits.deBruijn32tab", Rows.laid_math_bits_deBruijn32tab), ("math/bits.deBruijn64tab", Rows.laid_math_bits_deBruijn64tab), ("sawmill/kiln.stillAir", Rows.laid_sawmill_kiln_stillAir), ("unicode/utf8.acceptRanges", Rows.laid_unicode_utf8_acceptRanges), ("sawmill/cutting.none", Rows.laid_sawmill_cutting_none)] : List (String × DataW Unit)) os tape = some (([("sawmill/schedule.words", Rows.laid_sawmill_schedule_words), ("sawmill/ring.directions", Rows.laid_sawmill_ring_directions), ("sawmill/poly.turns", Rows.laid_sawmill_poly_turns), ("internal/strconv.uint64pow10", Rows.laid_internal_strconv_uint64pow10), ("math/bits.deBruijn32tab", Rows.laid_math_bits_deBruijn32tab), ("math/bits.deBruijn64tab", Rows.laid_math_bits_deBruijn64tab), ("sawmill/kiln.stillAir", Rows.laid_sawmill_kiln_stillAir), ("unicode/utf8.acceptRanges", Rows.laid_unicode_utf8_acceptRanges), ("sawmill/cutting.none", Rows.laid_sawmill_cutting_none)] : List (String × DataW Unit)).filter fun x => x.2.handleName?.isNone, (funcsListed [("sawmill/schedule.words", Rows.laid_sawmill_schedule_words), ("sawmill/ring.directions", Rows.laid_sawmill_ring_directions), ("sawmill/poly.turns", Rows.laid_sawmill_poly_turns), ("internal/strconv.uint64pow10", Rows.laid_internal_strconv_uint64pow10), ("math/bits.deBruijn32tab", Rows.laid_math_bits_deBruijn32tab), ("math/bits.deBruijn64tab", Rows.laid_math_bits_deBruijn64tab), ("sawmill/kiln.stillAir", Rows.laid_sawmill_kiln_stillAir), ("unicode/utf8.acceptRanges", Rows.laid_unicode_utf8_acceptRanges), ("sawmill/cutting.none", Rows.laid_sawmill_cutting_none)]).map (·.2.funcsOut)) := fun _ _ => by kernel_rfl
end Go.Proofs.YtjflmmipjeangaaGreatDoor.Own
