/-
  DERIVED. GIVEN WITH THE SEED: THE PROGRAM's TIES (one call each: nine closed facts by the kernel) AND EACH ROW's TIE, after the 31st guide's Derived/Test/Toyas{Tie, Card}.lean. No idea stands in it: it is a product of the set-up. Laid BY PROGRAM, IN A SANDBOX (cutbox-door.mjs). By AI agents, Wed Nov 11 2026. No macro, syntax, notation, axiom, sorry.
-/
import Derived.Test.YtfcdkadblagijaaDoorRows
import Derived.LaidByTextLater
import Derived.SevenTiedAt
import Derived.LaidSub
import Derived.LaidOnce
namespace Go.Proofs.YtfcdkadblagijaaDoor
open Go
set_option maxRecDepth 100000
theorem seatTie1 : Tryd.prog.laidByTextLater [("math/bits.deBruijn32tab", Rows.laid_math_bits_deBruijn32tab), ("math/bits.deBruijn64tab", Rows.laid_math_bits_deBruijn64tab), ("internal/strconv.uint64pow10", Rows.laid_internal_strconv_uint64pow10), ("sluice/api.Keywords", Rows.laid_sluice_api_Keywords), ("sluice/lex.spellings", Rows.laid_sluice_lex_spellings), ("sluice/sluiceref5.signs", Rows.laid_sluice_sluiceref5_signs), ("sluice/sluiceref5.calls", Rows.laid_sluice_sluiceref5_calls), ("sluice/show.levels", Rows.laid_sluice_show_levels), ("sluice/show.signs", Rows.laid_sluice_show_signs), ("sluice/show.afters", Rows.laid_sluice_show_afters)] [.data, .data, .data, .data, .data, .data, .data, .data, .data, .data] true :=
  Program.laidByTextLater_by_one 59 8 65 (by kernel_rfl) (by kernel_rfl) (by kernel_rfl) (by kernel_rfl) (by kernel_rfl) (by kernel_rfl) (fun _ _ => by kernel_rfl)
theorem noOwnUnsafe : Tryd.pinned.checked.prog.headLifts.contains "ownunsafe" = false := by kernel_rfl
theorem tie : Tryd.prog.laidByTextLater [("sluice/api.Keywords", Rows.laid_sluice_api_Keywords)] [.data] true :=
  Program.laidByTextLater.sub seatTie1 ["sluice/api.Keywords"] (by kernel_rfl) (by kernel_rfl)
theorem showTrees_row_tie : Rows.showTreesRow.laidByTextAt .later Tryd.pinned [.data] true :=
  OpenClaim.laidByTextAt_later rfl rfl tie noOwnUnsafe
theorem tie2 : Tryd.prog.laidByTextLater [("math/bits.deBruijn32tab", Rows.laid_math_bits_deBruijn32tab), ("math/bits.deBruijn64tab", Rows.laid_math_bits_deBruijn64tab), ("internal/strconv.uint64pow10", Rows.laid_internal_strconv_uint64pow10), ("sluice/api.Keywords", Rows.laid_sluice_api_Keywords), ("sluice/lex.spellings", Rows.laid_sluice_lex_spellings), ("sluice/sluiceref5.signs", Rows.laid_sluice_sluiceref5_signs), ("sluice/sluiceref5.calls", Rows.laid_sluice_sluiceref5_calls), ("sluice/show.levels", Rows.laid_sluice_show_levels), ("sluice/show.signs", Rows.laid_sluice_show_signs)] [.data, .data, .data, .data, .data, .data, .data, .data, .data] true :=
  Program.laidByTextLater.sub seatTie1 ["math/bits.deBruijn32tab", "math/bits.deBruijn64tab", "internal/strconv.uint64pow10", "sluice/api.Keywords", "sluice/lex.spellings", "sluice/sluiceref5.signs", "sluice/sluiceref5.calls", "sluice/show.levels", "sluice/show.signs"] (by kernel_rfl) (by kernel_rfl)
theorem showExprs_row_tie : Rows.showExprsRow.laidByTextAt .later Tryd.pinned [.data, .data, .data, .data, .data, .data, .data, .data, .data] true :=
  OpenClaim.laidByTextAt_later rfl rfl tie2 noOwnUnsafe
theorem tie3 : Tryd.prog.laidByTextLater [("math/bits.deBruijn32tab", Rows.laid_math_bits_deBruijn32tab), ("math/bits.deBruijn64tab", Rows.laid_math_bits_deBruijn64tab), ("internal/strconv.uint64pow10", Rows.laid_internal_strconv_uint64pow10), ("sluice/api.Keywords", Rows.laid_sluice_api_Keywords), ("sluice/lex.spellings", Rows.laid_sluice_lex_spellings), ("sluice/sluiceref5.signs", Rows.laid_sluice_sluiceref5_signs), ("sluice/sluiceref5.calls", Rows.laid_sluice_sluiceref5_calls), ("sluice/show.levels", Rows.laid_sluice_show_levels), ("sluice/show.signs", Rows.laid_sluice_show_signs), ("sluice/show.afters", Rows.laid_sluice_show_afters)] [.data, .data, .data, .data, .data, .data, .data, .data, .data, .data] true :=
  Program.laidByTextLater.sub seatTie1 ["math/bits.deBruijn32tab", "math/bits.deBruijn64tab", "internal/strconv.uint64pow10", "sluice/api.Keywords", "sluice/lex.spellings", "sluice/sluiceref5.signs", "sluice/sluiceref5.calls", "sluice/show.levels", "sluice/show.signs", "sluice/show.afters"] (by kernel_rfl) (by kernel_rfl)
theorem showPrints_row_tie : Rows.showPrintsRow.laidByTextAt .later Tryd.pinned [.data, .data, .data, .data, .data, .data, .data, .data, .data, .data] true :=
  OpenClaim.laidByTextAt_later rfl rfl tie3 noOwnUnsafe
theorem showTreesUpto_row_tie : Rows.showTreesUptoRow.laidByTextAt .later Tryd.pinned [.data] true :=
  OpenClaim.laidByTextAt_later rfl rfl tie noOwnUnsafe
theorem showExprsUpto_row_tie : Rows.showExprsUptoRow.laidByTextAt .later Tryd.pinned [.data, .data, .data, .data, .data, .data, .data, .data, .data] true :=
  OpenClaim.laidByTextAt_later rfl rfl tie2 noOwnUnsafe
theorem showPrintsUpto_row_tie : Rows.showPrintsUptoRow.laidByTextAt .later Tryd.pinned [.data, .data, .data, .data, .data, .data, .data, .data, .data, .data] true :=
  OpenClaim.laidByTextAt_later rfl rfl tie3 noOwnUnsafe
end Go.Proofs.YtfcdkadblagijaaDoor
