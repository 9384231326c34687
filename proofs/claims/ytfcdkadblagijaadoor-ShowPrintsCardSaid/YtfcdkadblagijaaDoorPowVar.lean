/-
  The table of tens: what the rows list of it.
-/
import Derived.Test.YtfcdkadblagijaaDoorKit
import Derived.Lib.ItoaMem
import Derived.Shelf.Strconv.Itoa1
namespace Go.Proofs.YtfcdkadblagijaaDoor
open Go.RowKit
theorem gPow : Tryd.prog.globalNamed "internal/strconv.uint64pow10" = some 7 := by kernel_rfl
theorem tPow : (Tryd.prog.globals[7]?).map (·.type) = some 109 := by kernel_rfl
theorem powVar {W : World} {laid : List (String × DataW Unit)} (h : laidMet Tryd.prog laid W) (i : Nat) (hi : laid[i]? = some ("internal/strconv.uint64pow10", Rows.laid_internal_strconv_uint64pow10)) :
    Lib.TabIs Tryd.prog W "internal/strconv.uint64pow10" .u64 Lib.pow10Tab := by
  obtain ⟨cs, fuel, p, hv, hd⟩ := laid_at h i hi gPow tPow
  have hc := Lib.cells_of_tab (zs := Lib.pow10Tab) (k := .u64) Tryd.underlying109 Tryd.underlying100 (by kernel_rfl) (by kernel_rfl) hd
  unfold Lib.TabIs
  rw [hv]
  congr 1
  apply Array.ext'
  rw [List.toList_toArray]
  exact hc
end Go.Proofs.YtfcdkadblagijaaDoor
