/- What the rows' listed tables give the walks. -/
import Derived.Test.YtcokgpjmhacmeaaDoorQ4
import Derived.Test.YtcokgpjmhacmeaaDoorLaw
import Derived.Lib.LaidTab
import Derived.Stop.LaidErr
import Derived.Lay
import Derived.SevenTiedAt
import Derived.PinnedBridge
import Derived.Stop.Joined
namespace Go.Proofs.YtcokgpjmhacmeaaDoor
open Go.RowKit
set_option linter.unusedVariables false
set_option linter.unusedSimpArgs false
open Go.ChangeShapes Go.WideShapes Go.ChangeAt

theorem pow_data : (Rows.laid_internal_strconv_uint64pow10 : DataW Unit) = Lib.tabData .u64 Lib.pow10Tab := by kernel_rfl
theorem bru_data : (Rows.laid_math_bits_deBruijn64tab : DataW Unit) = Lib.tabData .u8 (Lib.deBruijn64tab.map fun n : Nat => (n : Int)) := by kernel_rfl
theorem tabs_of_laid {W : World} (hL : laidMet Tryd.prog Rows.quantParsesRow.laid W) : Tabs W := by
  have h1 : laidMet Tryd.prog (("math/bits.deBruijn64tab", Lib.tabData .u8 (Lib.deBruijn64tab.map fun n : Nat => (n : Int))) :: _) W := bru_data ▸ laidMet.tail hL
  have h2 : laidMet Tryd.prog (("internal/strconv.uint64pow10", Lib.tabData .u64 Lib.pow10Tab) :: _) W := pow_data ▸ laidMet.tail h1
  have t1 := Lib.tabIs_of_head (g := 0) (t := 66) (e := 5) (n := 64) (by kernel_rfl) (by kernel_rfl) (by kernel_rfl) (by kernel_rfl) (by kernel_rfl) (by kernel_rfl) h1
  have t2 := Lib.tabIs_of_head (g := 3) (t := 88) (e := 42) (n := 20) (by kernel_rfl) (by kernel_rfl) (by kernel_rfl) (by kernel_rfl) (by kernel_rfl) (by kernel_rfl) h2
  refine ⟨t2, fun j hj => ?_⟩
  have := t1.cell (g := 0) (by kernel_rfl) j (by simpa using hj)
  rw [show Tryd.lays729_ren.g 1 = 0 from rfl, this]
  congr 2
  simp only [List.getD_eq_getElem?_getD, List.getElem?_map]
  rw [List.getElem?_eq_getElem hj]
  rfl

end Go.Proofs.YtcokgpjmhacmeaaDoor
