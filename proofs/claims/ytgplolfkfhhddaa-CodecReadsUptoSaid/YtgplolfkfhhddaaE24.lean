/- Layer 3 (object): the document's bare: an object with what its kind names, and nothing else. -/
import Derived.Test.YtgplolfkfhhddaaA24
import Derived.Test.YtgplolfkfhhddaaB24
import Derived.Test.YtgplolfkfhhddaaC24
import Derived.Test.YtgplolfkfhhddaaD24
namespace Go.Proofs.Ytgplolfkfhhddaa
open Go.RowKit
set_option linter.unusedVariables false
set_option linter.unusedSimpArgs false
open Go.ChangeShapes Go.WideShapes Go.ChangeAt

theorem bare_any (o : Obj) (w : World) : Calls Try.prog 28 #[.agg (cellsO o)] w fun e w' => e = .returned (.agg (cellsO (bareR o))) ∧ Below w.heap.size w w' := by
  by_cases k1 : o.kind = 1
  · exact bare_1 o w k1
  by_cases k2 : o.kind = 2
  · exact bare_2 o w k2
  by_cases k3 : o.kind = 3
  · exact bare_3 o w k3
  by_cases k4 : o.kind = 4
  · exact bare_4 o w k4
  by_cases k5 : o.kind = 5
  · exact bare_5 o w k5
  by_cases k6 : o.kind = 6
  · exact bare_6 o w k6
  by_cases k7 : o.kind = 7
  · exact bare_7 o w k7
  exact bare_0 o w k1 k2 k3 k4 k5 k6 k7

end Go.Proofs.Ytgplolfkfhhddaa
