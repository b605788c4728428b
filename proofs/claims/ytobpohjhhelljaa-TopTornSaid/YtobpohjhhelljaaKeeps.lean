/- Blocks of the heap behind what a walk does; whole rows of cells read and written. -/
import Derived.Test.YtobpohjhhelljaaByt
import Derived.Test.YtobpohjhhelljaaRows
import Derived.WalkKit
import Derived.WalkLawsBesides
import Derived.Below
import Derived.Laws.AppendOwn
namespace Go.Proofs.Ytobpohjhhelljaa
open Go.RowKit
set_option linter.unusedVariables false
set_option linter.unusedSimpArgs false

/-! ### blocks of the heap behind what a walk does -/
end Go.Proofs.Ytobpohjhhelljaa
