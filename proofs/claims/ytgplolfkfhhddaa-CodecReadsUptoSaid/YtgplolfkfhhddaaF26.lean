/- Layer 3 (object): the document's answer on what is right. -/
import Derived.Test.YtgplolfkfhhddaaO26
import Derived.Test.YtgplolfkfhhddaaG26
import Derived.Test.YtgplolfkfhhddaaA26
import Derived.Test.YtgplolfkfhhddaaB26
import Derived.Test.YtgplolfkfhhddaaC26
import Derived.Test.YtgplolfkfhhddaaD26
import Derived.Test.YtgplolfkfhhddaaE26
import Derived.Deep.Cut
import Derived.Deep.CutRange
namespace Go.Proofs.Ytgplolfkfhhddaa
open Go.RowKit
set_option linter.unusedVariables false
set_option linter.unusedSimpArgs false
open Go.ChangeShapes Go.WideShapes Go.ChangeAt

theorem rightR_bad (o : Obj) (w : World) (hf : o.Fits) (hform : formB o = false) : Calls Try.prog 12 #[.agg (cellsO o)] w fun e w' => e = .returned (.bool false) ∧ Below w.heap.size w w' := by
  have h := @rightB_form o
  cases hn : nameB o.name
  · exact rightR_bad1 o w hf hn
  cases hE : decide (o = bareR o)
  · exact rightR_bad2 o w hf hn hE
  cases hT : namesB (textsO o)
  · exact rightR_bad3 o w hf hn hE hT
  by_cases c4 : o.size < 0
  · exact rightR_bad4 o w hf hn hE hT c4
  by_cases c5 : 1125899906842624 < o.size
  · exact rightR_bad5 o w hf hn hE hT c4 c5
  by_cases c6 : o.got < 0
  · exact rightR_bad6 o w hf hn hE hT c4 c5 c6
  by_cases c7 : 1125899906842624 < o.got
  · exact rightR_bad7 o w hf hn hE hT c4 c5 c6 c7
  rw [hform, hn, hE, hT] at h
  have := h.symm
  simp at this
  omega
theorem rightR_any (o : Obj) (w : World) (hf : o.Fits) : Calls Try.prog 12 #[.agg (cellsO o)] w fun e w' => e = .returned (.bool (rightB o)) ∧ Below w.heap.size w w' := by
  cases hform : formB o
  · refine (rightR_bad o w hf hform).mono fun e w' h => ⟨?_, h.2⟩
    rw [h.1]; unfold rightB; rw [hform]; rfl
  by_cases k1 : o.kind = 1
  · exact rightR_1 o w hf k1 hform
  by_cases k2 : o.kind = 2
  · exact rightR_2 o w hf k2 hform
  by_cases k3 : o.kind = 3
  · exact rightR_3 o w hf k3 hform
  by_cases k4 : o.kind = 4
  · exact rightR_4 o w hf k4 hform
  by_cases k5 : o.kind = 5
  · exact rightR_5 o w hf k5 hform
  by_cases k6 : o.kind = 6
  · exact rightR_6 o w hf k6 hform
  by_cases k7 : o.kind = 7
  · exact rightR_7 o w hf k7 hform
  exact rightR_0 o w hf k1 k2 k3 k4 k5 k6 k7 hform

end Go.Proofs.Ytgplolfkfhhddaa
