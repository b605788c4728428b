/- Layer 3 (object): which objects are right; what a user may make. -/
import Derived.Test.YtobpohjhhelljaaO6
import Derived.Test.YtobpohjhhelljaaO7
import Derived.Test.YtobpohjhhelljaaO8
import Derived.Test.YtobpohjhhelljaaP8
import Derived.Test.YtobpohjhhelljaaQ8
import Derived.Test.YtobpohjhhelljaaO9
import Derived.Test.YtobpohjhhelljaaP9
namespace Go.Proofs.Ytobpohjhhelljaa
open Go.RowKit
set_option linter.unusedVariables false
set_option linter.unusedSimpArgs false


theorem right_kind4 (o : Obj) (w : World) (hf : o.Fits) (h1 : nameB o.name = true) (h2 : decide (restO o = bareO o.kind) = true) (h3 : namesB (textsO o) = true) (h4 : sizeB o.size = true) (h5 : sizeB o.got = true) (hk : o.kind = 4) :
    Calls Try.prog 56 #[.agg (cellsO o)] w fun e w' => e = .returned (.bool (kindB o)) ∧ Below w.heap.size w w' := by
  by_cases m1 : o.mode = 1
  · exact right_kind41 o w hf h1 h2 h3 h4 h5 hk m1
  · by_cases m2 : o.mode = 2
    · exact right_kind42 o w hf h1 h2 h3 h4 h5 hk m2
    · exact right_kind43 o w hf h1 h2 h3 h4 h5 hk ⟨m1, m2⟩
theorem right_kind5 (o : Obj) (w : World) (hf : o.Fits) (h1 : nameB o.name = true) (h2 : decide (restO o = bareO o.kind) = true) (h3 : namesB (textsO o) = true) (h4 : sizeB o.size = true) (h5 : sizeB o.got = true) (hk : o.kind = 5) :
    Calls Try.prog 56 #[.agg (cellsO o)] w fun e w' => e = .returned (.bool (kindB o)) ∧ Below w.heap.size w w' := by
  by_cases m1 : o.volume.toList = []
  · cases z : (o.mode == 1) with
    | true => exact right_kind511 o w hf h1 h2 h3 h4 h5 hk z m1
    | false => exact right_kind512 o w hf h1 h2 h3 h4 h5 hk z m1
  · by_cases m2 : o.node.toList = []
    · cases z : (o.mode == 1) with
      | true => exact right_kind521 o w hf h1 h2 h3 h4 h5 hk z ⟨m1, m2⟩
      | false => exact right_kind522 o w hf h1 h2 h3 h4 h5 hk z ⟨m1, m2⟩
    · cases m3 : decide (0 ≤ Lib.indexByte o.node.data.toList 47) with
      | true =>
        cases z : (o.mode == 1) with
        | true => exact right_kind531 o w hf h1 h2 h3 h4 h5 hk z ⟨m1, m2, m3⟩
        | false => exact right_kind532 o w hf h1 h2 h3 h4 h5 hk z ⟨m1, m2, m3⟩
      | false =>
        by_cases m4 : o.name = attachN o.volume o.node
        · cases z : (o.mode == 1) with
          | true => exact right_kind551 o w hf h1 h2 h3 h4 h5 hk z ⟨m1, m2, m3, m4, trivial⟩
          | false => exact right_kind552 o w hf h1 h2 h3 h4 h5 hk z ⟨m1, m2, m3, m4, trivial⟩
        · cases z : (o.mode == 1) with
          | true => exact right_kind541 o w hf h1 h2 h3 h4 h5 hk z ⟨m1, m2, m3, m4⟩
          | false => exact right_kind542 o w hf h1 h2 h3 h4 h5 hk z ⟨m1, m2, m3, m4⟩

theorem right_any (o : Obj) (w : World) (hf : o.Fits) : Calls Try.prog 56 #[.agg (cellsO o)] w fun e w' => e = .returned (.bool (rightB o)) ∧ Below w.heap.size w w' := by
  cases h1 : nameB o.name with
  | false => simpa [rightB, formB, h1] using right_bad0 o w hf h1
  | true =>
    cases h2 : decide (restO o = bareO o.kind) with
    | false => simpa [rightB, formB, h2] using right_bad1 o w hf h1 h2
    | true =>
      cases h3 : namesB (textsO o) with
      | false => simpa [rightB, formB, h3] using right_bad2 o w hf h1 h2 h3
      | true =>
        cases h4 : sizeB o.size with
        | false => simpa [rightB, formB, h4] using right_bad3 o w hf h1 h2 h3 h4
        | true =>
          cases h5 : sizeB o.got with
          | false => simpa [rightB, formB, h5] using right_bad4 o w hf h1 h2 h3 h4 h5
          | true =>
            have e : rightB o = kindB o := by simp only [rightB, formB, h1, h2, h3, h4, h5, Bool.and_self, Bool.true_and]
            rw [e]
            by_cases k1 : o.kind = 1
            · exact right_kind1 o w hf h1 h2 h3 h4 h5 k1
            by_cases k2 : o.kind = 2
            · exact right_kind2 o w hf h1 h2 h3 h4 h5 k2
            by_cases k3 : o.kind = 3
            · exact right_kind3 o w hf h1 h2 h3 h4 h5 k3
            by_cases k4 : o.kind = 4
            · exact right_kind4 o w hf h1 h2 h3 h4 h5 k4
            by_cases k5 : o.kind = 5
            · exact right_kind5 o w hf h1 h2 h3 h4 h5 k5
            by_cases k6 : o.kind = 6
            · exact right_kind6 o w hf h1 h2 h3 h4 h5 k6
            by_cases k7 : o.kind = 7
            · exact right_kind7 o w hf h1 h2 h3 h4 h5 k7
            exact right_kind0 o w hf h1 h2 h3 h4 h5 ⟨k1, k2, k3, k4, k5, k6, k7⟩

end Go.Proofs.Ytobpohjhhelljaa
