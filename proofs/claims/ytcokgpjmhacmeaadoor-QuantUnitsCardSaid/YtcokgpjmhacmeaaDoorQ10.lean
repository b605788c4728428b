/- Layer 1 (quant): what must be whatever is asked. -/
import Derived.Test.YtcokgpjmhacmeaaDoorQ9
namespace Go.Proofs.YtcokgpjmhacmeaaDoor
open Go.RowKit
set_option linter.unusedVariables false
set_option linter.unusedSimpArgs false
open Go.Shelf

theorem print2048 : printF 2048 = ([50, 75, 105], 0) := by
  have h1 : tz 2048 = 1 := by decide
  unfold printF printN
  rw [if_neg (by omega), if_neg (by decide), show (2048 : Int).toNat = 2048 from rfl, h1, show 2048 / 1024 ^ 1 = 2 from rfl, Lib.decDigits_one (by omega)]
  rfl

set_option maxHeartbeats 2000000 in
theorem live_any (w : World) (hT : Tabs w) : Calls Tryd.prog 15 #[] w fun e w' => e = .returned (.bool true) ∧ Below w.heap.size w w' := by
  have HT := Lib.hid hT
  clear hT
  have HPa := Lib.hid (show pRes (parseF (⟨#[49, 48, 71, 105]⟩ : ByteArray).data.toList) = .tuple #[.int .i64 10737418240, .int .i64 0] by rfl)
  have HPr := Lib.hid (show sRes (printF 2048) = .tuple #[.string ⟨#[50, 75, 105]⟩, .int .i64 0] by rw [print2048]; rfl)
  have HUp := Lib.hid (show pRes (upF 5 4) = .tuple #[.int .i64 8, .int .i64 0] by rfl)
  go_enter Tryd.func15, Tryd.ntmps15
  go_wp2_with (first | (go_at_call 11; refine (parse_any _ (by decide) _).mono ?_; rw [HPa.out]; rintro e w1 ⟨rfl, hb⟩; have HT := Lib.hid (HT.out.below hb); have HB := Lib.hid hb; clear hb) | (go_at_call 16; refine (print_any _ _ HT.out).mono ?_; rw [HPr.out]; rintro e w2 ⟨rfl, hb⟩; have HB := Lib.hid (HB.out.trans (hb.mono HB.out.size)); clear hb) | (go_at_call 17; refine (up_any _ _ _).mono ?_; rw [HUp.out]; rintro e w3 ⟨rfl, rfl⟩) | (go_at_call 18; refine (fits_any _ _ _).mono ?_; rw [show fitF 3 3 = true by decide]; rintro e w4 ⟨rfl, rfl⟩))
  go_ret
  exact ⟨rfl, HB.out⟩

end Go.Proofs.YtcokgpjmhacmeaaDoor
