/- Layer 1 (quant): the walk of TopRoom. -/
import Derived.Test.YtcokgpjmhacmeaaDoorX4
namespace Go.Proofs.YtcokgpjmhacmeaaDoor
open Go.RowKit
set_option linter.unusedVariables false
set_option linter.unusedSimpArgs false
open Go.Shelf

set_option maxRecDepth 100000 in
set_option maxHeartbeats 4000000 in
theorem room_walk (n m r : Int) (hn0 : 0 ≤ n) (hn1 : n ≤ 4294967295) (hm0 : 0 ≤ m) (hm1 : m ≤ 65535) (w : World) (hT : Tabs w) : Calls Tryd.prog 10 #[.int .u32 n, .int .u16 m, .int .i64 r] w fun e w' => e = .returned (.bool true) ∧ Below w.heap.size w w' := by
  have HT := Lib.hid hT
  have HB := Lib.hid (Below.refl w.heap.size w)
  clear hT
  obtain ⟨f1, f2, f3⟩ := up_fact hn0 (by omega : 1 ≤ m + 1)
  have HU := Lib.hid (show pRes (upF n (m + 1)) = .tuple #[.int .i64 ((n + (m + 1) - 1) / (m + 1) * (m + 1)), .int .i64 0] by
    unfold upF; rw [if_neg (by omega), if_neg (by omega)]; rfl)
  generalize (n + (m + 1) - 1) / (m + 1) * (m + 1) = x at *
  obtain ⟨X, rfl⟩ : ∃ X : Nat, x = (X : Int) := ⟨x.toNat, by omega⟩
  obtain ⟨P1, h1a, h1b⟩ := back_print (N := X) (by omega)
  have HS1 := Lib.hid h1a
  have HQ1 := Lib.hid h1b
  have ht : (X : Int).tmod (m + 1) = (X : Int) % (m + 1) := Int.tmod_eq_emod_of_nonneg (by omega)
  have w1 : IntKind.i64.wrap n = n := IntWalk.i64_in _ (by omega)
  have w2 : IntKind.i64.wrap m = m := IntWalk.i64_in _ (by omega)
  have w3 : wrap64 (m + 1) = m + 1 := by unfold wrap64; omega
  have hz : ¬ m + 1 = 0 := by omega
  clear h1a h1b
  by_cases hf : (X : Int) ≤ r
  all_goals
    have HF := Lib.hid (show fitF (X : Int) r = decide ((X : Int) ≤ r) by simp [fitF])
    go_enter Tryd.func10, Tryd.ntmps10
    go_wp2_with (first | (go_at_call 17; refine (up_any n (m + 1) _).mono ?_; rw [HU.out]; rintro e w3 ⟨rfl, rfl⟩) | (go_at_call 16; refine (print_any _ _ HT.out).mono ?_; rw [HS1.out]; rintro e w1 ⟨rfl, hb⟩; have HT := Lib.hid (HT.out.below hb); have HB := Lib.hid (HB.out.trans (hb.mono HB.out.size)); clear hb) | (go_at_call 11; refine (HQ1.out _).mono ?_; rintro e w2 ⟨rfl, hb⟩; have HT := Lib.hid (HT.out.below hb); have HB := Lib.hid (HB.out.trans (hb.mono HB.out.size)); clear hb) | (go_at_call 18; refine (fits_any _ _ _).mono ?_; rw [HF.out]; rintro e w6 ⟨rfl, rfl⟩))
    go_ret
    exact ⟨rfl, HB.out⟩

end Go.Proofs.YtcokgpjmhacmeaaDoor
