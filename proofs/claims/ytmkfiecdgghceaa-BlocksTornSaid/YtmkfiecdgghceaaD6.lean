/- Layer 5 (blocks): BlocksPlays: the walk. -/
import Derived.Test.YtmkfiecdgghceaaOpen
namespace Go.Proofs.Ytmkfiecdgghceaa
open Go.RowKit
set_option linter.unusedVariables false
set_option linter.unusedSimpArgs false

theorem Sim.below {w w' : World} {B p q n : Nat} {bs : Bs} {last most : Nat} (h : Sim w B p q n bs last most) (hb : Below w.heap.size w w') : Sim w' B p q n bs last most := by
  obtain ⟨v, u, h1, h2⟩ := h
  exact ⟨v, u, h1.below hb, h2.below hb⟩

set_option maxRecDepth 100000 in
set_option maxHeartbeats 4000000 in
theorem plays_walk (k : Int) (x : Value) (n : Nat) (w : World) (h0 : 0 ≤ k) (h1 : k ≤ 255) (h : ArgD w w.heap.size x n) :
    Calls Try.prog 6 #[.int .u8 k, x] w fun e w' => e = .returned (.bool true) ∧ Below w.heap.size w w' := by
  have H := play_any k h0 h1 x n w h
  obtain ⟨ao, c, rfl, _⟩ := h
  generalize (k.tmod 24 + 1).toNat = most at H
  go_enter Try.func6, Try.ntmps6
  go_wp2_with (first | (go_at_call 22; refine H.mono ?_; clear H; rintro e w1 ⟨p, q, m, bs, last, rfl, hb, hs⟩; have HB := Lib.hid hb; have HS := Lib.hid hs; clear hb hs) | (go_at_call 11; refine (live_any _).mono ?_; rintro e w2 ⟨rfl, hb⟩; have HB := Lib.hid (HB.out.trans (hb.mono HB.out.size)); have HS := Lib.hid (HS.out.below hb); clear hb) | (go_at_call 26; refine (same_sim _ _ _ _ _ ⟨_, _, _, HS.out⟩).mono ?_; rintro e w3 ⟨rfl, hb⟩; have HB := Lib.hid (HB.out.trans (hb.mono HB.out.size)); clear hb))
  go_ret
  exact ⟨rfl, HB.out⟩

end Go.Proofs.Ytmkfiecdgghceaa
