/- Layer 4 (codec), CodecSmall: the walk. -/
import Derived.Test.YtgplolfkfhhddaaK2
namespace Go.Proofs.Ytgplolfkfhhddaa
open Go.RowKit
set_option linter.unusedVariables false
set_option linter.unusedSimpArgs false

set_option maxRecDepth 100000 in
set_option maxHeartbeats 4000000 in
theorem small_walk (c : Ev) (w : World) (ht : c.Typed) (hf : c.obj.Fits) : Calls Try.prog 6 #[.agg (cellsEv c)] w fun e w' => e = .returned (.bool true) ∧ Below w.heap.size w w' := by
  have hE0 : EvBox (w.alloc (.cells (cellsEv c) 39)) w.heap.size c := ⟨heap_alloc_eq⟩
  have HE := Lib.hid hE0
  have HB0 := Lib.hid ((Below.refl w.heap.size w).alloc (Nat.le_refl _) (.cells (cellsEv c) 39))
  have HT := Lib.hid ht
  have HF := Lib.hid hf
  clear hE0 ht hf
  cases hr : rightB c.obj with
  | false =>
    have HR := Lib.hid hr
    clear hr
    go_enter Try.func6, Try.ntmps6
    go_wp2_with (first
      | refine wpList_loadEv rfl _ rfl w.heap.size rfl c HE.out ?_
      | (go_at_call 15; refine (change_any c _ HT.out HF.out).mono ?_; rw [HR.out]; rintro e w1 ⟨v, rfl, hown, hb⟩; have HB1 := Lib.hid (HB0.out.trans (hb.mono HB0.out.size)); clear hown hb)
      | (go_at_call 13; refine (live_any _).mono ?_; rintro e w2 ⟨rfl, hb⟩; have HB2 := Lib.hid (HB1.out.trans (hb.mono HB1.out.size)); clear hb))
    go_ret
    exact ⟨rfl, HB2.out⟩
  | true =>
    have HR := Lib.hid hr
    have hl := chE_len HT.out hr
    clear hr
    obtain ⟨L, hL⟩ : ∃ L, (chE c).length = L := ⟨_, rfl⟩
    rw [hL] at hl
    have HL := Lib.hid hL
    have d1 : decide ((20 : Int) ≤ (L : Int)) = true := by simp; omega
    have d1n : decide (20 ≤ L) = true := by simp; omega
    have d2 : decide ((L : Int) ≤ 1024) = true := by simp; omega
    have d2n : decide (L ≤ 1024) = true := by simp; omega
    clear hL hl
    go_enter Try.func6, Try.ntmps6
    go_wp2_with (first
      | refine wpList_loadEv rfl _ rfl w.heap.size rfl c HE.out ?_
      | (go_at_call 15; refine (change_any c _ HT.out HF.out).mono ?_; rw [HR.out]; rintro e w1 ⟨v, rfl, hown, hb⟩; have HB1 := Lib.hid (HB0.out.trans (hb.mono HB0.out.size)); rw [if_pos rfl] at hown; obtain ⟨a, k, rfl⟩ := OwnB.lv hown; rw [HL.out]; clear hown hb)
      | (go_at_call 13; refine (live_any _).mono ?_; rintro e w2 ⟨rfl, hb⟩; have HB2 := Lib.hid (HB1.out.trans (hb.mono HB1.out.size)); clear hb))
    go_ret
    exact ⟨rfl, HB2.out⟩

end Go.Proofs.Ytgplolfkfhhddaa
