/- Layer 4 (codec), CodecWrites: the walk. -/
import Derived.Test.YtgplolfkfhhddaaK2
namespace Go.Proofs.Ytgplolfkfhhddaa
open Go.RowKit
set_option linter.unusedVariables false
set_option linter.unusedSimpArgs false




set_option maxRecDepth 100000 in
set_option maxHeartbeats 4000000 in
theorem writes_walk (c : Ev) (w : World) (ht : c.Typed) (hf : c.obj.Fits) : Calls Try.prog 5 #[.agg (cellsEv c)] w fun e w' => e = .returned (.bool true) ∧ Below w.heap.size w w' := by
  have hE0 : EvBox (w.alloc (.cells (cellsEv c) 39)) w.heap.size c := ⟨heap_alloc_eq⟩
  have HE := Lib.hid hE0
  have HB := Lib.hid ((Below.refl w.heap.size w).alloc (Nat.le_refl _) (.cells (cellsEv c) 39))
  have HT := Lib.hid ht
  have HF := Lib.hid hf
  have hS := hE0.obj
  clear hE0 ht hf
  obtain ⟨x, hx⟩ : ∃ x : Int, x = if rightB c.obj then 0 else 2 := ⟨_, rfl⟩
  obtain ⟨lo, hlo⟩ : ∃ l, l = if rightB c.obj then objE c.obj else [] := ⟨_, rfl⟩
  obtain ⟨lc, hlc⟩ : ∃ l, l = if rightB c.obj then chE c else [] := ⟨_, rfl⟩
  have HX := Lib.hid hx
  have HLO := Lib.hid hlo
  have HLC := Lib.hid hlc
  clear hx hlo hlc
  go_enter Try.func5, Try.ntmps5
  go_wp2_with (first
    | refine wpList_loadObjAt rfl _ rfl _ _ rfl c.obj HE.out.obj ?_
    | refine wpList_loadEv rfl _ rfl w.heap.size rfl c HE.out ?_
    | (go_at_call 10; refine (object_any c.obj _ HT.out.obj HF.out).mono ?_; rintro e w1 ⟨v1, rfl, hown, hb⟩; rw [← HX.out]; rw [← HLO.out] at hown; have HB0 := HB; have hE := HE.out.kept hb (heap_lt HE.out.heap); have hB := HB.out.trans (hb.mono HB.out.size); have HE := Lib.hid hE; have HB := Lib.hid hB; have HV1 := Lib.hid hown; clear hown hb hE hB)
    | (go_at_call 14; refine (objectR_any c.obj _ HT.out.obj HF.out).mono ?_; rintro e w2 ⟨v2, rfl, hown, hb⟩; rw [← HX.out]; rw [← HLO.out] at hown; have hE := HE.out.kept hb (heap_lt HE.out.heap); have hB := HB.out.trans (hb.mono HB.out.size); have h1 := HV1.out.later hb; have HE := Lib.hid hE; have HB := Lib.hid hB; have HV1 := Lib.hid h1; have HV2 := Lib.hid hown; clear hown hb hE hB h1)
    | (go_at_call 15; refine (change_any c _ HT.out HF.out).mono ?_; rintro e w3 ⟨v3, rfl, hown, hb⟩; rw [← HX.out]; rw [← HLC.out] at hown; have hE := HE.out.kept hb (heap_lt HE.out.heap); have hB := HB.out.trans (hb.mono HB.out.size); have h1 := HV1.out.later hb; have h2 := HV2.out.later hb; have HE := Lib.hid hE; have HB := Lib.hid hB; have HV1 := Lib.hid h1; have HV2 := Lib.hid h2; have HV3 := Lib.hid hown; clear hown hb hE hB h1 h2)
    | (go_at_call 16; refine (changeR_any c _ HT.out HF.out).mono ?_; rintro e w4 ⟨v4, rfl, hown, hb⟩; rw [← HX.out]; rw [← HLC.out] at hown; have hB := HB.out.trans (hb.mono HB.out.size); have h1 := HV1.out.later hb; have h2 := HV2.out.later hb; have h3 := HV3.out.later hb; have HB := Lib.hid hB; have HV1 := Lib.hid h1; have HV2 := Lib.hid h2; have HV3 := Lib.hid h3; have HV4 := Lib.hid hown; clear hown hb hB h1 h2 h3)
    | (go_at_call 13; refine (live_any _).mono ?_; rintro e w5 ⟨rfl, hb⟩; have hB := HB.out.trans (hb.mono HB.out.size); have t1 := run_text (HV1.out.later hb).isB; have t2 := run_text (HV2.out.later hb).isB; have t3 := run_text (HV3.out.later hb).isB; have t4 := run_text (HV4.out.later hb).isB; have HB := Lib.hid hB; clear hb hB))
  go_ret
  exact ⟨rfl, HB.out⟩

end Go.Proofs.Ytgplolfkfhhddaa
