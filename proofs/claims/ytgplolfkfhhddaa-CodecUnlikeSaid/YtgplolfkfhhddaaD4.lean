/- Layer 4 (codec), CodecUnlike: the walk. -/
import Derived.Test.YtgplolfkfhhddaaK2
import Derived.Test.YtgplolfkfhhddaaReg
namespace Go.Proofs.Ytgplolfkfhhddaa
open Go.RowKit
set_option linter.unusedVariables false
set_option linter.unusedSimpArgs false

theorem same_bytes {a b : Obj} (ta : a.Typed) (tb : b.Typed) (ra : rightB a = true) (rb : rightB b = true) : decide (objE a = objE b) = decide (a = b) := by
  rw [decide_eq_decide]
  refine ⟨fun h => (objE_inj (r := []) (t := []) ta tb ra rb (by rw [h])).1, fun h => by rw [h]⟩

set_option maxRecDepth 100000 in
set_option maxHeartbeats 4000000 in
theorem unlike_walk (a b : Obj) (w : World) (ta : a.Typed) (fa : a.Fits) (tb : b.Typed) (fb : b.Fits) : Calls Try.prog 4 #[.agg (cellsO a), .agg (cellsO b)] w fun e w' => e = .returned (.bool true) ∧ Below w.heap.size w w' := by
  have h1 : ((w.alloc (.cells (cellsO a) 27)).alloc (.cells (cellsO b) 27)).heap[w.heap.size]? = some (.cells (cellsO a) 27 (0, 0)) := (heap_alloc_lt (by simp)).trans heap_alloc_eq
  have h2 : ((w.alloc (.cells (cellsO a) 27)).alloc (.cells (cellsO b) 27)).heap[w.heap.size + 1]? = some (.cells (cellsO b) 27 (0, 0)) := by
    have := heap_alloc_eq (w := w.alloc (.cells (cellsO a) 27)) (o := .cells (cellsO b) 27)
    simpa using this
  have hb : Below w.heap.size w ((w.alloc (.cells (cellsO a) 27)).alloc (.cells (cellsO b) 27)) := ((Below.refl _ _).alloc (Nat.le_refl _) _).alloc (by simp) _
  have HA := Lib.hid h1
  have HO := Lib.hid h2
  have HB := Lib.hid hb
  have TA := Lib.hid ta
  have FA := Lib.hid fa
  have TB := Lib.hid tb
  have FB := Lib.hid fb
  clear h1 h2 hb ta fa tb fb
  obtain ⟨x, hx⟩ : ∃ x : Int, x = if rightB a then 0 else 2 := ⟨_, rfl⟩
  obtain ⟨y, hy⟩ : ∃ x : Int, x = if rightB b then 0 else 2 := ⟨_, rfl⟩
  have HX := Lib.hid hx
  have HYY := Lib.hid hy
  cases ra : rightB a with
  | false =>
    rw [ra] at hx
    obtain rfl : x = 2 := by simpa using hx
    clear hx hy ra
    go_enter Try.func4, Try.ntmps4
    go_wp2_with (first
      | refine wpList_loadObj rfl _ rfl w.heap.size rfl a (cells_all HA.out) ?_
      | fail)
    with_reducible show Calls _ _ #[.agg (cellsO a)] _ _
    refine (object_any a _ TA.out FA.out).mono ?_; rintro e w1 ⟨v1, rfl, hown, hb⟩; rw [← HX.out]; have hA := (hb.block _ (heap_lt HA.out)).trans HA.out; have hO := (hb.block _ (heap_lt HO.out)).trans HO.out; have hB := HB.out.trans (hb.mono HB.out.size); have HA := Lib.hid hA; have HO := Lib.hid hO; have HB := Lib.hid hB; clear hown hb hA hO hB
    go_wp2_with (first
      | refine wpList_loadObj rfl _ rfl (w.heap.size + 1) rfl b (cells_all HO.out) ?_
      | fail)
    with_reducible show Calls _ _ #[.agg (cellsO b)] _ _
    refine (object_any b _ TB.out FB.out).mono ?_; rintro e w2 ⟨v2, rfl, hown, hb⟩; rw [← HYY.out]; have hB := HB.out.trans (hb.mono HB.out.size); have HB := Lib.hid hB; clear hown hb hB
    go_wp2_with (go_at_call 13; refine (live_any _).mono ?_; rintro e w5 ⟨rfl, hb⟩; have hB := HB.out.trans (hb.mono HB.out.size); have HB := Lib.hid hB; clear hb hB)
    go_ret
    exact ⟨rfl, HB.out⟩
  | true =>
    have rb0 : ∀ r, rightB b = r → True := fun _ _ => trivial
    rw [ra] at hx
    obtain rfl : x = 0 := by simpa using hx
    clear hx
    go_enter Try.func4, Try.ntmps4
    go_wp2_with (first
      | refine wpList_loadObj rfl _ rfl w.heap.size rfl a (cells_all HA.out) ?_
      | fail)
    with_reducible show Calls _ _ #[.agg (cellsO a)] _ _
    refine (object_any a _ TA.out FA.out).mono ?_; rintro e w1 ⟨v1, rfl, hown, hb⟩; rw [← HX.out]; rw [ra, if_pos rfl] at hown; have hA := (hb.block _ (heap_lt HA.out)).trans HA.out; have hO := (hb.block _ (heap_lt HO.out)).trans HO.out; have hB := HB.out.trans (hb.mono HB.out.size); have HA := Lib.hid hA; have HO := Lib.hid hO; have HB := Lib.hid hB; have HV1 := Lib.hid hown; clear hown hb hA hO hB
    go_wp2_with (first
      | refine wpList_loadObj rfl _ rfl (w.heap.size + 1) rfl b (cells_all HO.out) ?_
      | fail)
    with_reducible show Calls _ _ #[.agg (cellsO b)] _ _
    refine (object_any b _ TB.out FB.out).mono ?_; rintro e w2 ⟨v2, rfl, hown, hb⟩; rw [← HYY.out]; have hA := (hb.block _ (heap_lt HA.out)).trans HA.out; have hO := (hb.block _ (heap_lt HO.out)).trans HO.out; have h1 := HV1.out.later hb; have hB := HB.out.trans (hb.mono HB.out.size); have HA := Lib.hid hA; have HO := Lib.hid hO; have HB := Lib.hid hB; have HV1 := Lib.hid h1; have HV2 := Lib.hid hown; clear hown hb hA hO hB h1
    cases rb : rightB b with
    | false =>
      rw [rb] at hy
      obtain rfl : y = 2 := by simpa using hy
      clear hy
      go_wp2_with (go_at_call 13; refine (live_any _).mono ?_; rintro e w5 ⟨rfl, hb⟩; have hB := HB.out.trans (hb.mono HB.out.size); have HB := Lib.hid hB; clear hb hB)
      go_ret
      exact ⟨rfl, HB.out⟩
    | true =>
      rw [rb] at hy
      obtain rfl : y = 0 := by simpa using hy
      have hv2 := HV2.out
      rw [rb, if_pos rfl] at hv2
      have HV2 := Lib.hid hv2
      have HSB := Lib.hid (same_bytes TA.out TB.out ra rb)
      clear hy hv2 ra rb
      go_wp2
      refine wp_region_N (fun w' => (IsB w' v1 (objE a)) ∧ (IsB w' v2 (objE b)) ∧ (∀ k, w'.cell? ⟨w.heap.size, k, none⟩ = (cellsO a)[k]?) ∧ (∀ k, w'.cell? ⟨w.heap.size + 1, k, none⟩ = (cellsO b)[k]?))
        [(false, 0), (true, 1), (true, 2), (true, 3), (true, 4), (true, 5), (true, 6), (true, 7), (true, 8), (true, 9), (true, 10), (true, 11), (true, 12)] (by kernel_rfl) (by kernel_rfl) rfl (by kernel_rfl) ?_ ?_
      · exact ⟨by first | exact HV1.out.isB | exact HV2.out.isB | exact cells_all HA.out | exact cells_all HO.out, by first | exact HV1.out.isB | exact HV2.out.isB | exact cells_all HA.out | exact cells_all HO.out, by first | exact HV1.out.isB | exact HV2.out.isB | exact cells_all HA.out | exact cells_all HO.out, by first | exact HV1.out.isB | exact HV2.out.isB | exact cells_all HA.out | exact cells_all HO.out⟩
      simp only [List.filterMap_cons, List.filterMap_nil, List.getElem?_cons_succ, List.getElem?_cons_zero, Option.map_some]
      refine wpSeq_alone ?_
      (go_wp2_with (go_at_call 13; refine (live_any _).mono ?_; rintro e w5 ⟨rfl, hb0⟩; have hb : Below w2.heap.size w2 w5 := ⟨hb0.os, hb0.tape, hb0.output, hb0.size, hb0.block⟩; have hA := (hb.block _ (heap_lt HA.out)).trans HA.out; have hO := (hb.block _ (heap_lt HO.out)).trans HO.out; have h1 := HV1.out.later hb; have h2 := HV2.out.later hb; have hB := HB.out.trans (hb.mono HB.out.size); have HA := Lib.hid hA; have HO := Lib.hid hO; have HB := Lib.hid hB; have HV1 := Lib.hid h1; have HV2 := Lib.hid h2; clear hb0 hb hA hO hB h1 h2))
      refine QS_normal ⟨by first | exact HV1.out.isB | exact HV2.out.isB | exact cells_all HA.out | exact cells_all HO.out, by first | exact HV1.out.isB | exact HV2.out.isB | exact cells_all HA.out | exact cells_all HO.out, by first | exact HV1.out.isB | exact HV2.out.isB | exact cells_all HA.out | exact cells_all HO.out, by first | exact HV1.out.isB | exact HV2.out.isB | exact cells_all HA.out | exact cells_all HO.out⟩ (fun _ => ?_)
      apply wpSeq_takeK _ (by first | rfl | (simp [Region.wanted, yielded]; done))
      · intro w' hS
        obtain ⟨s0, s1, s2, s3⟩ := hS
        skip
        go_simp
        try rfl
      intro K hK
      go_simp
      refine hK _ ?_
      clear hK K
      apply wpSeq_takeK _ (by first | rfl | (simp [Region.wanted, yielded]; done))
      · intro w' hS
        obtain ⟨s0, s1, s2, s3⟩ := hS
        skip
        go_simp
        try rfl
      intro K hK
      go_simp
      refine hK _ ?_
      clear hK K
      refine wpSeq_takeK (.string ⟨(objE a).toArray⟩) (by first | rfl | (simp [Region.wanted, yielded]; done)) ?_ ?_
      · intro w' hS
        obtain ⟨s0, s1, s2, s3⟩ := hS
        exact exec_textG rfl rfl s0
      intro K hK
      go_simp
      refine hK _ ?_
      clear hK K
      apply wpSeq_takeK _ (by first | rfl | (simp [Region.wanted, yielded]; done))
      · intro w' hS
        obtain ⟨s0, s1, s2, s3⟩ := hS
        skip
        go_simp
        try rfl
      intro K hK
      go_simp
      refine hK _ ?_
      clear hK K
      refine wpSeq_takeK (.string ⟨(objE b).toArray⟩) (by first | rfl | (simp [Region.wanted, yielded]; done)) ?_ ?_
      · intro w' hS
        obtain ⟨s0, s1, s2, s3⟩ := hS
        exact exec_textG rfl rfl s1
      intro K hK
      go_simp
      refine hK _ ?_
      clear hK K
      refine wpSeq_takeK (.bool (decide (objE a = objE b))) (by first | rfl | (simp [Region.wanted, yielded]; done)) ?_ ?_
      · intro w' hS
        obtain ⟨s0, s1, s2, s3⟩ := hS
        exact exec_eqlText rfl rfl rfl
      intro K hK
      go_simp
      refine hK _ ?_
      clear hK K
      refine wpSeq_takeK (.agg (cellsO a)) (by first | rfl | (simp [Region.wanted, yielded]; done)) ?_ ?_
      · intro w' hS
        obtain ⟨s0, s1, s2, s3⟩ := hS
        exact exec_loadObj a rfl rfl s2
      intro K hK
      go_simp
      refine hK _ ?_
      clear hK K
      refine wpSeq_takeK (.agg (cellsO b)) (by first | rfl | (simp [Region.wanted, yielded]; done)) ?_ ?_
      · intro w' hS
        obtain ⟨s0, s1, s2, s3⟩ := hS
        exact exec_loadObj b rfl rfl s3
      intro K hK
      go_simp
      refine hK _ ?_
      clear hK K
      refine wpSeq_takeK (.bool (decide (a = b))) (by first | rfl | (simp [Region.wanted, yielded]; done)) ?_ ?_
      · intro w' hS
        obtain ⟨s0, s1, s2, s3⟩ := hS
        exact exec_eqlObj a b rfl rfl rfl
      intro K hK
      go_simp
      refine hK _ ?_
      clear hK K
      apply wpSeq_takeK _ (by first | rfl | (simp [Region.wanted, yielded]; done))
      · intro w' hS
        obtain ⟨s0, s1, s2, s3⟩ := hS
        skip
        go_simp
        try rfl
      intro K hK
      go_simp
      refine hK _ ?_
      clear hK K
      apply wpSeq_takeK _ (by first | rfl | (simp [Region.wanted, yielded]; done))
      · intro w' hS
        obtain ⟨s0, s1, s2, s3⟩ := hS
        skip
        go_simp
        try rfl
      intro K hK
      go_simp
      refine hK _ ?_
      clear hK K
      apply wpSeq_takeK _ (by first | rfl | (simp [Region.wanted, yielded]; done))
      · intro w' hS
        obtain ⟨s0, s1, s2, s3⟩ := hS
        skip
        go_simp
        try rfl
      intro K hK
      go_simp
      refine hK _ ?_
      clear hK K
      refine wpSeq_end ?_
      rw [HSB.out, beq_self_eq_true]
      go_wp2
      go_ret
      exact ⟨rfl, HB.out⟩

end Go.Proofs.Ytgplolfkfhhddaa
