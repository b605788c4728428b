/- Layer 4 (codec), CodecChanges: the walk. -/
import Derived.Test.YtgplolfkfhhddaaK3
import Derived.Test.YtgplolfkfhhddaaK4
import Derived.Test.YtgplolfkfhhddaaR8
namespace Go.Proofs.Ytgplolfkfhhddaa
open Go.RowKit
set_option linter.unusedVariables false
set_option linter.unusedSimpArgs false

set_option maxRecDepth 100000 in
set_option maxHeartbeats 4000000 in
theorem changes_walk (o : Ev) (v : Value) (bs : Bs) (w : World) (ty : o.Typed) (fo : o.obj.Fits) (hs : SrcB w w.heap.size v bs) : Calls Try.prog 8 #[.agg (cellsEv o), v] w fun e w' => e = .returned (.bool true) ∧ Below w.heap.size w w' := by
  have HS := Lib.hid hs
  have HK := Lib.hid (BK.start w (.cells (cellsEv o) 39 (0, 0)))
  have TO := Lib.hid ty
  have FO := Lib.hid fo
  have hZ := evZ_cells
  simp only [noText] at hZ
  have HZ := Lib.hid hZ
  clear hs ty fo hZ
  cases ra : rightB o.obj with
  | false =>
    have RA := Lib.hid ra
    clear ra
    go_enter Try.func8, Try.ntmps8
    go_wp2_with (refine wpList_loadEv0 rfl _ rfl w.heap.size rfl o (cells_all HK.out.box) ?_)
    refine (change_any o _ TO.out FO.out).mono ?_
    rw [RA.out]
    rintro e w1 ⟨v1, rfl, hown, hb⟩
    have hK := HK.out.next hb
    have HK := Lib.hid hK
    clear hown hb hK
    go_wp2_with fail
    refine (readC_any v bs _ (HK.out.src HS.out)).mono ?_
    rintro e w5 ⟨rfl, hb⟩
    have hK := HK.out.next hb
    have HK := Lib.hid hK
    clear hb hK
    cases hd : readC bs with
    | none =>
      simp only [Option.getD_none, Option.isSome_none, Bool.false_eq_true, if_false]
      have hK6 := HK.out.next (below_new w5 (.cells (cellsEv evZ) 39) (.cells (cellsEv evZ) 39 (0, 0)))
      have hq6 := new_box w5 (.cells (cellsEv evZ) 39) (cellsEv evZ) 39
      have hq5 : (w5.alloc (.cells (cellsEv evZ) 39)).heap[w5.heap.size]? = some (.cells (cellsEv evZ) 39 (0, 0)) := heap_alloc_eq
      conv at hq5 => lhs; rw [HZ.out]
      have HK6 := Lib.hid hK6
      have HQ6 := Lib.hid hq6
      have HQ5 := Lib.hid hq5
      clear hK6 hq6 hq5 hd
      go_wp2_with (first
        | refine wpList_storeEv rfl _ _ rfl w5.heap.size rfl evZ evZ rfl HQ5.out ?_
        | (go_at_call 13; rw [← HZ.out]; refine (live_any _).mono ?_; rintro e w9 ⟨rfl, hb⟩; have hK := HK6.out.next hb; have hq := (hb.block _ (heap_lt HQ6.out)).trans HQ6.out; have HK := Lib.hid hK; have HQ := Lib.hid hq; clear hb hK hq)
        | refine wpList_loadEvG (by first | rfl | (simp [Region.wanted, yielded]; done)) _ rfl w5.heap.size rfl evZ (cells_all HQ.out) ?_
        | refine wpList_eqlEvG (by first | rfl | (simp [Region.wanted, yielded]; done)) _ _ _ rfl evZ evZ rfl (by first | rfl | exact congrArg Value.agg HZ.out.symm) ?_)
      go_ret
      exact ⟨rfl, HK.out.below⟩
    | some o2 =>
      obtain ⟨hbs, ty2, ra2⟩ := readC_some hd
      simp only [Option.getD_some, Option.isSome_some, if_true]
      have hK6 := HK.out.next (below_new w5 (.cells (cellsEv evZ) 39) (.cells (cellsEv o2) 39 (0, 0)))
      have hq6 := new_box w5 (.cells (cellsEv evZ) 39) (cellsEv o2) 39
      have hq5 : (w5.alloc (.cells (cellsEv evZ) 39)).heap[w5.heap.size]? = some (.cells (cellsEv evZ) 39 (0, 0)) := heap_alloc_eq
      have hW6 : (Wset (w5.alloc (.cells (cellsEv evZ) 39)) w5.heap.size (.cells (cellsEv o2) 39 (0, 0))) = (Wset (w5.alloc (.cells (cellsEv evZ) 39)) w5.heap.size (.cells (cellsEv o2) 39 (0, 0))) := rfl
      conv at hq5 => lhs; rw [HZ.out]
      rw [HZ.out] at hq6
      have HK6 := Lib.hid hK6
      have HQ6 := Lib.hid hq6
      have HQ5 := Lib.hid hq5
      have HBS := Lib.hid hbs
      have TY2 := Lib.hid ty2
      have RA2 := Lib.hid ra2
      clear hK6 hq6 hq5 hd hW6 hbs ty2 ra2
      go_wp2_with (first
        | refine wpList_storeEv rfl _ _ rfl w5.heap.size rfl o2 evZ rfl HQ5.out ?_
        | refine wpList_loadEv0 rfl _ rfl w5.heap.size rfl o2 (cells_all HQ6.out) ?_
        | (go_at_call 15; rw [← HZ.out]; refine (change_any o2 _ TY2.out ((right_fits RA2.out))).mono ?_; rw [RA2.out]; rintro e w7 ⟨v7, rfl, hown, hb⟩; have hK := HK6.out.next hb; rw [if_pos rfl] at hown; have HK := Lib.hid hK; have HV7 := Lib.hid hown; clear hown hb hK)
        | (go_at_call 13; refine (live_any _).mono ?_; rintro e w9 ⟨rfl, hb⟩; have hK := HK.out.next hb; have t1 := run_text (HV7.out.later hb).isB; have t2 := (hK.src HS.out).text; rw [HBS.out] at t2; have HK := Lib.hid hK; clear hb hK))
      go_ret
      exact ⟨rfl, HK.out.below⟩
  | true =>
    have RA := Lib.hid ra
    have hr0 := readC_chE TO.out ra
    have HR0 := Lib.hid hr0
    clear ra hr0
    go_enter Try.func8, Try.ntmps8
    go_wp2_with (refine wpList_loadEv0 rfl _ rfl w.heap.size rfl o (cells_all HK.out.box) ?_)
    refine (change_any o _ TO.out FO.out).mono ?_
    rw [RA.out]
    rintro e w1 ⟨v1, rfl, hown, hb⟩
    have hK := HK.out.next hb
    rw [if_pos rfl] at hown
    have HK := Lib.hid hK
    have HV1 := Lib.hid hown
    clear hown hb hK
    go_wp2_with fail
    refine (readC_any v1 (chE o) w1 HV1.out.srcAt).mono ?_
    rintro e w2 ⟨rfl, hb⟩
    rw [HR0.out]
    simp only [Option.getD_some, Option.isSome_some, if_true]
    have hK := HK.out.next hb
    have hK3 := hK.next (below_new w2 (.cells (cellsEv evZ) 39) (.cells (cellsEv o) 39 (0, 0)))
    have hq3 := new_box w2 (.cells (cellsEv evZ) 39) (cellsEv o) 39
    have hq2 : (w2.alloc (.cells (cellsEv evZ) 39)).heap[w2.heap.size]? = some (.cells (cellsEv evZ) 39 (0, 0)) := heap_alloc_eq
    conv at hq2 => lhs; rw [HZ.out]
    rw [HZ.out] at hq3 hK3
    have HK := Lib.hid hK3
    have HQ3 := Lib.hid hq3
    have HQ2 := Lib.hid hq2
    clear hK hK3 hq3 hq2 hb
    go_wp2_with (first
      | refine wpList_storeEv rfl _ _ rfl w2.heap.size rfl o evZ rfl HQ2.out ?_
      | refine wpList_loadEvG (by first | rfl | (simp [Region.wanted, yielded]; done)) _ rfl w2.heap.size rfl o (cells_all HQ3.out) ?_
      | refine wpList_loadEvG (by first | rfl | (simp [Region.wanted, yielded]; done)) _ rfl w.heap.size rfl o (cells_all HK.out.box) ?_
      | refine wpList_neqEvG (by first | rfl | (simp [Region.wanted, yielded]; done)) _ _ _ rfl o o rfl rfl ?_)
    refine (readC_any v bs _ (HK.out.src HS.out)).mono ?_
    rintro e w5 ⟨rfl, hb⟩
    have hK := HK.out.next hb
    have HK := Lib.hid hK
    clear hb hK
    cases hd : readC bs with
    | none =>
      simp only [Option.getD_none, Option.isSome_none, Bool.false_eq_true, if_false]
      have hK6 := HK.out.next (below_new w5 (.cells (cellsEv evZ) 39) (.cells (cellsEv evZ) 39 (0, 0)))
      have hq6 := new_box w5 (.cells (cellsEv evZ) 39) (cellsEv evZ) 39
      have hq5 : (w5.alloc (.cells (cellsEv evZ) 39)).heap[w5.heap.size]? = some (.cells (cellsEv evZ) 39 (0, 0)) := heap_alloc_eq
      conv at hq5 => lhs; rw [HZ.out]
      have HK6 := Lib.hid hK6
      have HQ6 := Lib.hid hq6
      have HQ5 := Lib.hid hq5
      clear hK6 hq6 hq5 hd
      go_wp2_with (first
        | refine wpList_storeEv rfl _ _ rfl w5.heap.size rfl evZ evZ rfl HQ5.out ?_
        | (go_at_call 13; rw [← HZ.out]; refine (live_any _).mono ?_; rintro e w9 ⟨rfl, hb⟩; have hK := HK6.out.next hb; have hq := (hb.block _ (heap_lt HQ6.out)).trans HQ6.out; have HK := Lib.hid hK; have HQ := Lib.hid hq; clear hb hK hq)
        | refine wpList_loadEvG (by first | rfl | (simp [Region.wanted, yielded]; done)) _ rfl w5.heap.size rfl evZ (cells_all HQ.out) ?_
        | refine wpList_eqlEvG (by first | rfl | (simp [Region.wanted, yielded]; done)) _ _ _ rfl evZ evZ rfl (by first | rfl | exact congrArg Value.agg HZ.out.symm) ?_)
      go_ret
      exact ⟨rfl, HK.out.below⟩
    | some o2 =>
      obtain ⟨hbs, ty2, ra2⟩ := readC_some hd
      simp only [Option.getD_some, Option.isSome_some, if_true]
      have hK6 := HK.out.next (below_new w5 (.cells (cellsEv evZ) 39) (.cells (cellsEv o2) 39 (0, 0)))
      have hq6 := new_box w5 (.cells (cellsEv evZ) 39) (cellsEv o2) 39
      have hq5 : (w5.alloc (.cells (cellsEv evZ) 39)).heap[w5.heap.size]? = some (.cells (cellsEv evZ) 39 (0, 0)) := heap_alloc_eq
      have hW6 : (Wset (w5.alloc (.cells (cellsEv evZ) 39)) w5.heap.size (.cells (cellsEv o2) 39 (0, 0))) = (Wset (w5.alloc (.cells (cellsEv evZ) 39)) w5.heap.size (.cells (cellsEv o2) 39 (0, 0))) := rfl
      conv at hq5 => lhs; rw [HZ.out]
      rw [HZ.out] at hq6
      have HK6 := Lib.hid hK6
      have HQ6 := Lib.hid hq6
      have HQ5 := Lib.hid hq5
      have HBS := Lib.hid hbs
      have TY2 := Lib.hid ty2
      have RA2 := Lib.hid ra2
      clear hK6 hq6 hq5 hd hW6 hbs ty2 ra2
      go_wp2_with (first
        | refine wpList_storeEv rfl _ _ rfl w5.heap.size rfl o2 evZ rfl HQ5.out ?_
        | refine wpList_loadEv0 rfl _ rfl w5.heap.size rfl o2 (cells_all HQ6.out) ?_
        | (go_at_call 15; rw [← HZ.out]; refine (change_any o2 _ TY2.out ((right_fits RA2.out))).mono ?_; rw [RA2.out]; rintro e w7 ⟨v7, rfl, hown, hb⟩; have hK := HK6.out.next hb; rw [if_pos rfl] at hown; have HK := Lib.hid hK; have HV7 := Lib.hid hown; clear hown hb hK)
        | (go_at_call 13; refine (live_any _).mono ?_; rintro e w9 ⟨rfl, hb⟩; have hK := HK.out.next hb; have t1 := run_text (HV7.out.later hb).isB; have t2 := (hK.src HS.out).text; rw [HBS.out] at t2; have HK := Lib.hid hK; clear hb hK))
      go_ret
      exact ⟨rfl, HK.out.below⟩


end Go.Proofs.Ytgplolfkfhhddaa
