/- Layer 4 (codec), CodecBack: the walk. -/
import Derived.Test.YtgplolfkfhhddaaK3
import Derived.Test.YtgplolfkfhhddaaF26
namespace Go.Proofs.Ytgplolfkfhhddaa
open Go.RowKit
set_option linter.unusedVariables false
set_option linter.unusedSimpArgs false

set_option maxRecDepth 100000 in
set_option maxHeartbeats 4000000 in
theorem back_walk (o : Obj) (v : Value) (bs : Bs) (w : World) (ty : o.Typed) (fo : o.Fits) (hs : SrcB w w.heap.size v bs) : Calls Try.prog 3 #[.agg (cellsO o), v] w fun e w' => e = .returned (.bool true) ∧ Below w.heap.size w w' := by
  have HS := Lib.hid hs
  have HK := Lib.hid (BK.start w (.cells (cellsO o) 27 (0, 0)))
  have TO := Lib.hid ty
  have FO := Lib.hid fo
  have hZ := objZ_cells
  simp only [noText] at hZ
  have HZ := Lib.hid hZ
  clear hs ty fo hZ
  cases ra : rightB o with
  | false =>
    have RA := Lib.hid ra
    clear ra
    go_enter Try.func3, Try.ntmps3
    go_wp2_with (refine wpList_loadObj rfl _ rfl w.heap.size rfl o (cells_all HK.out.box) ?_)
    refine (object_any o _ TO.out FO.out).mono ?_
    rw [RA.out]
    rintro e w1 ⟨v1, rfl, hown, hb⟩
    have hK := HK.out.next hb
    have HK := Lib.hid hK
    clear hown hb hK
    go_wp2_with (refine wpList_loadObj rfl _ rfl w.heap.size rfl o (cells_all HK.out.box) ?_)
    refine (rightR_any o _ FO.out).mono ?_
    rw [RA.out]
    rintro e w2 ⟨rfl, hb⟩
    have hK := HK.out.next hb
    have HK := Lib.hid hK
    clear hb hK
    go_wp2_with fail
    refine (read_any v bs _ (HK.out.src HS.out)).mono ?_
    rintro e w5 ⟨rfl, hb⟩
    have hK := HK.out.next hb
    have HK := Lib.hid hK
    clear hb hK
    cases hd : readD bs with
    | none =>
      simp only [Option.getD_none, Option.isSome_none, Bool.false_eq_true, if_false]
      have hK6 := HK.out.next (below_new w5 (.cells (cellsO objZ) 27) (.cells (cellsO objZ) 27 (0, 0)))
      have hq6 := new_box w5 (.cells (cellsO objZ) 27) (cellsO objZ) 27
      have hq5 : (w5.alloc (.cells (cellsO objZ) 27)).heap[w5.heap.size]? = some (.cells (cellsO objZ) 27 (0, 0)) := heap_alloc_eq
      rw [HZ.out] at hq5
      have HK6 := Lib.hid hK6
      have HQ6 := Lib.hid hq6
      have HQ5 := Lib.hid hq5
      clear hK6 hq6 hq5 hd
      go_wp2_with (first
        | refine wpList_storeObj rfl _ _ rfl w5.heap.size rfl objZ rfl _ HQ5.out rfl ?_
        | (go_at_call 13; rw [← HZ.out]; refine (live_any _).mono ?_; rintro e w9 ⟨rfl, hb⟩; have hK := HK6.out.next hb; have hq := (hb.block _ (heap_lt HQ6.out)).trans HQ6.out; have HK := Lib.hid hK; have HQ := Lib.hid hq; clear hb hK hq)
        | refine wpList_loadObjG (by first | rfl | (simp [Region.wanted, yielded]; done)) _ rfl w5.heap.size rfl objZ (cells_all HQ.out) ?_
        | refine wpList_eqlObjG (by first | rfl | (simp [Region.wanted, yielded]; done)) _ _ _ rfl objZ objZ rfl (by first | rfl | exact congrArg Value.agg HZ.out.symm) ?_)
      go_ret
      exact ⟨rfl, HK.out.below⟩
    | some o2 =>
      obtain ⟨hbs, ty2, ra2⟩ := readD_some hd
      simp only [Option.getD_some, Option.isSome_some, if_true]
      have hK6 := HK.out.next (below_new w5 (.cells (cellsO objZ) 27) (.cells (cellsO o2) 27 (0, 0)))
      have hq6 := new_box w5 (.cells (cellsO objZ) 27) (cellsO o2) 27
      have hq5 : (w5.alloc (.cells (cellsO objZ) 27)).heap[w5.heap.size]? = some (.cells (cellsO objZ) 27 (0, 0)) := heap_alloc_eq
      have hW6 : (Wset (w5.alloc (.cells (cellsO objZ) 27)) w5.heap.size (.cells (cellsO o2) 27 (0, 0))) = (Wset (w5.alloc (.cells (cellsO objZ) 27)) w5.heap.size (.cells (cellsO o2) 27 (0, 0))) := rfl
      rw [HZ.out] at hq5 hq6
      have HK6 := Lib.hid hK6
      have HQ6 := Lib.hid hq6
      have HQ5 := Lib.hid hq5
      have HBS := Lib.hid hbs
      have TY2 := Lib.hid ty2
      have RA2 := Lib.hid ra2
      clear hK6 hq6 hq5 hd hW6 hbs ty2 ra2
      go_wp2_with (first
        | refine wpList_storeObj rfl _ _ rfl w5.heap.size rfl o2 rfl _ HQ5.out rfl ?_
        | refine wpList_loadObj rfl _ rfl w5.heap.size rfl o2 (cells_all HQ6.out) ?_
        | (go_at_call 10; rw [← HZ.out]; refine (object_any o2 _ TY2.out (right_fits RA2.out)).mono ?_; rw [RA2.out]; rintro e w7 ⟨v7, rfl, hown, hb⟩; have hK := HK6.out.next hb; rw [if_pos rfl] at hown; have HK := Lib.hid hK; have HV7 := Lib.hid hown; clear hown hb hK)
        | (go_at_call 13; refine (live_any _).mono ?_; rintro e w9 ⟨rfl, hb⟩; have hK := HK.out.next hb; have t1 := run_text (HV7.out.later hb).isB; have t2 := (hK.src HS.out).text; rw [HBS.out] at t2; have HK := Lib.hid hK; clear hb hK))
      go_ret
      exact ⟨rfl, HK.out.below⟩
  | true =>
    have RA := Lib.hid ra
    have hr0 := readD_objE TO.out ra
    have HR0 := Lib.hid hr0
    clear ra hr0
    go_enter Try.func3, Try.ntmps3
    go_wp2_with (refine wpList_loadObj rfl _ rfl w.heap.size rfl o (cells_all HK.out.box) ?_)
    refine (object_any o _ TO.out FO.out).mono ?_
    rw [RA.out]
    rintro e w1 ⟨v1, rfl, hown, hb⟩
    have hK := HK.out.next hb
    rw [if_pos rfl] at hown
    have HK := Lib.hid hK
    have HV1 := Lib.hid hown
    clear hown hb hK
    go_wp2_with fail
    refine (read_any v1 (objE o) w1 HV1.out.srcAt).mono ?_
    rintro e w2 ⟨rfl, hb⟩
    rw [HR0.out]
    simp only [Option.getD_some, Option.isSome_some, if_true]
    have hK := HK.out.next hb
    have hK3 := hK.next (below_new w2 (.cells (cellsO objZ) 27) (.cells (cellsO o) 27 (0, 0)))
    have hq3 := new_box w2 (.cells (cellsO objZ) 27) (cellsO o) 27
    have hq2 : (w2.alloc (.cells (cellsO objZ) 27)).heap[w2.heap.size]? = some (.cells (cellsO objZ) 27 (0, 0)) := heap_alloc_eq
    rw [HZ.out] at hq2 hq3 hK3
    have HK := Lib.hid hK3
    have HQ3 := Lib.hid hq3
    have HQ2 := Lib.hid hq2
    clear hK hK3 hq3 hq2 hb
    go_wp2_with (first
      | refine wpList_storeObj rfl _ _ rfl w2.heap.size rfl o rfl _ HQ2.out rfl ?_
      | refine wpList_loadObjG (by first | rfl | (simp [Region.wanted, yielded]; done)) _ rfl w2.heap.size rfl o (cells_all HQ3.out) ?_
      | refine wpList_loadObjG (by first | rfl | (simp [Region.wanted, yielded]; done)) _ rfl w.heap.size rfl o (cells_all HK.out.box) ?_
      | refine wpList_neqObjG (by first | rfl | (simp [Region.wanted, yielded]; done)) _ _ _ rfl o o rfl rfl ?_)
    refine (read_any v bs _ (HK.out.src HS.out)).mono ?_
    rintro e w5 ⟨rfl, hb⟩
    have hK := HK.out.next hb
    have HK := Lib.hid hK
    clear hb hK
    cases hd : readD bs with
    | none =>
      simp only [Option.getD_none, Option.isSome_none, Bool.false_eq_true, if_false]
      have hK6 := HK.out.next (below_new w5 (.cells (cellsO objZ) 27) (.cells (cellsO objZ) 27 (0, 0)))
      have hq6 := new_box w5 (.cells (cellsO objZ) 27) (cellsO objZ) 27
      have hq5 : (w5.alloc (.cells (cellsO objZ) 27)).heap[w5.heap.size]? = some (.cells (cellsO objZ) 27 (0, 0)) := heap_alloc_eq
      rw [HZ.out] at hq5
      have HK6 := Lib.hid hK6
      have HQ6 := Lib.hid hq6
      have HQ5 := Lib.hid hq5
      clear hK6 hq6 hq5 hd
      go_wp2_with (first
        | refine wpList_storeObj rfl _ _ rfl w5.heap.size rfl objZ rfl _ HQ5.out rfl ?_
        | (go_at_call 13; rw [← HZ.out]; refine (live_any _).mono ?_; rintro e w9 ⟨rfl, hb⟩; have hK := HK6.out.next hb; have hq := (hb.block _ (heap_lt HQ6.out)).trans HQ6.out; have HK := Lib.hid hK; have HQ := Lib.hid hq; clear hb hK hq)
        | refine wpList_loadObjG (by first | rfl | (simp [Region.wanted, yielded]; done)) _ rfl w5.heap.size rfl objZ (cells_all HQ.out) ?_
        | refine wpList_eqlObjG (by first | rfl | (simp [Region.wanted, yielded]; done)) _ _ _ rfl objZ objZ rfl (by first | rfl | exact congrArg Value.agg HZ.out.symm) ?_)
      go_ret
      exact ⟨rfl, HK.out.below⟩
    | some o2 =>
      obtain ⟨hbs, ty2, ra2⟩ := readD_some hd
      simp only [Option.getD_some, Option.isSome_some, if_true]
      have hK6 := HK.out.next (below_new w5 (.cells (cellsO objZ) 27) (.cells (cellsO o2) 27 (0, 0)))
      have hq6 := new_box w5 (.cells (cellsO objZ) 27) (cellsO o2) 27
      have hq5 : (w5.alloc (.cells (cellsO objZ) 27)).heap[w5.heap.size]? = some (.cells (cellsO objZ) 27 (0, 0)) := heap_alloc_eq
      have hW6 : (Wset (w5.alloc (.cells (cellsO objZ) 27)) w5.heap.size (.cells (cellsO o2) 27 (0, 0))) = (Wset (w5.alloc (.cells (cellsO objZ) 27)) w5.heap.size (.cells (cellsO o2) 27 (0, 0))) := rfl
      rw [HZ.out] at hq5 hq6
      have HK6 := Lib.hid hK6
      have HQ6 := Lib.hid hq6
      have HQ5 := Lib.hid hq5
      have HBS := Lib.hid hbs
      have TY2 := Lib.hid ty2
      have RA2 := Lib.hid ra2
      clear hK6 hq6 hq5 hd hW6 hbs ty2 ra2
      go_wp2_with (first
        | refine wpList_storeObj rfl _ _ rfl w5.heap.size rfl o2 rfl _ HQ5.out rfl ?_
        | refine wpList_loadObj rfl _ rfl w5.heap.size rfl o2 (cells_all HQ6.out) ?_
        | (go_at_call 10; rw [← HZ.out]; refine (object_any o2 _ TY2.out (right_fits RA2.out)).mono ?_; rw [RA2.out]; rintro e w7 ⟨v7, rfl, hown, hb⟩; have hK := HK6.out.next hb; rw [if_pos rfl] at hown; have HK := Lib.hid hK; have HV7 := Lib.hid hown; clear hown hb hK)
        | (go_at_call 13; refine (live_any _).mono ?_; rintro e w9 ⟨rfl, hb⟩; have hK := HK.out.next hb; have t1 := run_text (HV7.out.later hb).isB; have t2 := (hK.src HS.out).text; rw [HBS.out] at t2; have HK := Lib.hid hK; clear hb hK))
      go_ret
      exact ⟨rfl, HK.out.below⟩


end Go.Proofs.Ytgplolfkfhhddaa
