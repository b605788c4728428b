/- Layer 4 (codec): what the document writes of a change. -/
import Derived.Test.YtgplolfkfhhddaaV2
import Derived.Test.YtgplolfkfhhddaaW4
namespace Go.Proofs.Ytgplolfkfhhddaa
open Go.RowKit
set_option linter.unusedVariables false
set_option linter.unusedSimpArgs false

theorem EvBox.kept {w w' : World} {b B : Nat} {e : Ev} (h : EvBox w b e) (hb : Below B w w') (hB : b < B) : EvBox w' b e := ⟨(hb.block b hB).trans h.heap⟩
theorem chE_parts (c : Ev) : (numE c.version.toNat ++ [to8 ((bitE c.gone 1 : Nat) : Int)]) ++ objE c.obj = chE c := by simp only [chE, to8, u8_ofNat, List.append_assoc]

set_option maxRecDepth 100000 in
set_option maxHeartbeats 4000000 in
theorem changeR_any (c : Ev) (w : World) (ht : c.Typed) (hf : c.obj.Fits) :
    Calls Try.prog 16 #[.agg (cellsEv c)] w fun e w' => BytesR w w' e (rightB c.obj) (chE c) := by
  have HF := Lib.hid hf
  have HT := Lib.hid ht
  clear hf ht
  have HB0 := Lib.hid ((Below.refl w.heap.size w).alloc (Nat.le_refl _) (.cells (cellsEv c) 39))
  have hE0 : EvBox (w.alloc (.cells (cellsEv c) 39)) w.heap.size c := ⟨heap_alloc_eq⟩
  have HE0 := Lib.hid hE0
  have hS0 := hE0.obj
  clear hE0
  go_enter Try.func16, Try.ntmps16
  go_wp2_with (refine wpList_loadObjAt rfl _ rfl _ _ rfl c.obj hS0 ?_)
  refine (objectR_any c.obj _ HT.out.obj HF.out).mono ?_
  rintro e w1 ⟨vo, rfl, hvo, hb1⟩
  have HE1 := Lib.hid (HE0.out.kept hb1 (by simp))
  have HB1 := Lib.hid ((HB0.out).trans (hb1.mono (HB0.out).size))
  have hz1 : w.heap.size < w1.heap.size := Nat.lt_of_lt_of_le (by simp) hb1.size
  clear hb1 hS0 HB0 HE0
  cases hr : rightB c.obj with
  | false =>
    go_wp2
    go_ret2
    exact BytesR.no hr HB1.out
  | true =>
    have HR := Lib.hid hr
    rw [hr, if_pos rfl] at hvo
    have HVO := Lib.hid (OwnB.isB hvo)
    have HVL := Lib.hid (show (objE c.obj).length ≤ 400 from (objE_len HT.out.obj hr).2)
    have HNL := Lib.hid (show (numE c.version.toNat).length ≤ 10 by have := HT.out.version; exact numE_64 (by omega))
    clear hvo hr
    go_wp2
    refine wp_region_N (fun w' => (w'.cell? ⟨w.heap.size, 0, none⟩ = some (.int .u64 c.version)) ∧ (w'.cell? ⟨w.heap.size, 1, none⟩ = some (.bool c.gone)))
      [(true, 0), (true, 1), (true, 3), (true, 4), (false, 2), (false, 5), (false, 6), (false, 7), (true, 8)] (by kernel_rfl) (by kernel_rfl) rfl (by kernel_rfl) ?_ ?_
    · exact ⟨by first | exact (HE1.out.kept HBB.out hz1).version | exact (HE1.out.kept HBB.out hz1).gone | exact (HE1.out.kept (Below.refl _ w1).drew hz1).version | exact (HE1.out.kept (Below.refl _ w1).drew hz1).gone, by first | exact (HE1.out.kept HBB.out hz1).version | exact (HE1.out.kept HBB.out hz1).gone | exact (HE1.out.kept (Below.refl _ w1).drew hz1).version | exact (HE1.out.kept (Below.refl _ w1).drew hz1).gone⟩
    simp only [List.filterMap_cons, List.filterMap_nil, List.getElem?_cons_succ, List.getElem?_cons_zero, Option.map_some]
    apply wpSeq_takeK _ (by first | rfl | (simp [Region.wanted, yielded]; done))
    · intro w' hS
      obtain ⟨s0, s1⟩ := hS
      skip
      go_simp
      try rfl
    intro K hK
    go_simp
    refine hK _ ?_
    clear hK K
    apply wpSeq_takeK _ (by first | rfl | (simp [Region.wanted, yielded]; done))
    · intro w' hS
      obtain ⟨s0, s1⟩ := hS
      skip
      go_simp
      try rfl
    intro K hK
    go_simp
    refine hK _ ?_
    clear hK K
    apply wpSeq_takeK _ (by first | rfl | (simp [Region.wanted, yielded]; done))
    · intro w' hS
      obtain ⟨s0, s1⟩ := hS
      skip
      go_simp
      try rfl
    intro K hK
    go_simp
    refine hK _ ?_
    clear hK K
    apply wpSeq_takeK _ (by first | rfl | (simp [Region.wanted, yielded]; done))
    · intro w' hS
      obtain ⟨s0, s1⟩ := hS
      skip
      go_simp
      try rfl
    intro K hK
    go_simp
    refine hK _ ?_
    clear hK K
    refine wpSeq_alone ?_
    (go_wp2_with (go_at_call 32; refine (rnumber_int _ HT.out.version _).mono ?_; rintro e w2 ⟨v2, rfl, ho, hb⟩; have HO := Lib.hid (show OwnB w2 w1.heap.size v2 (numE c.version.toNat) from ho); have HBB := Lib.hid (show Below w1.heap.size w1 w2 from ((Below.refl w1.heap.size w1).drew).trans hb); clear ho hb))
    refine QS_normal ⟨by first | exact (HE1.out.kept HBB.out hz1).version | exact (HE1.out.kept HBB.out hz1).gone | exact (HE1.out.kept (Below.refl _ w1).drew hz1).version | exact (HE1.out.kept (Below.refl _ w1).drew hz1).gone, by first | exact (HE1.out.kept HBB.out hz1).version | exact (HE1.out.kept HBB.out hz1).gone | exact (HE1.out.kept (Below.refl _ w1).drew hz1).version | exact (HE1.out.kept (Below.refl _ w1).drew hz1).gone⟩ (fun _ => ?_)
    refine wpSeq_alone ?_
    (go_wp2_with (go_at_call 33; refine (rbit_nat _ 1 1 rfl _).mono ?_; rintro e w3 ⟨rfl, hw⟩; have hw' := hw.symm; subst hw'; clear hw))
    refine QS_normal ⟨by first | exact (HE1.out.kept HBB.out hz1).version | exact (HE1.out.kept HBB.out hz1).gone | exact (HE1.out.kept (Below.refl _ w1).drew hz1).version | exact (HE1.out.kept (Below.refl _ w1).drew hz1).gone, by first | exact (HE1.out.kept HBB.out hz1).version | exact (HE1.out.kept HBB.out hz1).gone | exact (HE1.out.kept (Below.refl _ w1).drew hz1).version | exact (HE1.out.kept (Below.refl _ w1).drew hz1).gone⟩ (fun _ => ?_)
    refine wpSeq_alone ?_
    (go_wp2; (have HI := Lib.hid (lit_isB w2 ((bitE c.gone 1 : Nat) : Int) (bitE_rng _)); have HO := Lib.hid (show OwnB (w2.alloc (.cells #[.int .u8 ((bitE c.gone 1 : Nat) : Int)] 5)) w1.heap.size v2 (numE c.version.toNat) from HO.out.alloc _); have HBB := Lib.hid (HBB.out.alloc HBB.out.size (.cells #[.int .u8 ((bitE c.gone 1 : Nat) : Int)] 5))))
    refine QS_normal ⟨by first | exact (HE1.out.kept HBB.out hz1).version | exact (HE1.out.kept HBB.out hz1).gone | exact (HE1.out.kept (Below.refl _ w1).drew hz1).version | exact (HE1.out.kept (Below.refl _ w1).drew hz1).gone, by first | exact (HE1.out.kept HBB.out hz1).version | exact (HE1.out.kept HBB.out hz1).gone | exact (HE1.out.kept (Below.refl _ w1).drew hz1).version | exact (HE1.out.kept (Below.refl _ w1).drew hz1).gone⟩ (fun _ => ?_)
    refine wpSeq_alone ?_
    ((try simp only [List.getElem_toArray, List.getElem_cons_succ, List.getElem_cons_zero]); refine wpList_app_bytes rfl _ _ rfl w1.heap.size _ _ rfl HO.out _ _ rfl HI.out (by have := HNL.out; (try simp only [List.length_append, List.length_cons, List.length_nil]); omega) HBB.out.size ?_; intro v3 w3 hown hgr; have hB3 := HBB.out.grown hgr HBB.out.size (fun k e => (HO.out.tb e).1); have HO := Lib.hid hown; have HBB := Lib.hid hB3; clear hown hgr hB3; go_wp2)
    refine QS_normal ⟨by first | exact (HE1.out.kept HBB.out hz1).version | exact (HE1.out.kept HBB.out hz1).gone | exact (HE1.out.kept (Below.refl _ w1).drew hz1).version | exact (HE1.out.kept (Below.refl _ w1).drew hz1).gone, by first | exact (HE1.out.kept HBB.out hz1).version | exact (HE1.out.kept HBB.out hz1).gone | exact (HE1.out.kept (Below.refl _ w1).drew hz1).version | exact (HE1.out.kept (Below.refl _ w1).drew hz1).gone⟩ (fun _ => ?_)
    apply wpSeq_takeK _ (by first | rfl | (simp [Region.wanted, yielded]; done))
    · intro w' hS
      obtain ⟨s0, s1⟩ := hS
      skip
      go_simp
      try rfl
    intro K hK
    go_simp
    refine hK _ ?_
    clear hK K
    refine wpSeq_end ?_
    go_wp2_with (at_builtin; refine wpList_app_bytes rfl _ _ rfl w1.heap.size _ _ rfl HO.out vo (objE c.obj) rfl (HVO.out.below HBB.out) (by have := HNL.out; have := HVL.out; (try simp only [List.length_append, List.length_cons, List.length_nil]); omega) HBB.out.size ?_; intro v4 w4 hown hgr; have hB3 := HBB.out.grown hgr HBB.out.size (fun k e => (HO.out.tb e).1); have HO := Lib.hid hown; have HBB := Lib.hid hB3; clear hown hgr hB3)
    have hO : OwnB w4 w1.heap.size v4 (chE c) := by have := HO.out; rwa [show (numE c.version.toNat ++ [u8 ((bitE c.gone 1 : Nat) : Int)]) ++ objE c.obj = chE c from chE_parts c] at this
    go_ret2
    exact BytesR.yes HR.out hO (Nat.le_of_lt hz1) (HB1.out.trans (HBB.out.mono HB1.out.size))

end Go.Proofs.Ytgplolfkfhhddaa
