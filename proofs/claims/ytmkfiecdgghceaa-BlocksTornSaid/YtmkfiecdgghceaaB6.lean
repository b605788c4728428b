/- Layer 5 (blocks): a log's Fork. -/
import Derived.Test.YtmkfiecdgghceaaB5
import Derived.Test.YtmkfiecdgghceaaReg
namespace Go.Proofs.Ytmkfiecdgghceaa
open Go.RowKit
set_option linter.unusedVariables false
set_option linter.unusedSimpArgs false

def ForkPost (w : World) (n : Nat) (bs : Bs) (last most : Nat) (e : Ending) (w' : World) : Prop := ∃ q u, e = .returned (.pointer (some ⟨q, 0, none⟩)) ∧ LogAt w' w.heap.size q u n bs last most ∧ Below w.heap.size w w'
set_option maxHeartbeats 1000000 in
theorem fork_nil (w : World) : Calls Try.prog 28 #[.pointer none] w fun e w' => e = .returned (.pointer none) ∧ w' = w := by
  go_enter Try.func28, Try.ntmps28
  go_wp2
  go_ret
  exact ⟨rfl, rfl⟩
set_option maxRecDepth 100000 in
set_option maxHeartbeats 2000000 in
theorem fork_any (w : World) (B p : Nat) (v : Value) (n : Nat) (bs : Bs) (last most : Nat) (h : LogAt w B p v n bs last most) : Calls Try.prog 28 #[.pointer (some ⟨p, 0, none⟩)] w (ForkPost w n bs last most) := by
  have H := Lib.hid h
  have hn := h.hn
  have hm := h.hm
  have hl := h.hl
  obtain ⟨a, c, rfl⟩ := h.lv
  obtain ⟨c0, f0⟩ := cells_of_block h.cells 0 _ rfl
  obtain ⟨c1, f1⟩ := cells_of_block h.cells 1 _ rfl
  obtain ⟨c2, f2⟩ := cells_of_block h.cells 2 _ rfl
  clear h
  go_enter Try.func28, Try.ntmps28
  go_wp2
  refine wp_region_N (fun w' => (w'.cell? ⟨p, 0, none⟩ = some (.slice a n c)) ∧ (w'.cell? ⟨p, 1, none⟩ = some (.int .i64 (last : Int))) ∧ (w'.cell? ⟨p, 2, none⟩ = some (.int .i64 (most : Int))))
    [(true, 0), (true, 1), (true, 2), (true, 3), (true, 5), (true, 6), (true, 7), (true, 8), (true, 9), (true, 10), (true, 11), (true, 12), (false, 4), (true, 13), (false, 14), (true, 15)] (by kernel_rfl) (by kernel_rfl) rfl (by kernel_rfl) ?_ ?_
  · exact ⟨by first | go_keep | exact K0.out | exact K1.out | exact K2.out | exact (Below.cell ((Below.refl _ _).alloc (Nat.le_refl _) _) (World.block_lt_of_cell? _ _ K0.out)).trans K0.out | exact (Below.cell ((Below.refl _ _).alloc (Nat.le_refl _) _) (World.block_lt_of_cell? _ _ K1.out)).trans K1.out | exact (Below.cell ((Below.refl _ _).alloc (Nat.le_refl _) _) (World.block_lt_of_cell? _ _ K2.out)).trans K2.out, by first | go_keep | exact K0.out | exact K1.out | exact K2.out | exact (Below.cell ((Below.refl _ _).alloc (Nat.le_refl _) _) (World.block_lt_of_cell? _ _ K0.out)).trans K0.out | exact (Below.cell ((Below.refl _ _).alloc (Nat.le_refl _) _) (World.block_lt_of_cell? _ _ K1.out)).trans K1.out | exact (Below.cell ((Below.refl _ _).alloc (Nat.le_refl _) _) (World.block_lt_of_cell? _ _ K2.out)).trans K2.out, by first | go_keep | exact K0.out | exact K1.out | exact K2.out | exact (Below.cell ((Below.refl _ _).alloc (Nat.le_refl _) _) (World.block_lt_of_cell? _ _ K0.out)).trans K0.out | exact (Below.cell ((Below.refl _ _).alloc (Nat.le_refl _) _) (World.block_lt_of_cell? _ _ K1.out)).trans K1.out | exact (Below.cell ((Below.refl _ _).alloc (Nat.le_refl _) _) (World.block_lt_of_cell? _ _ K2.out)).trans K2.out⟩
  simp only [List.filterMap_cons, List.filterMap_nil, List.getElem?_cons_succ, List.getElem?_cons_zero, Option.map_some]
  apply wpSeq_takeK _ (by first | rfl | (simp [Region.wanted, yielded]; done))
  · intro w' hS
    obtain ⟨s0, s1, s2⟩ := hS
    skip
    go_simp
    try rfl
  intro K hK
  go_simp
  refine hK _ ?_
  clear hK K
  apply wpSeq_takeK _ (by first | rfl | (simp [Region.wanted, yielded]; done))
  · intro w' hS
    obtain ⟨s0, s1, s2⟩ := hS
    skip
    go_simp
    try rfl
  intro K hK
  go_simp
  refine hK _ ?_
  clear hK K
  apply wpSeq_takeK _ (by first | rfl | (simp [Region.wanted, yielded]; done))
  · intro w' hS
    obtain ⟨s0, s1, s2⟩ := hS
    skip
    go_simp
    try rfl
  intro K hK
  go_simp
  refine hK _ ?_
  clear hK K
  apply wpSeq_takeK _ (by first | rfl | (simp [Region.wanted, yielded]; done))
  · intro w' hS
    obtain ⟨s0, s1, s2⟩ := hS
    skip
    go_simp
    try rfl
  intro K hK
  go_simp
  refine hK _ ?_
  clear hK K
  apply wpSeq_takeK _ (by first | rfl | (simp [Region.wanted, yielded]; done))
  · intro w' hS
    obtain ⟨s0, s1, s2⟩ := hS
    skip
    go_simp
    try rfl
  intro K hK
  go_simp
  refine hK _ ?_
  clear hK K
  apply wpSeq_takeK _ (by first | rfl | (simp [Region.wanted, yielded]; done))
  · intro w' hS
    obtain ⟨s0, s1, s2⟩ := hS
    skip
    go_simp
    try rfl
  intro K hK
  go_simp
  refine hK _ ?_
  clear hK K
  apply wpSeq_takeK _ (by first | rfl | (simp [Region.wanted, yielded]; done))
  · intro w' hS
    obtain ⟨s0, s1, s2⟩ := hS
    skip
    go_simp
    try rfl
  intro K hK
  go_simp
  refine hK _ ?_
  clear hK K
  apply wpSeq_takeK _ (by first | rfl | (simp [Region.wanted, yielded]; done))
  · intro w' hS
    obtain ⟨s0, s1, s2⟩ := hS
    skip
    go_simp
    try rfl
  intro K hK
  go_simp
  refine hK _ ?_
  clear hK K
  apply wpSeq_takeK _ (by first | rfl | (simp [Region.wanted, yielded]; done))
  · intro w' hS
    obtain ⟨s0, s1, s2⟩ := hS
    skip
    go_simp
    try rfl
  intro K hK
  go_simp
  refine hK _ ?_
  clear hK K
  apply wpSeq_takeK _ (by first | rfl | (simp [Region.wanted, yielded]; done))
  · intro w' hS
    obtain ⟨s0, s1, s2⟩ := hS
    skip
    go_simp
    try rfl
  intro K hK
  go_simp
  refine hK _ ?_
  clear hK K
  apply wpSeq_takeK _ (by first | rfl | (simp [Region.wanted, yielded]; done))
  · intro w' hS
    obtain ⟨s0, s1, s2⟩ := hS
    skip
    go_simp
    try rfl
  intro K hK
  go_simp
  refine hK _ ?_
  clear hK K
  apply wpSeq_takeK _ (by first | rfl | (simp [Region.wanted, yielded]; done))
  · intro w' hS
    obtain ⟨s0, s1, s2⟩ := hS
    skip
    go_simp
    try rfl
  intro K hK
  go_simp
  refine hK _ ?_
  clear hK K
  refine wpSeq_alone ?_
  (go_wp2_with (go_at_call 34; refine (cloneL_any n bs _ _ (by omega) (H.out.row.isL.below (Below.refl _ w).drew)).mono ?_; rintro e w1 ⟨u, rfl, ho, hb⟩; obtain ⟨au, cu, rfl⟩ := ho.lv; have K0 := Lib.hid ((hb.cell (p := ⟨p, 0, none⟩) (World.block_lt_of_cell? w _ c0)).trans c0); have K1 := Lib.hid ((hb.cell (p := ⟨p, 1, none⟩) (World.block_lt_of_cell? w _ c1)).trans c1); have K2 := Lib.hid ((hb.cell (p := ⟨p, 2, none⟩) (World.block_lt_of_cell? w _ c2)).trans c2); have HO := Lib.hid ho; have HB := Lib.hid (show Below w.heap.size w w1 from ⟨hb.os, hb.tape, hb.output, hb.size, hb.block⟩); clear ho hb))
  refine QS_normal ⟨by first | go_keep | exact K0.out | exact K1.out | exact K2.out | exact (Below.cell ((Below.refl _ _).alloc (Nat.le_refl _) _) (World.block_lt_of_cell? _ _ K0.out)).trans K0.out | exact (Below.cell ((Below.refl _ _).alloc (Nat.le_refl _) _) (World.block_lt_of_cell? _ _ K1.out)).trans K1.out | exact (Below.cell ((Below.refl _ _).alloc (Nat.le_refl _) _) (World.block_lt_of_cell? _ _ K2.out)).trans K2.out, by first | go_keep | exact K0.out | exact K1.out | exact K2.out | exact (Below.cell ((Below.refl _ _).alloc (Nat.le_refl _) _) (World.block_lt_of_cell? _ _ K0.out)).trans K0.out | exact (Below.cell ((Below.refl _ _).alloc (Nat.le_refl _) _) (World.block_lt_of_cell? _ _ K1.out)).trans K1.out | exact (Below.cell ((Below.refl _ _).alloc (Nat.le_refl _) _) (World.block_lt_of_cell? _ _ K2.out)).trans K2.out, by first | go_keep | exact K0.out | exact K1.out | exact K2.out | exact (Below.cell ((Below.refl _ _).alloc (Nat.le_refl _) _) (World.block_lt_of_cell? _ _ K0.out)).trans K0.out | exact (Below.cell ((Below.refl _ _).alloc (Nat.le_refl _) _) (World.block_lt_of_cell? _ _ K1.out)).trans K1.out | exact (Below.cell ((Below.refl _ _).alloc (Nat.le_refl _) _) (World.block_lt_of_cell? _ _ K2.out)).trans K2.out⟩ (fun _ => ?_)
  apply wpSeq_takeK _ (by first | rfl | (simp [Region.wanted, yielded]; done))
  · intro w' hS
    obtain ⟨s0, s1, s2⟩ := hS
    skip
    go_simp
    try rfl
  intro K hK
  go_simp
  refine hK _ ?_
  clear hK K
  refine wpSeq_alone ?_
  go_wp2
  refine QS_normal ⟨by first | go_keep | exact K0.out | exact K1.out | exact K2.out | exact (Below.cell ((Below.refl _ _).alloc (Nat.le_refl _) _) (World.block_lt_of_cell? _ _ K0.out)).trans K0.out | exact (Below.cell ((Below.refl _ _).alloc (Nat.le_refl _) _) (World.block_lt_of_cell? _ _ K1.out)).trans K1.out | exact (Below.cell ((Below.refl _ _).alloc (Nat.le_refl _) _) (World.block_lt_of_cell? _ _ K2.out)).trans K2.out, by first | go_keep | exact K0.out | exact K1.out | exact K2.out | exact (Below.cell ((Below.refl _ _).alloc (Nat.le_refl _) _) (World.block_lt_of_cell? _ _ K0.out)).trans K0.out | exact (Below.cell ((Below.refl _ _).alloc (Nat.le_refl _) _) (World.block_lt_of_cell? _ _ K1.out)).trans K1.out | exact (Below.cell ((Below.refl _ _).alloc (Nat.le_refl _) _) (World.block_lt_of_cell? _ _ K2.out)).trans K2.out, by first | go_keep | exact K0.out | exact K1.out | exact K2.out | exact (Below.cell ((Below.refl _ _).alloc (Nat.le_refl _) _) (World.block_lt_of_cell? _ _ K0.out)).trans K0.out | exact (Below.cell ((Below.refl _ _).alloc (Nat.le_refl _) _) (World.block_lt_of_cell? _ _ K1.out)).trans K1.out | exact (Below.cell ((Below.refl _ _).alloc (Nat.le_refl _) _) (World.block_lt_of_cell? _ _ K2.out)).trans K2.out⟩ (fun _ => ?_)
  apply wpSeq_takeK _ (by first | rfl | (simp [Region.wanted, yielded]; done))
  · intro w' hS
    obtain ⟨s0, s1, s2⟩ := hS
    skip
    go_simp
    try rfl
  intro K hK
  go_simp
  refine hK _ ?_
  clear hK K
  refine wpSeq_end ?_
  go_wp2
  go_ret
  refine ⟨w1.heap.size, _, rfl, ⟨heap_alloc_eq, ⟨HO.out.1, ?_⟩, HB.out.size, hl, hn, hm⟩, HB.out.alloc HB.out.size _⟩
  exact HO.out.2.alloc _

end Go.Proofs.Ytmkfiecdgghceaa
