/- Layer 5 (blocks): the Fork of the document's log; which records are whole. -/
import Derived.Test.YtmkfiecdgghceaaC2
import Derived.Test.YtmkfiecdgghceaaB10
namespace Go.Proofs.Ytmkfiecdgghceaa
open Go.RowKit
set_option linter.unusedVariables false
set_option linter.unusedSimpArgs false

def ForkRPost (w : World) (bs : Bs) (last most : Nat) (e : Ending) (w' : World) : Prop := ∃ q u, e = .returned (.pointer (some ⟨q, 0, none⟩)) ∧ RefAt w' w.heap.size q u bs last most ∧ Below w.heap.size w w'
set_option maxRecDepth 100000 in
set_option maxHeartbeats 2000000 in
theorem forkR_any (w : World) (B q : Nat) (v : Value) (bs : Bs) (last most : Nat) (h : RefAt w B q v bs last most) : Calls Try.prog 29 #[.pointer (some ⟨q, 0, none⟩)] w (ForkRPost w bs last most) := by
  have H := Lib.hid h
  have hn := h.hn
  have hm := h.hm
  obtain ⟨a, c, rfl⟩ := h.lv
  obtain ⟨c0, f0⟩ := cells_of_block h.cells 0 (.slice a bs.length c) rfl
  obtain ⟨c1, f1⟩ := cells_of_block h.cells 1 (.int .i64 (last : Int)) rfl
  obtain ⟨c2, f2⟩ := cells_of_block h.cells 2 (.int .i64 (most : Int)) rfl
  have hql := heap_lt h.cells
  have HC := Lib.hid h.cells
  have HCA := Lib.hid (fun o => (heap_alloc_lt hql (o := o)).trans h.cells)
  clear h
  go_enter Try.func29, Try.ntmps29
  go_wp2
  refine wp_region_N (fun w' => (w'.cell? ⟨q, 0, none⟩ = some (.slice a bs.length c)) ∧ (w'.cell? ⟨q, 1, none⟩ = some (.int .i64 (last : Int))) ∧ (w'.cell? ⟨q, 2, none⟩ = some (.int .i64 (most : Int))))
    [(true, 1), (true, 2), (true, 3), (true, 4), (true, 6), (true, 7), (true, 8), (true, 9), (true, 10), (true, 11), (true, 12), (true, 13), (false, 0), (false, 5), (true, 14), (false, 15), (true, 16)] (by kernel_rfl) (by kernel_rfl) rfl (by kernel_rfl) ?_ ?_
  · exact ⟨by first | go_keep | exact (cells_of_block (HCA.out _) _ _ rfl).1 | exact (cells_of_block HC3.out _ _ rfl).1 | exact (cells_of_block ((heap_alloc_lt (heap_lt HC3.out)).trans HC3.out) _ _ rfl).1, by first | go_keep | exact (cells_of_block (HCA.out _) _ _ rfl).1 | exact (cells_of_block HC3.out _ _ rfl).1 | exact (cells_of_block ((heap_alloc_lt (heap_lt HC3.out)).trans HC3.out) _ _ rfl).1, by first | go_keep | exact (cells_of_block (HCA.out _) _ _ rfl).1 | exact (cells_of_block HC3.out _ _ rfl).1 | exact (cells_of_block ((heap_alloc_lt (heap_lt HC3.out)).trans HC3.out) _ _ rfl).1⟩
  simp only [List.filterMap_cons, List.filterMap_nil, List.getElem?_cons_succ, List.getElem?_cons_zero, Option.map_some]
  apply wpSeq_takeK _ (by first | rfl | (simp [Region.wanted, yielded]; done))
  · intro w' hS
    obtain ⟨s0, s1, s2⟩ := hS
    skip
    go_simp
    try rfl
  intro K hK
  go_simp
  refine hK _ ?_
  clear hK K
  apply wpSeq_takeK _ (by first | rfl | (simp [Region.wanted, yielded]; done))
  · intro w' hS
    obtain ⟨s0, s1, s2⟩ := hS
    skip
    go_simp
    try rfl
  intro K hK
  go_simp
  refine hK _ ?_
  clear hK K
  apply wpSeq_takeK _ (by first | rfl | (simp [Region.wanted, yielded]; done))
  · intro w' hS
    obtain ⟨s0, s1, s2⟩ := hS
    skip
    go_simp
    try rfl
  intro K hK
  go_simp
  refine hK _ ?_
  clear hK K
  apply wpSeq_takeK _ (by first | rfl | (simp [Region.wanted, yielded]; done))
  · intro w' hS
    obtain ⟨s0, s1, s2⟩ := hS
    skip
    go_simp
    try rfl
  intro K hK
  go_simp
  refine hK _ ?_
  clear hK K
  apply wpSeq_takeK _ (by first | rfl | (simp [Region.wanted, yielded]; done))
  · intro w' hS
    obtain ⟨s0, s1, s2⟩ := hS
    skip
    go_simp
    try rfl
  intro K hK
  go_simp
  refine hK _ ?_
  clear hK K
  apply wpSeq_takeK _ (by first | rfl | (simp [Region.wanted, yielded]; done))
  · intro w' hS
    obtain ⟨s0, s1, s2⟩ := hS
    skip
    go_simp
    try rfl
  intro K hK
  go_simp
  refine hK _ ?_
  clear hK K
  apply wpSeq_takeK _ (by first | rfl | (simp [Region.wanted, yielded]; done))
  · intro w' hS
    obtain ⟨s0, s1, s2⟩ := hS
    skip
    go_simp
    try rfl
  intro K hK
  go_simp
  refine hK _ ?_
  clear hK K
  apply wpSeq_takeK _ (by first | rfl | (simp [Region.wanted, yielded]; done))
  · intro w' hS
    obtain ⟨s0, s1, s2⟩ := hS
    skip
    go_simp
    try rfl
  intro K hK
  go_simp
  refine hK _ ?_
  clear hK K
  apply wpSeq_takeK _ (by first | rfl | (simp [Region.wanted, yielded]; done))
  · intro w' hS
    obtain ⟨s0, s1, s2⟩ := hS
    skip
    go_simp
    try rfl
  intro K hK
  go_simp
  refine hK _ ?_
  clear hK K
  apply wpSeq_takeK _ (by first | rfl | (simp [Region.wanted, yielded]; done))
  · intro w' hS
    obtain ⟨s0, s1, s2⟩ := hS
    skip
    go_simp
    try rfl
  intro K hK
  go_simp
  refine hK _ ?_
  clear hK K
  apply wpSeq_takeK _ (by first | rfl | (simp [Region.wanted, yielded]; done))
  · intro w' hS
    obtain ⟨s0, s1, s2⟩ := hS
    skip
    go_simp
    try rfl
  intro K hK
  go_simp
  refine hK _ ?_
  clear hK K
  apply wpSeq_takeK _ (by first | rfl | (simp [Region.wanted, yielded]; done))
  · intro w' hS
    obtain ⟨s0, s1, s2⟩ := hS
    skip
    go_simp
    try rfl
  intro K hK
  go_simp
  refine hK _ ?_
  clear hK K
  refine wpSeq_alone ?_
  go_wp2
  refine QS_normal ⟨by first | go_keep | exact (cells_of_block (HCA.out _) _ _ rfl).1 | exact (cells_of_block HC3.out _ _ rfl).1 | exact (cells_of_block ((heap_alloc_lt (heap_lt HC3.out)).trans HC3.out) _ _ rfl).1, by first | go_keep | exact (cells_of_block (HCA.out _) _ _ rfl).1 | exact (cells_of_block HC3.out _ _ rfl).1 | exact (cells_of_block ((heap_alloc_lt (heap_lt HC3.out)).trans HC3.out) _ _ rfl).1, by first | go_keep | exact (cells_of_block (HCA.out _) _ _ rfl).1 | exact (cells_of_block HC3.out _ _ rfl).1 | exact (cells_of_block ((heap_alloc_lt (heap_lt HC3.out)).trans HC3.out) _ _ rfl).1⟩ (fun _ => ?_)
  refine wpSeq_alone ?_
  (refine wpList_app_bytes rfl _ _ rfl w.heap.size (.slice (some ⟨w.heap.size, 0, none⟩) 0 0) [] rfl (World.ownsRow_made w _ 0 (Nat.le_refl _) (by unfold maxLen; omega) rfl) _ bs rfl (H.out.row.isB.below ((Below.refl w.heap.size w).alloc (Nat.le_refl _) (.cells #[] 5)).drew) (by simp; omega) (show w.heap.size ≤ (w.alloc (.cells #[] 5)).heap.size by simp) ?_; intro v2 w2 hown hgr; obtain ⟨a2, c2', rfl⟩ := OwnB.lv (l := bs) hown; have HO := Lib.hid (show OwnB w2 w.heap.size (.slice a2 bs.length c2') bs from hown); have HB := Lib.hid (show Below w.heap.size w w2 from ((Below.refl w.heap.size w).alloc (Nat.le_refl _) (.cells #[] 5)).drew.grown hgr (show w.heap.size ≤ (w.alloc (.cells #[] 5)).heap.size by simp) (fun k e => by simp [Value.ownBlock] at e; omega)); have HC3 := Lib.hid ((HB.out.block q (heap_lt HC.out)).trans HC.out); clear hown hgr; go_wp2)
  refine QS_normal ⟨by first | go_keep | exact (cells_of_block (HCA.out _) _ _ rfl).1 | exact (cells_of_block HC3.out _ _ rfl).1 | exact (cells_of_block ((heap_alloc_lt (heap_lt HC3.out)).trans HC3.out) _ _ rfl).1, by first | go_keep | exact (cells_of_block (HCA.out _) _ _ rfl).1 | exact (cells_of_block HC3.out _ _ rfl).1 | exact (cells_of_block ((heap_alloc_lt (heap_lt HC3.out)).trans HC3.out) _ _ rfl).1, by first | go_keep | exact (cells_of_block (HCA.out _) _ _ rfl).1 | exact (cells_of_block HC3.out _ _ rfl).1 | exact (cells_of_block ((heap_alloc_lt (heap_lt HC3.out)).trans HC3.out) _ _ rfl).1⟩ (fun _ => ?_)
  apply wpSeq_takeK _ (by first | rfl | (simp [Region.wanted, yielded]; done))
  · intro w' hS
    obtain ⟨s0, s1, s2⟩ := hS
    skip
    go_simp
    try rfl
  intro K hK
  go_simp
  refine hK _ ?_
  clear hK K
  refine wpSeq_alone ?_
  go_wp2
  refine QS_normal ⟨by first | go_keep | exact (cells_of_block (HCA.out _) _ _ rfl).1 | exact (cells_of_block HC3.out _ _ rfl).1 | exact (cells_of_block ((heap_alloc_lt (heap_lt HC3.out)).trans HC3.out) _ _ rfl).1, by first | go_keep | exact (cells_of_block (HCA.out _) _ _ rfl).1 | exact (cells_of_block HC3.out _ _ rfl).1 | exact (cells_of_block ((heap_alloc_lt (heap_lt HC3.out)).trans HC3.out) _ _ rfl).1, by first | go_keep | exact (cells_of_block (HCA.out _) _ _ rfl).1 | exact (cells_of_block HC3.out _ _ rfl).1 | exact (cells_of_block ((heap_alloc_lt (heap_lt HC3.out)).trans HC3.out) _ _ rfl).1⟩ (fun _ => ?_)
  apply wpSeq_takeK _ (by first | rfl | (simp [Region.wanted, yielded]; done))
  · intro w' hS
    obtain ⟨s0, s1, s2⟩ := hS
    skip
    go_simp
    try rfl
  intro K hK
  go_simp
  refine hK _ ?_
  clear hK K
  refine wpSeq_end ?_
  go_wp2
  go_ret
  exact ⟨w2.heap.size, _, rfl, ⟨heap_alloc_eq, HO.out.alloc _, HB.out.size, H.out.hl, hn, hm⟩, HB.out.alloc HB.out.size _⟩

/-! ### the whole records -/
theorem und_b : Try.prog.underlying 5 = some (.int .u8) := by kernel_rfl
theorem und_str : Try.prog.underlying 9 = some .string := by kernel_rfl
theorem foldl_push (l : Bs) : ∀ s : ByteArray, (l.map fun c => ((c.toNat : Nat) : Int)).foldl (fun r n => r.push (UInt8.ofNat n.toNat)) s = ⟨s.data ++ l.toArray⟩ := by
  induction l with
  | nil => intro s; simp
  | cons c l ih =>
    intro s
    simp only [List.map_cons, List.foldl_cons, Int.toNat_natCast]
    rw [ih]
    simp [ByteArray.push]
theorem run_text {w : World} {v : Value} {l : Bs} (h : IsB w v l) : (convert 22 9 v).run Try.prog w = .ok (.string ⟨l.toArray⟩) w := by
  rcases h with ⟨rfl, rfl⟩ | ⟨b, o, c, rfl, _, _, h⟩
  · rw [run_convert_bytes_string w 22 9 5 none 0 0 und_B und_b und_str]
    rfl
  · rw [run_convert_bytes_string w 22 9 5 (some ⟨b, o, none⟩) l.length c und_B und_b und_str]
    have hl := run_loadCells_list (P := Try.prog) w ⟨b, o, none⟩ (cellsU l) (fun j u hu => by
      have hj : j < l.length := by have := (List.getElem?_eq_some_iff.1 hu).1; simpa using this
      rw [cellsU_get l j hj] at hu
      cases hu
      rw [Addr.add_lit]; exact h j hj)
    rw [cellsU_length] at hl
    have := run_bytesToString (P := Try.prog) w ⟨b, o, none⟩ l.length c (l.map fun c => ((c.toNat : Nat) : Int)) (by rw [hl]; simp [cellsU])
    rw [this, foldl_push]
    simp

end Go.Proofs.Ytmkfiecdgghceaa
