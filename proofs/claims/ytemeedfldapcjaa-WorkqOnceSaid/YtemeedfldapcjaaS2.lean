/- A part of the walks: contracts of functions. -/
import Derived.Test.YtemeedfldapcjaaR9
import Derived.Test.YtemeedfldapcjaaTree
namespace Go.Proofs.Ytemeedfldapcjaa
open Go.RowKit
set_option linter.unusedVariables false
set_option linter.unusedSimpArgs false
theorem alloc_at {w : World} {B : Nat} (_ : B ≤ w.heap.size) (o : Obj) : (w.alloc o).heap[w.heap.size]? = some o := heap_alloc_eq
theorem row_apart79 {w : World} {v v' : Value} {n n' b b' : Nat} {xs xs' : List Value} (hA : w.ownsRow b 79 3 v n xs) (hI : w.ownsRow b' 81 3 v' n' xs') : ∀ k, v'.ownBlock = some k → v.ownBlock ≠ some k := by
  intro k h1 h2
  obtain ⟨c1, g1⟩ := row_block (row_base hA) h2
  obtain ⟨c2, g2⟩ := row_block (row_base hI) h1
  rw [g1] at g2; cases g2
theorem row_apart79' {w : World} {v v' : Value} {n n' b b' : Nat} {xs xs' : List Value} (hA : w.ownsRow b 79 3 v n xs) (hI : w.ownsRow b' 81 3 v' n' xs') : ∀ k, v.ownBlock = some k → v'.ownBlock ≠ some k := by
  intro k h1 h2
  exact row_apart79 hA hI k h2 h1

set_option maxRecDepth 100000 in
set_option maxHeartbeats 4000000 in
theorem forkR_any (R : RLoc) (r : RQ) (w : World) (h : RAt w R r) (hlen : r.l.length < 1000) (hfl : r.fs.length < 1000) :
    Calls Try.prog 27 #[.pointer (some ⟨R.rq, 0, none⟩)] w fun e w' => ∃ R', e = .returned (.pointer (some ⟨R'.rq, 0, none⟩)) ∧ RAt w' R' r ∧ Below w.heap.size w w' ∧ ∀ k, R'.mine k → w.heap.size ≤ k := by
  have hrowl := h.hl
  have hrowf := h.hf
  have hd := h.hd
  obtain ⟨al, cl, hvl, _, _, _⟩ := row_open hrowl
  obtain ⟨af, cf, hvf, _, _, _⟩ := row_open hrowf
  have hlt := heap_lt hd
  rw [hvl] at hrowl
  rw [hvf] at hrowf
  rw [hvl, hvf] at hd
  obtain ⟨c0, f0⟩ := cells_of_block hd 0 _ rfl
  obtain ⟨c1, f1⟩ := cells_of_block hd 1 _ rfl
  simp only [List.getElem_toArray, List.getElem_cons_zero, List.getElem_cons_succ] at c0 c1
  clear f0 f1 hd h
  go_enter Try.func27, Try.ntmps27
  go_wp2
  have hB := (Below.refl w.heap.size w).drew
  refine wp_region_tree (fun w' => (w'.cell? ⟨R.rq, 0, none⟩ = some (.slice al r.l.length cl)) ∧ (w'.cell? ⟨R.rq, 1, none⟩ = some (.slice af r.fs.length cf))) (.t 1 (.t 2 (.t 3 (.t 4 (.t 7 (.t 8 (.t 9 (.t 10 (.f 0 (.f 5 (.a 6 (.a 11 (.t 12 (.a 13 (.t 14 .nil))))) 6 (.a 5 (.a 11 (.t 12 (.a 13 (.t 14 .nil)))))) 6 (.a 0 (.a 5 (.a 11 (.t 12 (.a 13 (.t 14 .nil))))))))))))))) (by kernel_rfl) (by kernel_rfl) (by kernel_rfl) ?_ ?_
  · exact ⟨by first | exact (hB.cell (p := ⟨R.rq, 0, none⟩) hlt).trans c0 | exact (hB.cell (p := ⟨R.rq, 1, none⟩) hlt).trans c1, by first | exact (hB.cell (p := ⟨R.rq, 0, none⟩) hlt).trans c0 | exact (hB.cell (p := ⟨R.rq, 1, none⟩) hlt).trans c1⟩
  (generalize w.drew = W0 at *)
  apply wpT_takeK rfl _ (by first | rfl | (simp [Region.wanted, yielded]; done))
  · intro w' hS
    obtain ⟨s0, s1⟩ := hS
    skip
    go_simp
    try rfl
  intro K hK
  go_simp
  refine hK _ ?_
  clear hK K
  apply wpT_takeK rfl _ (by first | rfl | (simp [Region.wanted, yielded]; done))
  · intro w' hS
    obtain ⟨s0, s1⟩ := hS
    skip
    go_simp
    try rfl
  intro K hK
  go_simp
  refine hK _ ?_
  clear hK K
  apply wpT_takeK rfl _ (by first | rfl | (simp [Region.wanted, yielded]; done))
  · intro w' hS
    obtain ⟨s0, s1⟩ := hS
    skip
    go_simp
    try rfl
  intro K hK
  go_simp
  refine hK _ ?_
  clear hK K
  apply wpT_takeK rfl _ (by first | rfl | (simp [Region.wanted, yielded]; done))
  · intro w' hS
    obtain ⟨s0, s1⟩ := hS
    skip
    go_simp
    try rfl
  intro K hK
  go_simp
  refine hK _ ?_
  clear hK K
  apply wpT_takeK rfl _ (by first | rfl | (simp [Region.wanted, yielded]; done))
  · intro w' hS
    obtain ⟨s0, s1⟩ := hS
    skip
    go_simp
    try rfl
  intro K hK
  go_simp
  refine hK _ ?_
  clear hK K
  apply wpT_takeK rfl _ (by first | rfl | (simp [Region.wanted, yielded]; done))
  · intro w' hS
    obtain ⟨s0, s1⟩ := hS
    skip
    go_simp
    try rfl
  intro K hK
  go_simp
  refine hK _ ?_
  clear hK K
  apply wpT_takeK rfl _ (by first | rfl | (simp [Region.wanted, yielded]; done))
  · intro w' hS
    obtain ⟨s0, s1⟩ := hS
    skip
    go_simp
    try rfl
  intro K hK
  go_simp
  refine hK _ ?_
  clear hK K
  apply wpT_takeK rfl _ (by first | rfl | (simp [Region.wanted, yielded]; done))
  · intro w' hS
    obtain ⟨s0, s1⟩ := hS
    skip
    go_simp
    try rfl
  intro K hK
  go_simp
  refine hK _ ?_
  clear hK K
  refine wpT_fork rfl rfl ?_ ?_
  go_wp2
  refine QS_abs (fun wn hwn => ?_)
  (have hA := row_none hB.size 79; rw [← hwn] at hA; (try (have hI := row_alloc hI (.cells #[] 79); rw [← hwn] at hI)); have hB := hB.alloc hB.size (.cells #[] 79); rw [← hwn] at hB; clear hwn)
  refine And.intro ⟨by first | exact (hB.cell (p := ⟨R.rq, 0, none⟩) hlt).trans c0 | exact (hB.cell (p := ⟨R.rq, 1, none⟩) hlt).trans c1, by first | exact (hB.cell (p := ⟨R.rq, 0, none⟩) hlt).trans c0 | exact (hB.cell (p := ⟨R.rq, 1, none⟩) hlt).trans c1⟩ ?_
  refine wpT_fork rfl rfl ?_ ?_
  (refine wpList_append_row rfl _ _ 73 rfl 79 _ 32 Try.underlying73 info79 rfl (by omega) w.heap.size _ 0 [] rfl hA _ r.l.length _ rfl (row_below hrowl hB (fun k hk => (row_lt hrowl hk).2)) (one_cellsI _) (by omega) hB.size ?_; intro vn wx hrow hg; (try (have hx := row_apart79 hA hI; have hI := row_grown hI hg hx)); have hB := hB.trans (Below.grown_at hg (fun k hk => (row_lt hA hk).1) hB.size); have hA := hrow; clear hrow hg; go_wp2)
  refine QS_abs (fun wn hwn => ?_)
  (subst hwn)
  refine And.intro ⟨by first | exact (hB.cell (p := ⟨R.rq, 0, none⟩) hlt).trans c0 | exact (hB.cell (p := ⟨R.rq, 1, none⟩) hlt).trans c1, by first | exact (hB.cell (p := ⟨R.rq, 0, none⟩) hlt).trans c0 | exact (hB.cell (p := ⟨R.rq, 1, none⟩) hlt).trans c1⟩ ?_
  refine wpT_alone rfl ?_
  go_wp2
  refine QS_abs (fun wn hwn => ?_)
  (have hI := row_none hB.size 81; rw [← hwn] at hI; (try (have hA := row_alloc hA (.cells #[] 81); rw [← hwn] at hA)); have hB := hB.alloc hB.size (.cells #[] 81); rw [← hwn] at hB; clear hwn)
  refine And.intro ⟨by first | exact (hB.cell (p := ⟨R.rq, 0, none⟩) hlt).trans c0 | exact (hB.cell (p := ⟨R.rq, 1, none⟩) hlt).trans c1, by first | exact (hB.cell (p := ⟨R.rq, 0, none⟩) hlt).trans c0 | exact (hB.cell (p := ⟨R.rq, 1, none⟩) hlt).trans c1⟩ ?_
  refine wpT_alone rfl ?_
  (refine wpList_append_row rfl _ _ 74 rfl 81 _ 32 Try.underlying74 info81 rfl (by omega) w.heap.size _ 0 [] rfl hI _ r.fs.length _ rfl (row_below hrowf hB (fun k hk => (row_lt hrowf hk).2)) (one_cellsF _) (by omega) hB.size ?_; intro vz wx hrow hg; have hx := row_apart79' hA hI; have hA := row_grown hA hg hx; have hB := hB.trans (Below.grown_at hg (fun k hk => (row_lt hI hk).1) hB.size); have hI := hrow; clear hrow hg hx; obtain ⟨ao2, cap2, hv2, _⟩ := row_open (row_base hA); subst hv2; obtain ⟨ao3, cap3, hv3, _⟩ := row_open (row_base hI); subst hv3; go_wp2)
  refine QS_abs (fun wn hwn => ?_)
  (subst hwn)
  refine And.intro ⟨by first | exact (hB.cell (p := ⟨R.rq, 0, none⟩) hlt).trans c0 | exact (hB.cell (p := ⟨R.rq, 1, none⟩) hlt).trans c1, by first | exact (hB.cell (p := ⟨R.rq, 0, none⟩) hlt).trans c0 | exact (hB.cell (p := ⟨R.rq, 1, none⟩) hlt).trans c1⟩ ?_
  apply wpT_takeK rfl _ (by first | rfl | (simp [Region.wanted, yielded]; done))
  · intro w' hS
    obtain ⟨s0, s1⟩ := hS
    skip
    go_simp
    try rfl
  intro K hK
  go_simp
  refine hK _ ?_
  clear hK K
  refine wpT_alone rfl ?_
  go_wp2
  refine QS_abs (fun wn hwn => ?_)
  (simp only [Nat.zero_add, List.nil_append] at hA hI; have hD3 := alloc_at hB.size (Obj.cells #[.slice ao2 r.l.length cap2, .slice ao3 r.fs.length cap3] 76); have hle := hB.size; have hB := hB.alloc hB.size (Obj.cells #[.slice ao2 r.l.length cap2, .slice ao3 r.fs.length cap3] 76); have hA3 := row_alloc hA (Obj.cells #[.slice ao2 r.l.length cap2, .slice ao3 r.fs.length cap3] 76); have hI3 := row_alloc hI (Obj.cells #[.slice ao2 r.l.length cap2, .slice ao3 r.fs.length cap3] 76); rw [← hwn] at hD3 hB hA3 hI3; clear hwn)
  refine And.intro ⟨by first | exact (hB.cell (p := ⟨R.rq, 0, none⟩) hlt).trans c0 | exact (hB.cell (p := ⟨R.rq, 1, none⟩) hlt).trans c1, by first | exact (hB.cell (p := ⟨R.rq, 0, none⟩) hlt).trans c0 | exact (hB.cell (p := ⟨R.rq, 1, none⟩) hlt).trans c1⟩ ?_
  apply wpT_takeK rfl _ (by first | rfl | (simp [Region.wanted, yielded]; done))
  · intro w' hS
    obtain ⟨s0, s1⟩ := hS
    skip
    go_simp
    try rfl
  intro K hK
  go_simp
  refine hK _ ?_
  clear hK K
  refine wpT_end ?_
  rotate_left
  go_wp2
  refine QS_abs (fun wn hwn => ?_)
  (have hI := row_none hB.size 81; rw [← hwn] at hI; (try (have hA := row_alloc hA (.cells #[] 81); rw [← hwn] at hA)); have hB := hB.alloc hB.size (.cells #[] 81); rw [← hwn] at hB; clear hwn)
  refine And.intro ⟨by first | exact (hB.cell (p := ⟨R.rq, 0, none⟩) hlt).trans c0 | exact (hB.cell (p := ⟨R.rq, 1, none⟩) hlt).trans c1, by first | exact (hB.cell (p := ⟨R.rq, 0, none⟩) hlt).trans c0 | exact (hB.cell (p := ⟨R.rq, 1, none⟩) hlt).trans c1⟩ ?_
  refine wpT_alone rfl ?_
  (refine wpList_append_row rfl _ _ 73 rfl 79 _ 32 Try.underlying73 info79 rfl (by omega) w.heap.size _ 0 [] rfl hA _ r.l.length _ rfl (row_below hrowl hB (fun k hk => (row_lt hrowl hk).2)) (one_cellsI _) (by omega) hB.size ?_; intro vn wx hrow hg; (try (have hx := row_apart79 hA hI; have hI := row_grown hI hg hx)); have hB := hB.trans (Below.grown_at hg (fun k hk => (row_lt hA hk).1) hB.size); have hA := hrow; clear hrow hg; go_wp2)
  refine QS_abs (fun wn hwn => ?_)
  (subst hwn)
  refine And.intro ⟨by first | exact (hB.cell (p := ⟨R.rq, 0, none⟩) hlt).trans c0 | exact (hB.cell (p := ⟨R.rq, 1, none⟩) hlt).trans c1, by first | exact (hB.cell (p := ⟨R.rq, 0, none⟩) hlt).trans c0 | exact (hB.cell (p := ⟨R.rq, 1, none⟩) hlt).trans c1⟩ ?_
  refine wpT_alone rfl ?_
  (refine wpList_append_row rfl _ _ 74 rfl 81 _ 32 Try.underlying74 info81 rfl (by omega) w.heap.size _ 0 [] rfl hI _ r.fs.length _ rfl (row_below hrowf hB (fun k hk => (row_lt hrowf hk).2)) (one_cellsF _) (by omega) hB.size ?_; intro vz wx hrow hg; have hx := row_apart79' hA hI; have hA := row_grown hA hg hx; have hB := hB.trans (Below.grown_at hg (fun k hk => (row_lt hI hk).1) hB.size); have hI := hrow; clear hrow hg hx; obtain ⟨ao2, cap2, hv2, _⟩ := row_open (row_base hA); subst hv2; obtain ⟨ao3, cap3, hv3, _⟩ := row_open (row_base hI); subst hv3; go_wp2)
  refine QS_abs (fun wn hwn => ?_)
  (subst hwn)
  refine And.intro ⟨by first | exact (hB.cell (p := ⟨R.rq, 0, none⟩) hlt).trans c0 | exact (hB.cell (p := ⟨R.rq, 1, none⟩) hlt).trans c1, by first | exact (hB.cell (p := ⟨R.rq, 0, none⟩) hlt).trans c0 | exact (hB.cell (p := ⟨R.rq, 1, none⟩) hlt).trans c1⟩ ?_
  apply wpT_takeK rfl _ (by first | rfl | (simp [Region.wanted, yielded]; done))
  · intro w' hS
    obtain ⟨s0, s1⟩ := hS
    skip
    go_simp
    try rfl
  intro K hK
  go_simp
  refine hK _ ?_
  clear hK K
  refine wpT_alone rfl ?_
  go_wp2
  refine QS_abs (fun wn hwn => ?_)
  (simp only [Nat.zero_add, List.nil_append] at hA hI; have hD3 := alloc_at hB.size (Obj.cells #[.slice ao2 r.l.length cap2, .slice ao3 r.fs.length cap3] 76); have hle := hB.size; have hB := hB.alloc hB.size (Obj.cells #[.slice ao2 r.l.length cap2, .slice ao3 r.fs.length cap3] 76); have hA3 := row_alloc hA (Obj.cells #[.slice ao2 r.l.length cap2, .slice ao3 r.fs.length cap3] 76); have hI3 := row_alloc hI (Obj.cells #[.slice ao2 r.l.length cap2, .slice ao3 r.fs.length cap3] 76); rw [← hwn] at hD3 hB hA3 hI3; clear hwn)
  refine And.intro ⟨by first | exact (hB.cell (p := ⟨R.rq, 0, none⟩) hlt).trans c0 | exact (hB.cell (p := ⟨R.rq, 1, none⟩) hlt).trans c1, by first | exact (hB.cell (p := ⟨R.rq, 0, none⟩) hlt).trans c0 | exact (hB.cell (p := ⟨R.rq, 1, none⟩) hlt).trans c1⟩ ?_
  apply wpT_takeK rfl _ (by first | rfl | (simp [Region.wanted, yielded]; done))
  · intro w' hS
    obtain ⟨s0, s1⟩ := hS
    skip
    go_simp
    try rfl
  intro K hK
  go_simp
  refine hK _ ?_
  clear hK K
  refine wpT_end ?_
  rotate_left
  go_wp2
  refine QS_abs (fun wn hwn => ?_)
  (have hI := row_none hB.size 81; rw [← hwn] at hI; (try (have hA := row_alloc hA (.cells #[] 81); rw [← hwn] at hA)); have hB := hB.alloc hB.size (.cells #[] 81); rw [← hwn] at hB; clear hwn)
  refine And.intro ⟨by first | exact (hB.cell (p := ⟨R.rq, 0, none⟩) hlt).trans c0 | exact (hB.cell (p := ⟨R.rq, 1, none⟩) hlt).trans c1, by first | exact (hB.cell (p := ⟨R.rq, 0, none⟩) hlt).trans c0 | exact (hB.cell (p := ⟨R.rq, 1, none⟩) hlt).trans c1⟩ ?_
  refine wpT_alone rfl ?_
  go_wp2
  refine QS_abs (fun wn hwn => ?_)
  (have hA := row_none hB.size 79; rw [← hwn] at hA; (try (have hI := row_alloc hI (.cells #[] 79); rw [← hwn] at hI)); have hB := hB.alloc hB.size (.cells #[] 79); rw [← hwn] at hB; clear hwn)
  refine And.intro ⟨by first | exact (hB.cell (p := ⟨R.rq, 0, none⟩) hlt).trans c0 | exact (hB.cell (p := ⟨R.rq, 1, none⟩) hlt).trans c1, by first | exact (hB.cell (p := ⟨R.rq, 0, none⟩) hlt).trans c0 | exact (hB.cell (p := ⟨R.rq, 1, none⟩) hlt).trans c1⟩ ?_
  refine wpT_alone rfl ?_
  (refine wpList_append_row rfl _ _ 73 rfl 79 _ 32 Try.underlying73 info79 rfl (by omega) w.heap.size _ 0 [] rfl hA _ r.l.length _ rfl (row_below hrowl hB (fun k hk => (row_lt hrowl hk).2)) (one_cellsI _) (by omega) hB.size ?_; intro vn wx hrow hg; (try (have hx := row_apart79 hA hI; have hI := row_grown hI hg hx)); have hB := hB.trans (Below.grown_at hg (fun k hk => (row_lt hA hk).1) hB.size); have hA := hrow; clear hrow hg; go_wp2)
  refine QS_abs (fun wn hwn => ?_)
  (subst hwn)
  refine And.intro ⟨by first | exact (hB.cell (p := ⟨R.rq, 0, none⟩) hlt).trans c0 | exact (hB.cell (p := ⟨R.rq, 1, none⟩) hlt).trans c1, by first | exact (hB.cell (p := ⟨R.rq, 0, none⟩) hlt).trans c0 | exact (hB.cell (p := ⟨R.rq, 1, none⟩) hlt).trans c1⟩ ?_
  refine wpT_alone rfl ?_
  (refine wpList_append_row rfl _ _ 74 rfl 81 _ 32 Try.underlying74 info81 rfl (by omega) w.heap.size _ 0 [] rfl hI _ r.fs.length _ rfl (row_below hrowf hB (fun k hk => (row_lt hrowf hk).2)) (one_cellsF _) (by omega) hB.size ?_; intro vz wx hrow hg; have hx := row_apart79' hA hI; have hA := row_grown hA hg hx; have hB := hB.trans (Below.grown_at hg (fun k hk => (row_lt hI hk).1) hB.size); have hI := hrow; clear hrow hg hx; obtain ⟨ao2, cap2, hv2, _⟩ := row_open (row_base hA); subst hv2; obtain ⟨ao3, cap3, hv3, _⟩ := row_open (row_base hI); subst hv3; go_wp2)
  refine QS_abs (fun wn hwn => ?_)
  (subst hwn)
  refine And.intro ⟨by first | exact (hB.cell (p := ⟨R.rq, 0, none⟩) hlt).trans c0 | exact (hB.cell (p := ⟨R.rq, 1, none⟩) hlt).trans c1, by first | exact (hB.cell (p := ⟨R.rq, 0, none⟩) hlt).trans c0 | exact (hB.cell (p := ⟨R.rq, 1, none⟩) hlt).trans c1⟩ ?_
  apply wpT_takeK rfl _ (by first | rfl | (simp [Region.wanted, yielded]; done))
  · intro w' hS
    obtain ⟨s0, s1⟩ := hS
    skip
    go_simp
    try rfl
  intro K hK
  go_simp
  refine hK _ ?_
  clear hK K
  refine wpT_alone rfl ?_
  go_wp2
  refine QS_abs (fun wn hwn => ?_)
  (simp only [Nat.zero_add, List.nil_append] at hA hI; have hD3 := alloc_at hB.size (Obj.cells #[.slice ao2 r.l.length cap2, .slice ao3 r.fs.length cap3] 76); have hle := hB.size; have hB := hB.alloc hB.size (Obj.cells #[.slice ao2 r.l.length cap2, .slice ao3 r.fs.length cap3] 76); have hA3 := row_alloc hA (Obj.cells #[.slice ao2 r.l.length cap2, .slice ao3 r.fs.length cap3] 76); have hI3 := row_alloc hI (Obj.cells #[.slice ao2 r.l.length cap2, .slice ao3 r.fs.length cap3] 76); rw [← hwn] at hD3 hB hA3 hI3; clear hwn)
  refine And.intro ⟨by first | exact (hB.cell (p := ⟨R.rq, 0, none⟩) hlt).trans c0 | exact (hB.cell (p := ⟨R.rq, 1, none⟩) hlt).trans c1, by first | exact (hB.cell (p := ⟨R.rq, 0, none⟩) hlt).trans c0 | exact (hB.cell (p := ⟨R.rq, 1, none⟩) hlt).trans c1⟩ ?_
  apply wpT_takeK rfl _ (by first | rfl | (simp [Region.wanted, yielded]; done))
  · intro w' hS
    obtain ⟨s0, s1⟩ := hS
    skip
    go_simp
    try rfl
  intro K hK
  go_simp
  refine hK _ ?_
  clear hK K
  refine wpT_end ?_
  rotate_left
  all_goals go_wp2
  all_goals go_ret
  all_goals refine ⟨⟨_, _, _⟩, rfl, ⟨hD3, row_base hA3, row_base hI3⟩, hB, ?_⟩
  all_goals rintro k' (h | h | h)
  all_goals first | exact (row_lt hA h).1 | exact (row_lt hI h).1 | (rw [h]; exact hle)
end Go.Proofs.Ytemeedfldapcjaa
