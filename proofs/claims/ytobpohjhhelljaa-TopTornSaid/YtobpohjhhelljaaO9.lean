/- Layer 3 (object): which objects are right: what the kinds ask. -/
import Derived.Test.YtobpohjhhelljaaO5
namespace Go.Proofs.Ytobpohjhhelljaa
open Go.RowKit
set_option linter.unusedVariables false
set_option linter.unusedSimpArgs false


set_option maxRecDepth 100000 in
set_option maxHeartbeats 4000000 in
theorem right_kind511 (o : Obj) (w : World) (hf : o.Fits) (h1 : nameB o.name = true) (h2 : decide (restO o = bareO o.kind) = true) (h3 : namesB (textsO o) = true) (h4 : sizeB o.size = true) (h5 : sizeB o.got = true) (hk : o.kind = 5) (hmo : (o.mode == 1) = true) (hm : o.volume.toList = []) :
    Calls Try.prog 56 #[.agg (cellsO o)] w fun e w' => e = .returned (.bool (kindB o)) ∧ Below w.heap.size w w' := by
  have HK := Lib.hid hk
  have HM := Lib.hid hm
  clear hk hm
  have HN := Lib.hid hf.name
  have HT := Lib.hid hf.texts
  have H1 := Lib.hid h1
  have H3 := Lib.hid h3
  have H4 := Lib.hid h4
  have H5 := Lib.hid h5
  clear hf h1 h3 h4 h5
  have HB0 := Lib.hid ((Below.refl w.heap.size w).alloc (Nat.le_refl _) (.cells (cellsO o) 31)).drew
  go_enter Try.func56, Try.ntmps56
  go_wp2
  have hS0 : ∀ k, (w.alloc (.cells (cellsO o) 31)).drew.cell? ⟨w.heap.size, k, none⟩ = (cellsO o)[k]? := cells_all heap_alloc_eq
  refine wp_region_N (fun w' => (∀ k, w'.cell? ⟨w.heap.size, k, none⟩ = (cellsO o)[k]?))
    [(true, 0), (true, 1), (false, 2), (true, 3), (true, 4), (true, 5), (true, 7), (true, 8), (true, 9), (false, 6), (true, 10), (true, 11), (true, 12), (true, 13), (true, 14), (true, 15), (true, 16), (true, 17), (true, 18), (true, 19), (true, 20), (true, 21), (true, 22), (true, 23), (true, 24), (false, 25), (false, 26), (true, 27), (true, 28), (true, 29), (true, 30), (true, 31), (true, 32), (false, 33), (true, 34), (true, 35), (true, 36), (true, 37), (true, 38), (true, 39), (false, 40), (true, 41), (true, 42)] (by kernel_rfl) (by kernel_rfl) rfl (by kernel_rfl) ?_ ?_
  · exact (by assumption)
  simp only [List.filterMap_cons, List.filterMap_nil, List.getElem?_cons_succ, List.getElem?_cons_zero, Option.map_some]
  iterate 2
   apply wpSeq_takeK _ (by first | rfl | (simp [Region.wanted, yielded]; done))
   · intro w' hS
     have s0 := hS
     clear hS
     go_simp
     try rfl
   intro K hK
   go_simp
   refine hK _ ?_
   clear hK K
  refine wpSeq_alone ?_
  (go_wp2_with fail; refine (name_any o.name _ HN.out).mono ?_; rintro e w1 ⟨rfl, rfl⟩; rw [H1.out]; go_wp2)
  refine QS_normal (by assumption) (fun _ => ?_)
  iterate 2
   apply wpSeq_takeK _ (by first | rfl | (simp [Region.wanted, yielded]; done))
   · intro w' hS
     have s0 := hS
     clear hS
     go_simp
     try rfl
   intro K hK
   go_simp
   refine hK _ ?_
   clear hK K
  refine wpSeq_takeK (.agg (cellsO o)) (by first | rfl | (simp [Region.wanted, yielded]; done)) ?_ ?_
  · intro w' hS
    have s0 := hS
    exact exec_loadObj o rfl rfl s0
  iterate 2
   intro K hK
   go_simp
   refine hK _ ?_
   clear hK K
   apply wpSeq_takeK _ (by first | rfl | (simp [Region.wanted, yielded]; done))
   · intro w' hS
     have s0 := hS
     clear hS
     go_simp
     try rfl
  intro K hK
  go_simp
  refine hK _ ?_
  clear hK K
  refine wpSeq_takeK (.agg (cellsO (bareO o.kind))) (by first | rfl | (simp [Region.wanted, yielded]; done)) ?_ ?_
  · intro w' hS
    have s0 := hS
    (clear s0 hS; go_simp; rfl)
  intro K hK
  go_simp
  refine hK _ ?_
  clear hK K
  refine wpSeq_alone ?_
  (go_wp2_with fail; refine (rest_any o _).mono ?_; rintro e w1 ⟨rfl, hb1⟩; have hS1 : ∀ k, w1.cell? ⟨w.heap.size, k, none⟩ = (cellsO o)[k]? := fun k => (hb1.cell (p := ⟨w.heap.size, k, none⟩) (by simp)).trans (hS0 k); have HB1 := Lib.hid ((HB0.out).trans (hb1.mono (HB0.out).size)); have hlt1 := hb1.size; clear hb1; go_wp2)
  refine QS_normal (by assumption) (fun _ => ?_)
  refine wpSeq_takeK (.bool (!decide (restO o = bareO o.kind))) (by first | rfl | (simp [Region.wanted, yielded]; done)) ?_ ?_
  · intro w' hS
    have s0 := hS
    exact exec_neqObj (restO o) (bareO o.kind) rfl rfl rfl
  iterate 14
   intro K hK
   go_simp
   refine hK _ ?_
   clear hK K
   apply wpSeq_takeK _ (by first | rfl | (simp [Region.wanted, yielded]; done))
   · intro w' hS
     have s0 := hS
     clear hS
     go_simp
     try rfl
  intro K hK
  go_simp
  refine hK _ ?_
  clear hK K
  refine wpSeq_alone ?_
  (go_wp2; have hS2 : ∀ k, (w1.alloc (.cells #[.string o.cls, .string o.zone, .string o.node, .string o.claim, .string o.volume, .string o.source] 9)).cell? ⟨w.heap.size, k, none⟩ = (cellsO o)[k]? := fun k => (World.cell?_of_block (heap_alloc_lt (by simp at hlt1 ⊢; omega))).trans (hS1 k); have HB2 := Lib.hid ((HB1.out).alloc (HB1.out).size (.cells #[.string o.cls, .string o.zone, .string o.node, .string o.claim, .string o.volume, .string o.source] 9)))
  refine QS_normal (by assumption) (fun _ => ?_)
  refine wpSeq_alone ?_
  (go_wp2_with fail; refine (names_any (textsO o) w1.heap.size _ (by simp [textsO]) HT.out ?_).mono ?_; (intro j hj; rw [cells_all heap_alloc_eq]; match j, hj with | 0, _ => rfl | 1, _ => rfl | 2, _ => rfl | 3, _ => rfl | 4, _ => rfl | 5, _ => rfl); rintro e w2 ⟨rfl, rfl⟩; rw [H3.out]; go_wp2)
  refine QS_normal (by assumption) (fun _ => ?_)
  iterate 6
   apply wpSeq_takeK _ (by first | rfl | (simp [Region.wanted, yielded]; done))
   · intro w' hS
     have s0 := hS
     clear hS
     go_simp
     try rfl
   intro K hK
   go_simp
   refine hK _ ?_
   clear hK K
  refine wpSeq_alone ?_
  (go_wp2_with fail; refine (size_any o.size _).mono ?_; rintro e w3 ⟨rfl, rfl⟩; rw [H4.out]; go_wp2)
  refine QS_normal (by assumption) (fun _ => ?_)
  iterate 6
   apply wpSeq_takeK _ (by first | rfl | (simp [Region.wanted, yielded]; done))
   · intro w' hS
     have s0 := hS
     clear hS
     go_simp
     try rfl
   intro K hK
   go_simp
   refine hK _ ?_
   clear hK K
  refine wpSeq_alone ?_
  (go_wp2_with fail; refine (size_any o.got _).mono ?_; rintro e w4 ⟨rfl, rfl⟩; rw [H5.out]; go_wp2)
  refine QS_normal (by assumption) (fun _ => ?_)
  iterate 2
   apply wpSeq_takeK _ (by first | rfl | (simp [Region.wanted, yielded]; done))
   · intro w' hS
     have s0 := hS
     clear hS
     go_simp
     try rfl
   intro K hK
   go_simp
   refine hK _ ?_
   clear hK K
  refine wpSeq_end ?_
  clear hS0 hS1
  generalize (w1.alloc (.cells #[.string o.cls, .string o.zone, .string o.node, .string o.claim, .string o.volume, .string o.source] 9)) = W at *
  clear HB0 HB1 hlt1
  have hltW : w.heap.size < W.heap.size := World.block_lt_of_cell? W ⟨w.heap.size, 0, none⟩ ((hS2 0).trans (cellsO_get0 o))
  have hSA : ∀ (a : Go.Obj) k, (W.alloc a).cell? ⟨w.heap.size, k, none⟩ = (cellsO o)[k]? := fun a k => (World.cell?_of_block (w := W) (heap_alloc_lt hltW)).trans (hS2 k)
  have hSB : ∀ (a b : Go.Obj) k, ((W.alloc a).alloc b).cell? ⟨w.heap.size, k, none⟩ = (cellsO o)[k]? := fun a b k => (World.cell?_of_block (w := W.alloc a) (heap_alloc_lt (by simp; omega))).trans (hSA a k)
  have hk := HK.out
  have e1 : (o.kind == 1) = false := by simp [hk]
  have e2 : (o.kind == 2) = false := by simp [hk]
  have e3 : (o.kind == 3) = false := by simp [hk]
  have e4 : (o.kind == 4) = false := by simp [hk]
  have e5 : (o.kind == 5) = true := by simp [hk]
  clear hk
  have x1 := HM.out
  have c1t : (!o.volume.toList.isEmpty) = false := by simp [x1]
  clear x1
  go_wp2
  have hSd : ∀ k, W.drew.cell? ⟨w.heap.size, k, none⟩ = (cellsO o)[k]? := hS2
  have HBd := Lib.hid ((HB2.out).drew)
  refine wp_region_N (fun w' => (∀ k, w'.cell? ⟨w.heap.size, k, none⟩ = (cellsO o)[k]?))
    [(true, 0), (true, 1), (true, 2), (true, 3), (true, 4), (true, 5), (true, 6), (true, 7), (true, 8), (true, 9), (true, 10), (false, 11), (true, 12), (true, 13), (true, 14), (true, 15), (true, 16), (true, 17), (true, 18), (true, 19), (true, 20), (false, 21), (true, 22), (true, 23), (true, 24), (true, 25), (true, 26), (false, 27), (false, 28), (true, 29), (true, 30)] (by kernel_rfl) (by kernel_rfl) rfl (by kernel_rfl) ?_ ?_
  · exact (by assumption)
  simp only [List.filterMap_cons, List.filterMap_nil, List.getElem?_cons_succ, List.getElem?_cons_zero, Option.map_some]
  iterate 4
   apply wpSeq_takeK _ (by first | rfl | (simp [Region.wanted, yielded]; done))
   · intro w' hS
     have s0 := hS
     clear hS
     go_simp
     try rfl
   intro K hK
   go_simp
   refine hK _ ?_
   clear hK K
  iterate 3
   refine wpSeq_skipT (by first | rfl | (simp [Region.wanted, yielded]; done)) ?_
   intro K hK
   go_simp
   refine hK _ ?_
   clear hK K
  iterate 2
   apply wpSeq_takeK _ (by first | rfl | (simp [Region.wanted, yielded]; done))
   · intro w' hS
     have s0 := hS
     clear hS
     go_simp
     try rfl
   intro K hK
   go_simp
   refine hK _ ?_
   clear hK K
  iterate 2
   refine wpSeq_skipT (by first | rfl | (simp [Region.wanted, yielded]; done)) ?_
   intro K hK
   go_simp
   refine hK _ ?_
   clear hK K
  refine wpSeq_skipA (by first | rfl | (simp [Region.wanted, yielded]; done)) (by assumption) ?_
  intro K hK
  go_simp
  refine hK _ ?_
  clear hK K
  refine wpSeq_skipT (by first | rfl | (simp [Region.wanted, yielded]; done)) ?_
  iterate 2
   intro K hK
   go_simp
   refine hK _ ?_
   clear hK K
   apply wpSeq_takeK _ (by first | rfl | (simp [Region.wanted, yielded]; done))
   · intro w' hS
     have s0 := hS
     clear hS
     go_simp
     try rfl
  iterate 6
   intro K hK
   go_simp
   refine hK _ ?_
   clear hK K
   refine wpSeq_skipT (by first | rfl | (simp [Region.wanted, yielded]; done)) ?_
  intro K hK
  go_simp
  refine hK _ ?_
  clear hK K
  refine wpSeq_skipA (by first | rfl | (simp [Region.wanted, yielded]; done)) (by assumption) ?_
  intro K hK
  go_simp
  refine hK _ ?_
  clear hK K
  refine wpSeq_skipT (by first | rfl | (simp [Region.wanted, yielded]; done)) ?_
  iterate 2
   intro K hK
   go_simp
   refine hK _ ?_
   clear hK K
   apply wpSeq_takeK _ (by first | rfl | (simp [Region.wanted, yielded]; done))
   · intro w' hS
     have s0 := hS
     clear hS
     go_simp
     try rfl
  iterate 2
   intro K hK
   go_simp
   refine hK _ ?_
   clear hK K
   refine wpSeq_skipT (by first | rfl | (simp [Region.wanted, yielded]; done)) ?_
  iterate 2
   intro K hK
   go_simp
   refine hK _ ?_
   clear hK K
   refine wpSeq_skipA (by first | rfl | (simp [Region.wanted, yielded]; done)) (by assumption) ?_
  iterate 2
   intro K hK
   go_simp
   refine hK _ ?_
   clear hK K
   apply wpSeq_takeK _ (by first | rfl | (simp [Region.wanted, yielded]; done))
   · intro w' hS
     have s0 := hS
     clear hS
     go_simp
     try rfl
  intro K hK
  go_simp
  refine hK _ ?_
  clear hK K
  refine wpSeq_end ?_
  go_wp2
  go_ret
  have x1 := HM.out
  exact ⟨ret_bool (by simp [kindB, HK.out, nonE, x1]), HBd.out⟩

set_option maxRecDepth 100000 in
set_option maxHeartbeats 4000000 in
theorem right_kind521 (o : Obj) (w : World) (hf : o.Fits) (h1 : nameB o.name = true) (h2 : decide (restO o = bareO o.kind) = true) (h3 : namesB (textsO o) = true) (h4 : sizeB o.size = true) (h5 : sizeB o.got = true) (hk : o.kind = 5) (hmo : (o.mode == 1) = true) (hm : ¬ o.volume.toList = [] ∧ o.node.toList = []) :
    Calls Try.prog 56 #[.agg (cellsO o)] w fun e w' => e = .returned (.bool (kindB o)) ∧ Below w.heap.size w w' := by
  have HK := Lib.hid hk
  have HM := Lib.hid hm
  clear hk hm
  have HN := Lib.hid hf.name
  have HT := Lib.hid hf.texts
  have H1 := Lib.hid h1
  have H3 := Lib.hid h3
  have H4 := Lib.hid h4
  have H5 := Lib.hid h5
  clear hf h1 h3 h4 h5
  have HB0 := Lib.hid ((Below.refl w.heap.size w).alloc (Nat.le_refl _) (.cells (cellsO o) 31)).drew
  go_enter Try.func56, Try.ntmps56
  go_wp2
  have hS0 : ∀ k, (w.alloc (.cells (cellsO o) 31)).drew.cell? ⟨w.heap.size, k, none⟩ = (cellsO o)[k]? := cells_all heap_alloc_eq
  refine wp_region_N (fun w' => (∀ k, w'.cell? ⟨w.heap.size, k, none⟩ = (cellsO o)[k]?))
    [(true, 0), (true, 1), (false, 2), (true, 3), (true, 4), (true, 5), (true, 7), (true, 8), (true, 9), (false, 6), (true, 10), (true, 11), (true, 12), (true, 13), (true, 14), (true, 15), (true, 16), (true, 17), (true, 18), (true, 19), (true, 20), (true, 21), (true, 22), (true, 23), (true, 24), (false, 25), (false, 26), (true, 27), (true, 28), (true, 29), (true, 30), (true, 31), (true, 32), (false, 33), (true, 34), (true, 35), (true, 36), (true, 37), (true, 38), (true, 39), (false, 40), (true, 41), (true, 42)] (by kernel_rfl) (by kernel_rfl) rfl (by kernel_rfl) ?_ ?_
  · exact (by assumption)
  simp only [List.filterMap_cons, List.filterMap_nil, List.getElem?_cons_succ, List.getElem?_cons_zero, Option.map_some]
  iterate 2
   apply wpSeq_takeK _ (by first | rfl | (simp [Region.wanted, yielded]; done))
   · intro w' hS
     have s0 := hS
     clear hS
     go_simp
     try rfl
   intro K hK
   go_simp
   refine hK _ ?_
   clear hK K
  refine wpSeq_alone ?_
  (go_wp2_with fail; refine (name_any o.name _ HN.out).mono ?_; rintro e w1 ⟨rfl, rfl⟩; rw [H1.out]; go_wp2)
  refine QS_normal (by assumption) (fun _ => ?_)
  iterate 2
   apply wpSeq_takeK _ (by first | rfl | (simp [Region.wanted, yielded]; done))
   · intro w' hS
     have s0 := hS
     clear hS
     go_simp
     try rfl
   intro K hK
   go_simp
   refine hK _ ?_
   clear hK K
  refine wpSeq_takeK (.agg (cellsO o)) (by first | rfl | (simp [Region.wanted, yielded]; done)) ?_ ?_
  · intro w' hS
    have s0 := hS
    exact exec_loadObj o rfl rfl s0
  iterate 2
   intro K hK
   go_simp
   refine hK _ ?_
   clear hK K
   apply wpSeq_takeK _ (by first | rfl | (simp [Region.wanted, yielded]; done))
   · intro w' hS
     have s0 := hS
     clear hS
     go_simp
     try rfl
  intro K hK
  go_simp
  refine hK _ ?_
  clear hK K
  refine wpSeq_takeK (.agg (cellsO (bareO o.kind))) (by first | rfl | (simp [Region.wanted, yielded]; done)) ?_ ?_
  · intro w' hS
    have s0 := hS
    (clear s0 hS; go_simp; rfl)
  intro K hK
  go_simp
  refine hK _ ?_
  clear hK K
  refine wpSeq_alone ?_
  (go_wp2_with fail; refine (rest_any o _).mono ?_; rintro e w1 ⟨rfl, hb1⟩; have hS1 : ∀ k, w1.cell? ⟨w.heap.size, k, none⟩ = (cellsO o)[k]? := fun k => (hb1.cell (p := ⟨w.heap.size, k, none⟩) (by simp)).trans (hS0 k); have HB1 := Lib.hid ((HB0.out).trans (hb1.mono (HB0.out).size)); have hlt1 := hb1.size; clear hb1; go_wp2)
  refine QS_normal (by assumption) (fun _ => ?_)
  refine wpSeq_takeK (.bool (!decide (restO o = bareO o.kind))) (by first | rfl | (simp [Region.wanted, yielded]; done)) ?_ ?_
  · intro w' hS
    have s0 := hS
    exact exec_neqObj (restO o) (bareO o.kind) rfl rfl rfl
  iterate 14
   intro K hK
   go_simp
   refine hK _ ?_
   clear hK K
   apply wpSeq_takeK _ (by first | rfl | (simp [Region.wanted, yielded]; done))
   · intro w' hS
     have s0 := hS
     clear hS
     go_simp
     try rfl
  intro K hK
  go_simp
  refine hK _ ?_
  clear hK K
  refine wpSeq_alone ?_
  (go_wp2; have hS2 : ∀ k, (w1.alloc (.cells #[.string o.cls, .string o.zone, .string o.node, .string o.claim, .string o.volume, .string o.source] 9)).cell? ⟨w.heap.size, k, none⟩ = (cellsO o)[k]? := fun k => (World.cell?_of_block (heap_alloc_lt (by simp at hlt1 ⊢; omega))).trans (hS1 k); have HB2 := Lib.hid ((HB1.out).alloc (HB1.out).size (.cells #[.string o.cls, .string o.zone, .string o.node, .string o.claim, .string o.volume, .string o.source] 9)))
  refine QS_normal (by assumption) (fun _ => ?_)
  refine wpSeq_alone ?_
  (go_wp2_with fail; refine (names_any (textsO o) w1.heap.size _ (by simp [textsO]) HT.out ?_).mono ?_; (intro j hj; rw [cells_all heap_alloc_eq]; match j, hj with | 0, _ => rfl | 1, _ => rfl | 2, _ => rfl | 3, _ => rfl | 4, _ => rfl | 5, _ => rfl); rintro e w2 ⟨rfl, rfl⟩; rw [H3.out]; go_wp2)
  refine QS_normal (by assumption) (fun _ => ?_)
  iterate 6
   apply wpSeq_takeK _ (by first | rfl | (simp [Region.wanted, yielded]; done))
   · intro w' hS
     have s0 := hS
     clear hS
     go_simp
     try rfl
   intro K hK
   go_simp
   refine hK _ ?_
   clear hK K
  refine wpSeq_alone ?_
  (go_wp2_with fail; refine (size_any o.size _).mono ?_; rintro e w3 ⟨rfl, rfl⟩; rw [H4.out]; go_wp2)
  refine QS_normal (by assumption) (fun _ => ?_)
  iterate 6
   apply wpSeq_takeK _ (by first | rfl | (simp [Region.wanted, yielded]; done))
   · intro w' hS
     have s0 := hS
     clear hS
     go_simp
     try rfl
   intro K hK
   go_simp
   refine hK _ ?_
   clear hK K
  refine wpSeq_alone ?_
  (go_wp2_with fail; refine (size_any o.got _).mono ?_; rintro e w4 ⟨rfl, rfl⟩; rw [H5.out]; go_wp2)
  refine QS_normal (by assumption) (fun _ => ?_)
  iterate 2
   apply wpSeq_takeK _ (by first | rfl | (simp [Region.wanted, yielded]; done))
   · intro w' hS
     have s0 := hS
     clear hS
     go_simp
     try rfl
   intro K hK
   go_simp
   refine hK _ ?_
   clear hK K
  refine wpSeq_end ?_
  clear hS0 hS1
  generalize (w1.alloc (.cells #[.string o.cls, .string o.zone, .string o.node, .string o.claim, .string o.volume, .string o.source] 9)) = W at *
  clear HB0 HB1 hlt1
  have hltW : w.heap.size < W.heap.size := World.block_lt_of_cell? W ⟨w.heap.size, 0, none⟩ ((hS2 0).trans (cellsO_get0 o))
  have hSA : ∀ (a : Go.Obj) k, (W.alloc a).cell? ⟨w.heap.size, k, none⟩ = (cellsO o)[k]? := fun a k => (World.cell?_of_block (w := W) (heap_alloc_lt hltW)).trans (hS2 k)
  have hSB : ∀ (a b : Go.Obj) k, ((W.alloc a).alloc b).cell? ⟨w.heap.size, k, none⟩ = (cellsO o)[k]? := fun a b k => (World.cell?_of_block (w := W.alloc a) (heap_alloc_lt (by simp; omega))).trans (hSA a k)
  have hk := HK.out
  have e1 : (o.kind == 1) = false := by simp [hk]
  have e2 : (o.kind == 2) = false := by simp [hk]
  have e3 : (o.kind == 3) = false := by simp [hk]
  have e4 : (o.kind == 4) = false := by simp [hk]
  have e5 : (o.kind == 5) = true := by simp [hk]
  clear hk
  obtain ⟨x1, x2⟩ := HM.out
  have c1t : (!o.volume.toList.isEmpty) = true := by simpa using x1
  have c2t : (!o.node.toList.isEmpty) = false := by simp [x2]
  clear x1 x2
  go_wp2
  have hSd : ∀ k, W.drew.cell? ⟨w.heap.size, k, none⟩ = (cellsO o)[k]? := hS2
  have HBd := Lib.hid ((HB2.out).drew)
  refine wp_region_N (fun w' => (∀ k, w'.cell? ⟨w.heap.size, k, none⟩ = (cellsO o)[k]?))
    [(true, 0), (true, 1), (true, 2), (true, 3), (true, 4), (true, 5), (true, 6), (true, 7), (true, 8), (true, 9), (true, 10), (false, 11), (true, 12), (true, 13), (true, 14), (true, 15), (true, 16), (true, 17), (true, 18), (true, 19), (true, 20), (false, 21), (true, 22), (true, 23), (true, 24), (true, 25), (true, 26), (false, 27), (false, 28), (true, 29), (true, 30)] (by kernel_rfl) (by kernel_rfl) rfl (by kernel_rfl) ?_ ?_
  · exact (by assumption)
  simp only [List.filterMap_cons, List.filterMap_nil, List.getElem?_cons_succ, List.getElem?_cons_zero, Option.map_some]
  iterate 9
   apply wpSeq_takeK _ (by first | rfl | (simp [Region.wanted, yielded]; done))
   · intro w' hS
     have s0 := hS
     clear hS
     go_simp
     try rfl
   intro K hK
   go_simp
   refine hK _ ?_
   clear hK K
  iterate 2
   refine wpSeq_skipT (by first | rfl | (simp [Region.wanted, yielded]; done)) ?_
   intro K hK
   go_simp
   refine hK _ ?_
   clear hK K
  refine wpSeq_skipA (by first | rfl | (simp [Region.wanted, yielded]; done)) (by assumption) ?_
  intro K hK
  go_simp
  refine hK _ ?_
  clear hK K
  refine wpSeq_skipT (by first | rfl | (simp [Region.wanted, yielded]; done)) ?_
  iterate 2
   intro K hK
   go_simp
   refine hK _ ?_
   clear hK K
   apply wpSeq_takeK _ (by first | rfl | (simp [Region.wanted, yielded]; done))
   · intro w' hS
     have s0 := hS
     clear hS
     go_simp
     try rfl
  iterate 6
   intro K hK
   go_simp
   refine hK _ ?_
   clear hK K
   refine wpSeq_skipT (by first | rfl | (simp [Region.wanted, yielded]; done)) ?_
  intro K hK
  go_simp
  refine hK _ ?_
  clear hK K
  refine wpSeq_skipA (by first | rfl | (simp [Region.wanted, yielded]; done)) (by assumption) ?_
  intro K hK
  go_simp
  refine hK _ ?_
  clear hK K
  refine wpSeq_skipT (by first | rfl | (simp [Region.wanted, yielded]; done)) ?_
  iterate 2
   intro K hK
   go_simp
   refine hK _ ?_
   clear hK K
   apply wpSeq_takeK _ (by first | rfl | (simp [Region.wanted, yielded]; done))
   · intro w' hS
     have s0 := hS
     clear hS
     go_simp
     try rfl
  iterate 2
   intro K hK
   go_simp
   refine hK _ ?_
   clear hK K
   refine wpSeq_skipT (by first | rfl | (simp [Region.wanted, yielded]; done)) ?_
  iterate 2
   intro K hK
   go_simp
   refine hK _ ?_
   clear hK K
   refine wpSeq_skipA (by first | rfl | (simp [Region.wanted, yielded]; done)) (by assumption) ?_
  iterate 2
   intro K hK
   go_simp
   refine hK _ ?_
   clear hK K
   apply wpSeq_takeK _ (by first | rfl | (simp [Region.wanted, yielded]; done))
   · intro w' hS
     have s0 := hS
     clear hS
     go_simp
     try rfl
  intro K hK
  go_simp
  refine hK _ ?_
  clear hK K
  refine wpSeq_end ?_
  go_wp2
  go_ret
  obtain ⟨x1, x2⟩ := HM.out
  exact ⟨ret_bool (by simp [kindB, HK.out, nonE, x1, x2]), HBd.out⟩

set_option maxRecDepth 100000 in
set_option maxHeartbeats 4000000 in
theorem right_kind531 (o : Obj) (w : World) (hf : o.Fits) (h1 : nameB o.name = true) (h2 : decide (restO o = bareO o.kind) = true) (h3 : namesB (textsO o) = true) (h4 : sizeB o.size = true) (h5 : sizeB o.got = true) (hk : o.kind = 5) (hmo : (o.mode == 1) = true) (hm : ¬ o.volume.toList = [] ∧ ¬ o.node.toList = [] ∧ decide (0 ≤ Lib.indexByte o.node.data.toList 47) = true) :
    Calls Try.prog 56 #[.agg (cellsO o)] w fun e w' => e = .returned (.bool (kindB o)) ∧ Below w.heap.size w w' := by
  have HK := Lib.hid hk
  have HM := Lib.hid hm
  clear hk hm
  have HN := Lib.hid hf.name
  have HT := Lib.hid hf.texts
  have H1 := Lib.hid h1
  have H3 := Lib.hid h3
  have H4 := Lib.hid h4
  have H5 := Lib.hid h5
  clear hf h1 h3 h4 h5
  have HB0 := Lib.hid ((Below.refl w.heap.size w).alloc (Nat.le_refl _) (.cells (cellsO o) 31)).drew
  go_enter Try.func56, Try.ntmps56
  go_wp2
  have hS0 : ∀ k, (w.alloc (.cells (cellsO o) 31)).drew.cell? ⟨w.heap.size, k, none⟩ = (cellsO o)[k]? := cells_all heap_alloc_eq
  refine wp_region_N (fun w' => (∀ k, w'.cell? ⟨w.heap.size, k, none⟩ = (cellsO o)[k]?))
    [(true, 0), (true, 1), (false, 2), (true, 3), (true, 4), (true, 5), (true, 7), (true, 8), (true, 9), (false, 6), (true, 10), (true, 11), (true, 12), (true, 13), (true, 14), (true, 15), (true, 16), (true, 17), (true, 18), (true, 19), (true, 20), (true, 21), (true, 22), (true, 23), (true, 24), (false, 25), (false, 26), (true, 27), (true, 28), (true, 29), (true, 30), (true, 31), (true, 32), (false, 33), (true, 34), (true, 35), (true, 36), (true, 37), (true, 38), (true, 39), (false, 40), (true, 41), (true, 42)] (by kernel_rfl) (by kernel_rfl) rfl (by kernel_rfl) ?_ ?_
  · exact (by assumption)
  simp only [List.filterMap_cons, List.filterMap_nil, List.getElem?_cons_succ, List.getElem?_cons_zero, Option.map_some]
  iterate 2
   apply wpSeq_takeK _ (by first | rfl | (simp [Region.wanted, yielded]; done))
   · intro w' hS
     have s0 := hS
     clear hS
     go_simp
     try rfl
   intro K hK
   go_simp
   refine hK _ ?_
   clear hK K
  refine wpSeq_alone ?_
  (go_wp2_with fail; refine (name_any o.name _ HN.out).mono ?_; rintro e w1 ⟨rfl, rfl⟩; rw [H1.out]; go_wp2)
  refine QS_normal (by assumption) (fun _ => ?_)
  iterate 2
   apply wpSeq_takeK _ (by first | rfl | (simp [Region.wanted, yielded]; done))
   · intro w' hS
     have s0 := hS
     clear hS
     go_simp
     try rfl
   intro K hK
   go_simp
   refine hK _ ?_
   clear hK K
  refine wpSeq_takeK (.agg (cellsO o)) (by first | rfl | (simp [Region.wanted, yielded]; done)) ?_ ?_
  · intro w' hS
    have s0 := hS
    exact exec_loadObj o rfl rfl s0
  iterate 2
   intro K hK
   go_simp
   refine hK _ ?_
   clear hK K
   apply wpSeq_takeK _ (by first | rfl | (simp [Region.wanted, yielded]; done))
   · intro w' hS
     have s0 := hS
     clear hS
     go_simp
     try rfl
  intro K hK
  go_simp
  refine hK _ ?_
  clear hK K
  refine wpSeq_takeK (.agg (cellsO (bareO o.kind))) (by first | rfl | (simp [Region.wanted, yielded]; done)) ?_ ?_
  · intro w' hS
    have s0 := hS
    (clear s0 hS; go_simp; rfl)
  intro K hK
  go_simp
  refine hK _ ?_
  clear hK K
  refine wpSeq_alone ?_
  (go_wp2_with fail; refine (rest_any o _).mono ?_; rintro e w1 ⟨rfl, hb1⟩; have hS1 : ∀ k, w1.cell? ⟨w.heap.size, k, none⟩ = (cellsO o)[k]? := fun k => (hb1.cell (p := ⟨w.heap.size, k, none⟩) (by simp)).trans (hS0 k); have HB1 := Lib.hid ((HB0.out).trans (hb1.mono (HB0.out).size)); have hlt1 := hb1.size; clear hb1; go_wp2)
  refine QS_normal (by assumption) (fun _ => ?_)
  refine wpSeq_takeK (.bool (!decide (restO o = bareO o.kind))) (by first | rfl | (simp [Region.wanted, yielded]; done)) ?_ ?_
  · intro w' hS
    have s0 := hS
    exact exec_neqObj (restO o) (bareO o.kind) rfl rfl rfl
  iterate 14
   intro K hK
   go_simp
   refine hK _ ?_
   clear hK K
   apply wpSeq_takeK _ (by first | rfl | (simp [Region.wanted, yielded]; done))
   · intro w' hS
     have s0 := hS
     clear hS
     go_simp
     try rfl
  intro K hK
  go_simp
  refine hK _ ?_
  clear hK K
  refine wpSeq_alone ?_
  (go_wp2; have hS2 : ∀ k, (w1.alloc (.cells #[.string o.cls, .string o.zone, .string o.node, .string o.claim, .string o.volume, .string o.source] 9)).cell? ⟨w.heap.size, k, none⟩ = (cellsO o)[k]? := fun k => (World.cell?_of_block (heap_alloc_lt (by simp at hlt1 ⊢; omega))).trans (hS1 k); have HB2 := Lib.hid ((HB1.out).alloc (HB1.out).size (.cells #[.string o.cls, .string o.zone, .string o.node, .string o.claim, .string o.volume, .string o.source] 9)))
  refine QS_normal (by assumption) (fun _ => ?_)
  refine wpSeq_alone ?_
  (go_wp2_with fail; refine (names_any (textsO o) w1.heap.size _ (by simp [textsO]) HT.out ?_).mono ?_; (intro j hj; rw [cells_all heap_alloc_eq]; match j, hj with | 0, _ => rfl | 1, _ => rfl | 2, _ => rfl | 3, _ => rfl | 4, _ => rfl | 5, _ => rfl); rintro e w2 ⟨rfl, rfl⟩; rw [H3.out]; go_wp2)
  refine QS_normal (by assumption) (fun _ => ?_)
  iterate 6
   apply wpSeq_takeK _ (by first | rfl | (simp [Region.wanted, yielded]; done))
   · intro w' hS
     have s0 := hS
     clear hS
     go_simp
     try rfl
   intro K hK
   go_simp
   refine hK _ ?_
   clear hK K
  refine wpSeq_alone ?_
  (go_wp2_with fail; refine (size_any o.size _).mono ?_; rintro e w3 ⟨rfl, rfl⟩; rw [H4.out]; go_wp2)
  refine QS_normal (by assumption) (fun _ => ?_)
  iterate 6
   apply wpSeq_takeK _ (by first | rfl | (simp [Region.wanted, yielded]; done))
   · intro w' hS
     have s0 := hS
     clear hS
     go_simp
     try rfl
   intro K hK
   go_simp
   refine hK _ ?_
   clear hK K
  refine wpSeq_alone ?_
  (go_wp2_with fail; refine (size_any o.got _).mono ?_; rintro e w4 ⟨rfl, rfl⟩; rw [H5.out]; go_wp2)
  refine QS_normal (by assumption) (fun _ => ?_)
  iterate 2
   apply wpSeq_takeK _ (by first | rfl | (simp [Region.wanted, yielded]; done))
   · intro w' hS
     have s0 := hS
     clear hS
     go_simp
     try rfl
   intro K hK
   go_simp
   refine hK _ ?_
   clear hK K
  refine wpSeq_end ?_
  clear hS0 hS1
  generalize (w1.alloc (.cells #[.string o.cls, .string o.zone, .string o.node, .string o.claim, .string o.volume, .string o.source] 9)) = W at *
  clear HB0 HB1 hlt1
  have hltW : w.heap.size < W.heap.size := World.block_lt_of_cell? W ⟨w.heap.size, 0, none⟩ ((hS2 0).trans (cellsO_get0 o))
  have hSA : ∀ (a : Go.Obj) k, (W.alloc a).cell? ⟨w.heap.size, k, none⟩ = (cellsO o)[k]? := fun a k => (World.cell?_of_block (w := W) (heap_alloc_lt hltW)).trans (hS2 k)
  have hSB : ∀ (a b : Go.Obj) k, ((W.alloc a).alloc b).cell? ⟨w.heap.size, k, none⟩ = (cellsO o)[k]? := fun a b k => (World.cell?_of_block (w := W.alloc a) (heap_alloc_lt (by simp; omega))).trans (hSA a k)
  have hk := HK.out
  have e1 : (o.kind == 1) = false := by simp [hk]
  have e2 : (o.kind == 2) = false := by simp [hk]
  have e3 : (o.kind == 3) = false := by simp [hk]
  have e4 : (o.kind == 4) = false := by simp [hk]
  have e5 : (o.kind == 5) = true := by simp [hk]
  clear hk
  obtain ⟨x1, x2, x3⟩ := HM.out
  have c1t : (!o.volume.toList.isEmpty) = true := by simpa using x1
  have c2t : (!o.node.toList.isEmpty) = true := by simpa using x2
  have X3 := Lib.hid x3
  clear x1 x2 x3
  go_wp2
  have hSd : ∀ k, W.drew.cell? ⟨w.heap.size, k, none⟩ = (cellsO o)[k]? := hS2
  have HBd := Lib.hid ((HB2.out).drew)
  refine wp_region_N (fun w' => (∀ k, w'.cell? ⟨w.heap.size, k, none⟩ = (cellsO o)[k]?))
    [(true, 0), (true, 1), (true, 2), (true, 3), (true, 4), (true, 5), (true, 6), (true, 7), (true, 8), (true, 9), (true, 10), (false, 11), (true, 12), (true, 13), (true, 14), (true, 15), (true, 16), (true, 17), (true, 18), (true, 19), (true, 20), (false, 21), (true, 22), (true, 23), (true, 24), (true, 25), (true, 26), (false, 27), (false, 28), (true, 29), (true, 30)] (by kernel_rfl) (by kernel_rfl) rfl (by kernel_rfl) ?_ ?_
  · exact (by assumption)
  simp only [List.filterMap_cons, List.filterMap_nil, List.getElem?_cons_succ, List.getElem?_cons_zero, Option.map_some]
  iterate 11
   apply wpSeq_takeK _ (by first | rfl | (simp [Region.wanted, yielded]; done))
   · intro w' hS
     have s0 := hS
     clear hS
     go_simp
     try rfl
   intro K hK
   go_simp
   refine hK _ ?_
   clear hK K
  refine wpSeq_alone ?_
  (go_wp2_with fail; refine (Try.strings_Contains_one o.node 47 _).mono ?_; rintro e w5 ⟨rfl, rfl⟩; rw [X3.out]; go_wp2)
  refine QS_normal (by assumption) (fun _ => ?_)
  iterate 3
   apply wpSeq_takeK _ (by first | rfl | (simp [Region.wanted, yielded]; done))
   · intro w' hS
     have s0 := hS
     clear hS
     go_simp
     try rfl
   intro K hK
   go_simp
   refine hK _ ?_
   clear hK K
  iterate 6
   refine wpSeq_skipT (by first | rfl | (simp [Region.wanted, yielded]; done)) ?_
   intro K hK
   go_simp
   refine hK _ ?_
   clear hK K
  refine wpSeq_skipA (by first | rfl | (simp [Region.wanted, yielded]; done)) (by assumption) ?_
  intro K hK
  go_simp
  refine hK _ ?_
  clear hK K
  refine wpSeq_skipT (by first | rfl | (simp [Region.wanted, yielded]; done)) ?_
  iterate 2
   intro K hK
   go_simp
   refine hK _ ?_
   clear hK K
   apply wpSeq_takeK _ (by first | rfl | (simp [Region.wanted, yielded]; done))
   · intro w' hS
     have s0 := hS
     clear hS
     go_simp
     try rfl
  iterate 2
   intro K hK
   go_simp
   refine hK _ ?_
   clear hK K
   refine wpSeq_skipT (by first | rfl | (simp [Region.wanted, yielded]; done)) ?_
  iterate 2
   intro K hK
   go_simp
   refine hK _ ?_
   clear hK K
   refine wpSeq_skipA (by first | rfl | (simp [Region.wanted, yielded]; done)) (by assumption) ?_
  iterate 2
   intro K hK
   go_simp
   refine hK _ ?_
   clear hK K
   apply wpSeq_takeK _ (by first | rfl | (simp [Region.wanted, yielded]; done))
   · intro w' hS
     have s0 := hS
     clear hS
     go_simp
     try rfl
  intro K hK
  go_simp
  refine hK _ ?_
  clear hK K
  refine wpSeq_end ?_
  go_wp2
  go_ret
  obtain ⟨x1, x2, x3⟩ := HM.out
  exact ⟨ret_bool (by simp [kindB, HK.out, nonE, x1, x2, slashIn, x3]), HBd.out⟩

set_option maxRecDepth 100000 in
set_option maxHeartbeats 4000000 in
theorem right_kind541 (o : Obj) (w : World) (hf : o.Fits) (h1 : nameB o.name = true) (h2 : decide (restO o = bareO o.kind) = true) (h3 : namesB (textsO o) = true) (h4 : sizeB o.size = true) (h5 : sizeB o.got = true) (hk : o.kind = 5) (hmo : (o.mode == 1) = true) (hm : ¬ o.volume.toList = [] ∧ ¬ o.node.toList = [] ∧ decide (0 ≤ Lib.indexByte o.node.data.toList 47) = false ∧ ¬ o.name = attachN o.volume o.node) :
    Calls Try.prog 56 #[.agg (cellsO o)] w fun e w' => e = .returned (.bool (kindB o)) ∧ Below w.heap.size w w' := by
  have HK := Lib.hid hk
  have HM := Lib.hid hm
  clear hk hm
  have HN := Lib.hid hf.name
  have HT := Lib.hid hf.texts
  have H1 := Lib.hid h1
  have H3 := Lib.hid h3
  have H4 := Lib.hid h4
  have H5 := Lib.hid h5
  clear hf h1 h3 h4 h5
  have HB0 := Lib.hid ((Below.refl w.heap.size w).alloc (Nat.le_refl _) (.cells (cellsO o) 31)).drew
  go_enter Try.func56, Try.ntmps56
  go_wp2
  have hS0 : ∀ k, (w.alloc (.cells (cellsO o) 31)).drew.cell? ⟨w.heap.size, k, none⟩ = (cellsO o)[k]? := cells_all heap_alloc_eq
  refine wp_region_N (fun w' => (∀ k, w'.cell? ⟨w.heap.size, k, none⟩ = (cellsO o)[k]?))
    [(true, 0), (true, 1), (false, 2), (true, 3), (true, 4), (true, 5), (true, 7), (true, 8), (true, 9), (false, 6), (true, 10), (true, 11), (true, 12), (true, 13), (true, 14), (true, 15), (true, 16), (true, 17), (true, 18), (true, 19), (true, 20), (true, 21), (true, 22), (true, 23), (true, 24), (false, 25), (false, 26), (true, 27), (true, 28), (true, 29), (true, 30), (true, 31), (true, 32), (false, 33), (true, 34), (true, 35), (true, 36), (true, 37), (true, 38), (true, 39), (false, 40), (true, 41), (true, 42)] (by kernel_rfl) (by kernel_rfl) rfl (by kernel_rfl) ?_ ?_
  · exact (by assumption)
  simp only [List.filterMap_cons, List.filterMap_nil, List.getElem?_cons_succ, List.getElem?_cons_zero, Option.map_some]
  iterate 2
   apply wpSeq_takeK _ (by first | rfl | (simp [Region.wanted, yielded]; done))
   · intro w' hS
     have s0 := hS
     clear hS
     go_simp
     try rfl
   intro K hK
   go_simp
   refine hK _ ?_
   clear hK K
  refine wpSeq_alone ?_
  (go_wp2_with fail; refine (name_any o.name _ HN.out).mono ?_; rintro e w1 ⟨rfl, rfl⟩; rw [H1.out]; go_wp2)
  refine QS_normal (by assumption) (fun _ => ?_)
  iterate 2
   apply wpSeq_takeK _ (by first | rfl | (simp [Region.wanted, yielded]; done))
   · intro w' hS
     have s0 := hS
     clear hS
     go_simp
     try rfl
   intro K hK
   go_simp
   refine hK _ ?_
   clear hK K
  refine wpSeq_takeK (.agg (cellsO o)) (by first | rfl | (simp [Region.wanted, yielded]; done)) ?_ ?_
  · intro w' hS
    have s0 := hS
    exact exec_loadObj o rfl rfl s0
  iterate 2
   intro K hK
   go_simp
   refine hK _ ?_
   clear hK K
   apply wpSeq_takeK _ (by first | rfl | (simp [Region.wanted, yielded]; done))
   · intro w' hS
     have s0 := hS
     clear hS
     go_simp
     try rfl
  intro K hK
  go_simp
  refine hK _ ?_
  clear hK K
  refine wpSeq_takeK (.agg (cellsO (bareO o.kind))) (by first | rfl | (simp [Region.wanted, yielded]; done)) ?_ ?_
  · intro w' hS
    have s0 := hS
    (clear s0 hS; go_simp; rfl)
  intro K hK
  go_simp
  refine hK _ ?_
  clear hK K
  refine wpSeq_alone ?_
  (go_wp2_with fail; refine (rest_any o _).mono ?_; rintro e w1 ⟨rfl, hb1⟩; have hS1 : ∀ k, w1.cell? ⟨w.heap.size, k, none⟩ = (cellsO o)[k]? := fun k => (hb1.cell (p := ⟨w.heap.size, k, none⟩) (by simp)).trans (hS0 k); have HB1 := Lib.hid ((HB0.out).trans (hb1.mono (HB0.out).size)); have hlt1 := hb1.size; clear hb1; go_wp2)
  refine QS_normal (by assumption) (fun _ => ?_)
  refine wpSeq_takeK (.bool (!decide (restO o = bareO o.kind))) (by first | rfl | (simp [Region.wanted, yielded]; done)) ?_ ?_
  · intro w' hS
    have s0 := hS
    exact exec_neqObj (restO o) (bareO o.kind) rfl rfl rfl
  iterate 14
   intro K hK
   go_simp
   refine hK _ ?_
   clear hK K
   apply wpSeq_takeK _ (by first | rfl | (simp [Region.wanted, yielded]; done))
   · intro w' hS
     have s0 := hS
     clear hS
     go_simp
     try rfl
  intro K hK
  go_simp
  refine hK _ ?_
  clear hK K
  refine wpSeq_alone ?_
  (go_wp2; have hS2 : ∀ k, (w1.alloc (.cells #[.string o.cls, .string o.zone, .string o.node, .string o.claim, .string o.volume, .string o.source] 9)).cell? ⟨w.heap.size, k, none⟩ = (cellsO o)[k]? := fun k => (World.cell?_of_block (heap_alloc_lt (by simp at hlt1 ⊢; omega))).trans (hS1 k); have HB2 := Lib.hid ((HB1.out).alloc (HB1.out).size (.cells #[.string o.cls, .string o.zone, .string o.node, .string o.claim, .string o.volume, .string o.source] 9)))
  refine QS_normal (by assumption) (fun _ => ?_)
  refine wpSeq_alone ?_
  (go_wp2_with fail; refine (names_any (textsO o) w1.heap.size _ (by simp [textsO]) HT.out ?_).mono ?_; (intro j hj; rw [cells_all heap_alloc_eq]; match j, hj with | 0, _ => rfl | 1, _ => rfl | 2, _ => rfl | 3, _ => rfl | 4, _ => rfl | 5, _ => rfl); rintro e w2 ⟨rfl, rfl⟩; rw [H3.out]; go_wp2)
  refine QS_normal (by assumption) (fun _ => ?_)
  iterate 6
   apply wpSeq_takeK _ (by first | rfl | (simp [Region.wanted, yielded]; done))
   · intro w' hS
     have s0 := hS
     clear hS
     go_simp
     try rfl
   intro K hK
   go_simp
   refine hK _ ?_
   clear hK K
  refine wpSeq_alone ?_
  (go_wp2_with fail; refine (size_any o.size _).mono ?_; rintro e w3 ⟨rfl, rfl⟩; rw [H4.out]; go_wp2)
  refine QS_normal (by assumption) (fun _ => ?_)
  iterate 6
   apply wpSeq_takeK _ (by first | rfl | (simp [Region.wanted, yielded]; done))
   · intro w' hS
     have s0 := hS
     clear hS
     go_simp
     try rfl
   intro K hK
   go_simp
   refine hK _ ?_
   clear hK K
  refine wpSeq_alone ?_
  (go_wp2_with fail; refine (size_any o.got _).mono ?_; rintro e w4 ⟨rfl, rfl⟩; rw [H5.out]; go_wp2)
  refine QS_normal (by assumption) (fun _ => ?_)
  iterate 2
   apply wpSeq_takeK _ (by first | rfl | (simp [Region.wanted, yielded]; done))
   · intro w' hS
     have s0 := hS
     clear hS
     go_simp
     try rfl
   intro K hK
   go_simp
   refine hK _ ?_
   clear hK K
  refine wpSeq_end ?_
  clear hS0 hS1
  generalize (w1.alloc (.cells #[.string o.cls, .string o.zone, .string o.node, .string o.claim, .string o.volume, .string o.source] 9)) = W at *
  clear HB0 HB1 hlt1
  have hltW : w.heap.size < W.heap.size := World.block_lt_of_cell? W ⟨w.heap.size, 0, none⟩ ((hS2 0).trans (cellsO_get0 o))
  have hSA : ∀ (a : Go.Obj) k, (W.alloc a).cell? ⟨w.heap.size, k, none⟩ = (cellsO o)[k]? := fun a k => (World.cell?_of_block (w := W) (heap_alloc_lt hltW)).trans (hS2 k)
  have hSB : ∀ (a b : Go.Obj) k, ((W.alloc a).alloc b).cell? ⟨w.heap.size, k, none⟩ = (cellsO o)[k]? := fun a b k => (World.cell?_of_block (w := W.alloc a) (heap_alloc_lt (by simp; omega))).trans (hSA a k)
  have hk := HK.out
  have e1 : (o.kind == 1) = false := by simp [hk]
  have e2 : (o.kind == 2) = false := by simp [hk]
  have e3 : (o.kind == 3) = false := by simp [hk]
  have e4 : (o.kind == 4) = false := by simp [hk]
  have e5 : (o.kind == 5) = true := by simp [hk]
  clear hk
  obtain ⟨x1, x2, x3, x4⟩ := HM.out
  have c1t : (!o.volume.toList.isEmpty) = true := by simpa using x1
  have c2t : (!o.node.toList.isEmpty) = true := by simpa using x2
  have X3 := Lib.hid x3
  have c4t : (o.name.toList == (attachN o.volume o.node).toList) = false := by simpa [toList_eq_iff] using x4
  clear x1 x2 x3 x4
  go_wp2
  have hSd : ∀ k, W.drew.cell? ⟨w.heap.size, k, none⟩ = (cellsO o)[k]? := hS2
  have HBd := Lib.hid ((HB2.out).drew)
  refine wp_region_N (fun w' => (∀ k, w'.cell? ⟨w.heap.size, k, none⟩ = (cellsO o)[k]?))
    [(true, 0), (true, 1), (true, 2), (true, 3), (true, 4), (true, 5), (true, 6), (true, 7), (true, 8), (true, 9), (true, 10), (false, 11), (true, 12), (true, 13), (true, 14), (true, 15), (true, 16), (true, 17), (true, 18), (true, 19), (true, 20), (false, 21), (true, 22), (true, 23), (true, 24), (true, 25), (true, 26), (false, 27), (false, 28), (true, 29), (true, 30)] (by kernel_rfl) (by kernel_rfl) rfl (by kernel_rfl) ?_ ?_
  · exact (by assumption)
  simp only [List.filterMap_cons, List.filterMap_nil, List.getElem?_cons_succ, List.getElem?_cons_zero, Option.map_some]
  iterate 11
   apply wpSeq_takeK _ (by first | rfl | (simp [Region.wanted, yielded]; done))
   · intro w' hS
     have s0 := hS
     clear hS
     go_simp
     try rfl
   intro K hK
   go_simp
   refine hK _ ?_
   clear hK K
  refine wpSeq_alone ?_
  (go_wp2_with fail; refine (Try.strings_Contains_one o.node 47 _).mono ?_; rintro e w5 ⟨rfl, rfl⟩; rw [X3.out]; go_wp2)
  refine QS_normal (by assumption) (fun _ => ?_)
  iterate 9
   apply wpSeq_takeK _ (by first | rfl | (simp [Region.wanted, yielded]; done))
   · intro w' hS
     have s0 := hS
     clear hS
     go_simp
     try rfl
   intro K hK
   go_simp
   refine hK _ ?_
   clear hK K
  refine wpSeq_alone ?_
  (go_wp2_with fail; refine (attach_any o.volume o.node _ (names_attach H3.out)).mono ?_; rintro e w6 ⟨rfl, hb6⟩; have hS6 : ∀ k, w6.cell? ⟨w.heap.size, k, none⟩ = (cellsO o)[k]? := fun k => (hb6.cell (p := ⟨w.heap.size, k, none⟩) hltW).trans (hSd k); have HB6 := Lib.hid ((HBd.out).trans (hb6.mono (HBd.out).size)); have hlt6 : w.heap.size < w6.heap.size := Nat.lt_of_lt_of_le hltW hb6.size; clear hb6; go_wp2)
  refine QS_normal (by assumption) (fun _ => ?_)
  iterate 3
   apply wpSeq_takeK _ (by first | rfl | (simp [Region.wanted, yielded]; done))
   · intro w' hS
     have s0 := hS
     clear hS
     go_simp
     try rfl
   intro K hK
   go_simp
   refine hK _ ?_
   clear hK K
  iterate 2
   refine wpSeq_skipT (by first | rfl | (simp [Region.wanted, yielded]; done)) ?_
   intro K hK
   go_simp
   refine hK _ ?_
   clear hK K
  iterate 2
   refine wpSeq_skipA (by first | rfl | (simp [Region.wanted, yielded]; done)) (by assumption) ?_
   intro K hK
   go_simp
   refine hK _ ?_
   clear hK K
  iterate 2
   apply wpSeq_takeK _ (by first | rfl | (simp [Region.wanted, yielded]; done))
   · intro w' hS
     have s0 := hS
     clear hS
     go_simp
     try rfl
   intro K hK
   go_simp
   refine hK _ ?_
   clear hK K
  refine wpSeq_end ?_
  go_wp2
  go_ret
  obtain ⟨x1, x2, x3, x4⟩ := HM.out
  exact ⟨ret_bool (by simp [kindB, HK.out, nonE, x1, x2, slashIn, x3, x4]), HB6.out⟩

set_option maxRecDepth 100000 in
set_option maxHeartbeats 4000000 in
theorem right_kind551 (o : Obj) (w : World) (hf : o.Fits) (h1 : nameB o.name = true) (h2 : decide (restO o = bareO o.kind) = true) (h3 : namesB (textsO o) = true) (h4 : sizeB o.size = true) (h5 : sizeB o.got = true) (hk : o.kind = 5) (hmo : (o.mode == 1) = true) (hm : ¬ o.volume.toList = [] ∧ ¬ o.node.toList = [] ∧ decide (0 ≤ Lib.indexByte o.node.data.toList 47) = false ∧ o.name = attachN o.volume o.node ∧ True) :
    Calls Try.prog 56 #[.agg (cellsO o)] w fun e w' => e = .returned (.bool (kindB o)) ∧ Below w.heap.size w w' := by
  have HK := Lib.hid hk
  have HM := Lib.hid hm
  clear hk hm
  have HN := Lib.hid hf.name
  have HT := Lib.hid hf.texts
  have H1 := Lib.hid h1
  have H3 := Lib.hid h3
  have H4 := Lib.hid h4
  have H5 := Lib.hid h5
  clear hf h1 h3 h4 h5
  have HB0 := Lib.hid ((Below.refl w.heap.size w).alloc (Nat.le_refl _) (.cells (cellsO o) 31)).drew
  go_enter Try.func56, Try.ntmps56
  go_wp2
  have hS0 : ∀ k, (w.alloc (.cells (cellsO o) 31)).drew.cell? ⟨w.heap.size, k, none⟩ = (cellsO o)[k]? := cells_all heap_alloc_eq
  refine wp_region_N (fun w' => (∀ k, w'.cell? ⟨w.heap.size, k, none⟩ = (cellsO o)[k]?))
    [(true, 0), (true, 1), (false, 2), (true, 3), (true, 4), (true, 5), (true, 7), (true, 8), (true, 9), (false, 6), (true, 10), (true, 11), (true, 12), (true, 13), (true, 14), (true, 15), (true, 16), (true, 17), (true, 18), (true, 19), (true, 20), (true, 21), (true, 22), (true, 23), (true, 24), (false, 25), (false, 26), (true, 27), (true, 28), (true, 29), (true, 30), (true, 31), (true, 32), (false, 33), (true, 34), (true, 35), (true, 36), (true, 37), (true, 38), (true, 39), (false, 40), (true, 41), (true, 42)] (by kernel_rfl) (by kernel_rfl) rfl (by kernel_rfl) ?_ ?_
  · exact (by assumption)
  simp only [List.filterMap_cons, List.filterMap_nil, List.getElem?_cons_succ, List.getElem?_cons_zero, Option.map_some]
  iterate 2
   apply wpSeq_takeK _ (by first | rfl | (simp [Region.wanted, yielded]; done))
   · intro w' hS
     have s0 := hS
     clear hS
     go_simp
     try rfl
   intro K hK
   go_simp
   refine hK _ ?_
   clear hK K
  refine wpSeq_alone ?_
  (go_wp2_with fail; refine (name_any o.name _ HN.out).mono ?_; rintro e w1 ⟨rfl, rfl⟩; rw [H1.out]; go_wp2)
  refine QS_normal (by assumption) (fun _ => ?_)
  iterate 2
   apply wpSeq_takeK _ (by first | rfl | (simp [Region.wanted, yielded]; done))
   · intro w' hS
     have s0 := hS
     clear hS
     go_simp
     try rfl
   intro K hK
   go_simp
   refine hK _ ?_
   clear hK K
  refine wpSeq_takeK (.agg (cellsO o)) (by first | rfl | (simp [Region.wanted, yielded]; done)) ?_ ?_
  · intro w' hS
    have s0 := hS
    exact exec_loadObj o rfl rfl s0
  iterate 2
   intro K hK
   go_simp
   refine hK _ ?_
   clear hK K
   apply wpSeq_takeK _ (by first | rfl | (simp [Region.wanted, yielded]; done))
   · intro w' hS
     have s0 := hS
     clear hS
     go_simp
     try rfl
  intro K hK
  go_simp
  refine hK _ ?_
  clear hK K
  refine wpSeq_takeK (.agg (cellsO (bareO o.kind))) (by first | rfl | (simp [Region.wanted, yielded]; done)) ?_ ?_
  · intro w' hS
    have s0 := hS
    (clear s0 hS; go_simp; rfl)
  intro K hK
  go_simp
  refine hK _ ?_
  clear hK K
  refine wpSeq_alone ?_
  (go_wp2_with fail; refine (rest_any o _).mono ?_; rintro e w1 ⟨rfl, hb1⟩; have hS1 : ∀ k, w1.cell? ⟨w.heap.size, k, none⟩ = (cellsO o)[k]? := fun k => (hb1.cell (p := ⟨w.heap.size, k, none⟩) (by simp)).trans (hS0 k); have HB1 := Lib.hid ((HB0.out).trans (hb1.mono (HB0.out).size)); have hlt1 := hb1.size; clear hb1; go_wp2)
  refine QS_normal (by assumption) (fun _ => ?_)
  refine wpSeq_takeK (.bool (!decide (restO o = bareO o.kind))) (by first | rfl | (simp [Region.wanted, yielded]; done)) ?_ ?_
  · intro w' hS
    have s0 := hS
    exact exec_neqObj (restO o) (bareO o.kind) rfl rfl rfl
  iterate 14
   intro K hK
   go_simp
   refine hK _ ?_
   clear hK K
   apply wpSeq_takeK _ (by first | rfl | (simp [Region.wanted, yielded]; done))
   · intro w' hS
     have s0 := hS
     clear hS
     go_simp
     try rfl
  intro K hK
  go_simp
  refine hK _ ?_
  clear hK K
  refine wpSeq_alone ?_
  (go_wp2; have hS2 : ∀ k, (w1.alloc (.cells #[.string o.cls, .string o.zone, .string o.node, .string o.claim, .string o.volume, .string o.source] 9)).cell? ⟨w.heap.size, k, none⟩ = (cellsO o)[k]? := fun k => (World.cell?_of_block (heap_alloc_lt (by simp at hlt1 ⊢; omega))).trans (hS1 k); have HB2 := Lib.hid ((HB1.out).alloc (HB1.out).size (.cells #[.string o.cls, .string o.zone, .string o.node, .string o.claim, .string o.volume, .string o.source] 9)))
  refine QS_normal (by assumption) (fun _ => ?_)
  refine wpSeq_alone ?_
  (go_wp2_with fail; refine (names_any (textsO o) w1.heap.size _ (by simp [textsO]) HT.out ?_).mono ?_; (intro j hj; rw [cells_all heap_alloc_eq]; match j, hj with | 0, _ => rfl | 1, _ => rfl | 2, _ => rfl | 3, _ => rfl | 4, _ => rfl | 5, _ => rfl); rintro e w2 ⟨rfl, rfl⟩; rw [H3.out]; go_wp2)
  refine QS_normal (by assumption) (fun _ => ?_)
  iterate 6
   apply wpSeq_takeK _ (by first | rfl | (simp [Region.wanted, yielded]; done))
   · intro w' hS
     have s0 := hS
     clear hS
     go_simp
     try rfl
   intro K hK
   go_simp
   refine hK _ ?_
   clear hK K
  refine wpSeq_alone ?_
  (go_wp2_with fail; refine (size_any o.size _).mono ?_; rintro e w3 ⟨rfl, rfl⟩; rw [H4.out]; go_wp2)
  refine QS_normal (by assumption) (fun _ => ?_)
  iterate 6
   apply wpSeq_takeK _ (by first | rfl | (simp [Region.wanted, yielded]; done))
   · intro w' hS
     have s0 := hS
     clear hS
     go_simp
     try rfl
   intro K hK
   go_simp
   refine hK _ ?_
   clear hK K
  refine wpSeq_alone ?_
  (go_wp2_with fail; refine (size_any o.got _).mono ?_; rintro e w4 ⟨rfl, rfl⟩; rw [H5.out]; go_wp2)
  refine QS_normal (by assumption) (fun _ => ?_)
  iterate 2
   apply wpSeq_takeK _ (by first | rfl | (simp [Region.wanted, yielded]; done))
   · intro w' hS
     have s0 := hS
     clear hS
     go_simp
     try rfl
   intro K hK
   go_simp
   refine hK _ ?_
   clear hK K
  refine wpSeq_end ?_
  clear hS0 hS1
  generalize (w1.alloc (.cells #[.string o.cls, .string o.zone, .string o.node, .string o.claim, .string o.volume, .string o.source] 9)) = W at *
  clear HB0 HB1 hlt1
  have hltW : w.heap.size < W.heap.size := World.block_lt_of_cell? W ⟨w.heap.size, 0, none⟩ ((hS2 0).trans (cellsO_get0 o))
  have hSA : ∀ (a : Go.Obj) k, (W.alloc a).cell? ⟨w.heap.size, k, none⟩ = (cellsO o)[k]? := fun a k => (World.cell?_of_block (w := W) (heap_alloc_lt hltW)).trans (hS2 k)
  have hSB : ∀ (a b : Go.Obj) k, ((W.alloc a).alloc b).cell? ⟨w.heap.size, k, none⟩ = (cellsO o)[k]? := fun a b k => (World.cell?_of_block (w := W.alloc a) (heap_alloc_lt (by simp; omega))).trans (hSA a k)
  have hk := HK.out
  have e1 : (o.kind == 1) = false := by simp [hk]
  have e2 : (o.kind == 2) = false := by simp [hk]
  have e3 : (o.kind == 3) = false := by simp [hk]
  have e4 : (o.kind == 4) = false := by simp [hk]
  have e5 : (o.kind == 5) = true := by simp [hk]
  clear hk
  obtain ⟨x1, x2, x3, x4, x5⟩ := HM.out
  have c1t : (!o.volume.toList.isEmpty) = true := by simpa using x1
  have c2t : (!o.node.toList.isEmpty) = true := by simpa using x2
  have X3 := Lib.hid x3
  have c4t : (o.name.toList == (attachN o.volume o.node).toList) = true := by rw [← x4]; simp
  clear x1 x2 x3 x4
  have X5 := Lib.hid x5
  clear x5
  go_wp2
  have hSd : ∀ k, W.drew.cell? ⟨w.heap.size, k, none⟩ = (cellsO o)[k]? := hS2
  have HBd := Lib.hid ((HB2.out).drew)
  refine wp_region_N (fun w' => (∀ k, w'.cell? ⟨w.heap.size, k, none⟩ = (cellsO o)[k]?))
    [(true, 0), (true, 1), (true, 2), (true, 3), (true, 4), (true, 5), (true, 6), (true, 7), (true, 8), (true, 9), (true, 10), (false, 11), (true, 12), (true, 13), (true, 14), (true, 15), (true, 16), (true, 17), (true, 18), (true, 19), (true, 20), (false, 21), (true, 22), (true, 23), (true, 24), (true, 25), (true, 26), (false, 27), (false, 28), (true, 29), (true, 30)] (by kernel_rfl) (by kernel_rfl) rfl (by kernel_rfl) ?_ ?_
  · exact (by assumption)
  simp only [List.filterMap_cons, List.filterMap_nil, List.getElem?_cons_succ, List.getElem?_cons_zero, Option.map_some]
  iterate 11
   apply wpSeq_takeK _ (by first | rfl | (simp [Region.wanted, yielded]; done))
   · intro w' hS
     have s0 := hS
     clear hS
     go_simp
     try rfl
   intro K hK
   go_simp
   refine hK _ ?_
   clear hK K
  refine wpSeq_alone ?_
  (go_wp2_with fail; refine (Try.strings_Contains_one o.node 47 _).mono ?_; rintro e w5 ⟨rfl, rfl⟩; rw [X3.out]; go_wp2)
  refine QS_normal (by assumption) (fun _ => ?_)
  iterate 9
   apply wpSeq_takeK _ (by first | rfl | (simp [Region.wanted, yielded]; done))
   · intro w' hS
     have s0 := hS
     clear hS
     go_simp
     try rfl
   intro K hK
   go_simp
   refine hK _ ?_
   clear hK K
  refine wpSeq_alone ?_
  (go_wp2_with fail; refine (attach_any o.volume o.node _ (names_attach H3.out)).mono ?_; rintro e w6 ⟨rfl, hb6⟩; have hS6 : ∀ k, w6.cell? ⟨w.heap.size, k, none⟩ = (cellsO o)[k]? := fun k => (hb6.cell (p := ⟨w.heap.size, k, none⟩) hltW).trans (hSd k); have HB6 := Lib.hid ((HBd.out).trans (hb6.mono (HBd.out).size)); have hlt6 : w.heap.size < w6.heap.size := Nat.lt_of_lt_of_le hltW hb6.size; clear hb6; go_wp2)
  refine QS_normal (by assumption) (fun _ => ?_)
  iterate 5
   apply wpSeq_takeK _ (by first | rfl | (simp [Region.wanted, yielded]; done))
   · intro w' hS
     have s0 := hS
     clear hS
     go_simp
     try rfl
   intro K hK
   go_simp
   refine hK _ ?_
   clear hK K
  refine wpSeq_alone ?_
  (go_wp2; have hS7 : ∀ k, (w6.alloc (.cells #[.int .u8 7, .int .u8 8, .int .u8 9] 29)).cell? ⟨w.heap.size, k, none⟩ = (cellsO o)[k]? := fun k => (World.cell?_of_block (w := w6) (heap_alloc_lt hlt6)).trans (hS6 k))
  refine QS_normal (by assumption) (fun _ => ?_)
  refine wpSeq_alone ?_
  (go_wp2_with fail; refine (one_any o.phase [7, 8, 9] w6.heap.size _ (by simp) (by intro j hj; rw [cells_all heap_alloc_eq]; match j, hj with | 0, _ => rfl | 1, _ => rfl | 2, _ => rfl)).mono ?_; rintro e w7 ⟨rfl, rfl⟩; go_wp2)
  refine QS_normal (by assumption) (fun _ => ?_)
  iterate 2
   apply wpSeq_takeK _ (by first | rfl | (simp [Region.wanted, yielded]; done))
   · intro w' hS
     have s0 := hS
     clear hS
     go_simp
     try rfl
   intro K hK
   go_simp
   refine hK _ ?_
   clear hK K
  refine wpSeq_end ?_
  go_wp2
  go_ret
  obtain ⟨x1, x2, x3, x4, x5⟩ := HM.out
  refine ⟨ret_bool ?_, (HB6.out).alloc (HB6.out).size _⟩
  rw [show kindB o = (nonE o.volume && nonE o.node && !slashIn o.node && decide (o.name = attachN o.volume o.node) && oneB o.phase [7, 8, 9]) by simp [kindB, HK.out]]
  rw [← x4]
  simp [nonE, x1, x2, slashIn, x3]


end Go.Proofs.Ytobpohjhhelljaa
