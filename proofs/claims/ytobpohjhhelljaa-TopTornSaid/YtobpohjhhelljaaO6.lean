/- Layer 3 (object): which objects are right: what the kinds ask. -/
import Derived.Test.YtobpohjhhelljaaO5
namespace Go.Proofs.Ytobpohjhhelljaa
open Go.RowKit
set_option linter.unusedVariables false
set_option linter.unusedSimpArgs false


set_option maxRecDepth 100000 in
set_option maxHeartbeats 4000000 in
theorem right_kind0 (o : Obj) (w : World) (hf : o.Fits) (h1 : nameB o.name = true) (h2 : decide (restO o = bareO o.kind) = true) (h3 : namesB (textsO o) = true) (h4 : sizeB o.size = true) (h5 : sizeB o.got = true) (hk : o.kind ≠ 1 ∧ o.kind ≠ 2 ∧ o.kind ≠ 3 ∧ o.kind ≠ 4 ∧ o.kind ≠ 5 ∧ o.kind ≠ 6 ∧ o.kind ≠ 7) :
    Calls Try.prog 56 #[.agg (cellsO o)] w fun e w' => e = .returned (.bool (kindB o)) ∧ Below w.heap.size w w' := by
  have HK := Lib.hid hk
  clear hk
  have HN := Lib.hid hf.name
  have HT := Lib.hid hf.texts
  have H1 := Lib.hid h1
  have H3 := Lib.hid h3
  have H4 := Lib.hid h4
  have H5 := Lib.hid h5
  clear hf h1 h3 h4 h5
  have HB0 := Lib.hid ((Below.refl w.heap.size w).alloc (Nat.le_refl _) (.cells (cellsO o) 31)).drew
  go_enter Try.func56, Try.ntmps56
  go_wp2
  have hS0 : ∀ k, (w.alloc (.cells (cellsO o) 31)).drew.cell? ⟨w.heap.size, k, none⟩ = (cellsO o)[k]? := cells_all heap_alloc_eq
  refine wp_region_N (fun w' => (∀ k, w'.cell? ⟨w.heap.size, k, none⟩ = (cellsO o)[k]?))
    [(true, 0), (true, 1), (false, 2), (true, 3), (true, 4), (true, 5), (true, 7), (true, 8), (true, 9), (false, 6), (true, 10), (true, 11), (true, 12), (true, 13), (true, 14), (true, 15), (true, 16), (true, 17), (true, 18), (true, 19), (true, 20), (true, 21), (true, 22), (true, 23), (true, 24), (false, 25), (false, 26), (true, 27), (true, 28), (true, 29), (true, 30), (true, 31), (true, 32), (false, 33), (true, 34), (true, 35), (true, 36), (true, 37), (true, 38), (true, 39), (false, 40), (true, 41), (true, 42)] (by kernel_rfl) (by kernel_rfl) rfl (by kernel_rfl) ?_ ?_
  · exact (by assumption)
  simp only [List.filterMap_cons, List.filterMap_nil, List.getElem?_cons_succ, List.getElem?_cons_zero, Option.map_some]
  iterate 2
   apply wpSeq_takeK _ (by first | rfl | (simp [Region.wanted, yielded]; done))
   · intro w' hS
     have s0 := hS
     clear hS
     go_simp
     try rfl
   intro K hK
   go_simp
   refine hK _ ?_
   clear hK K
  refine wpSeq_alone ?_
  (go_wp2_with fail; refine (name_any o.name _ HN.out).mono ?_; rintro e w1 ⟨rfl, rfl⟩; rw [H1.out]; go_wp2)
  refine QS_normal (by assumption) (fun _ => ?_)
  iterate 2
   apply wpSeq_takeK _ (by first | rfl | (simp [Region.wanted, yielded]; done))
   · intro w' hS
     have s0 := hS
     clear hS
     go_simp
     try rfl
   intro K hK
   go_simp
   refine hK _ ?_
   clear hK K
  refine wpSeq_takeK (.agg (cellsO o)) (by first | rfl | (simp [Region.wanted, yielded]; done)) ?_ ?_
  · intro w' hS
    have s0 := hS
    exact exec_loadObj o rfl rfl s0
  iterate 2
   intro K hK
   go_simp
   refine hK _ ?_
   clear hK K
   apply wpSeq_takeK _ (by first | rfl | (simp [Region.wanted, yielded]; done))
   · intro w' hS
     have s0 := hS
     clear hS
     go_simp
     try rfl
  intro K hK
  go_simp
  refine hK _ ?_
  clear hK K
  refine wpSeq_takeK (.agg (cellsO (bareO o.kind))) (by first | rfl | (simp [Region.wanted, yielded]; done)) ?_ ?_
  · intro w' hS
    have s0 := hS
    (clear s0 hS; go_simp; rfl)
  intro K hK
  go_simp
  refine hK _ ?_
  clear hK K
  refine wpSeq_alone ?_
  (go_wp2_with fail; refine (rest_any o _).mono ?_; rintro e w1 ⟨rfl, hb1⟩; have hS1 : ∀ k, w1.cell? ⟨w.heap.size, k, none⟩ = (cellsO o)[k]? := fun k => (hb1.cell (p := ⟨w.heap.size, k, none⟩) (by simp)).trans (hS0 k); have HB1 := Lib.hid ((HB0.out).trans (hb1.mono (HB0.out).size)); have hlt1 := hb1.size; clear hb1; go_wp2)
  refine QS_normal (by assumption) (fun _ => ?_)
  refine wpSeq_takeK (.bool (!decide (restO o = bareO o.kind))) (by first | rfl | (simp [Region.wanted, yielded]; done)) ?_ ?_
  · intro w' hS
    have s0 := hS
    exact exec_neqObj (restO o) (bareO o.kind) rfl rfl rfl
  iterate 14
   intro K hK
   go_simp
   refine hK _ ?_
   clear hK K
   apply wpSeq_takeK _ (by first | rfl | (simp [Region.wanted, yielded]; done))
   · intro w' hS
     have s0 := hS
     clear hS
     go_simp
     try rfl
  intro K hK
  go_simp
  refine hK _ ?_
  clear hK K
  refine wpSeq_alone ?_
  (go_wp2; have hS2 : ∀ k, (w1.alloc (.cells #[.string o.cls, .string o.zone, .string o.node, .string o.claim, .string o.volume, .string o.source] 9)).cell? ⟨w.heap.size, k, none⟩ = (cellsO o)[k]? := fun k => (World.cell?_of_block (heap_alloc_lt (by simp at hlt1 ⊢; omega))).trans (hS1 k); have HB2 := Lib.hid ((HB1.out).alloc (HB1.out).size (.cells #[.string o.cls, .string o.zone, .string o.node, .string o.claim, .string o.volume, .string o.source] 9)))
  refine QS_normal (by assumption) (fun _ => ?_)
  refine wpSeq_alone ?_
  (go_wp2_with fail; refine (names_any (textsO o) w1.heap.size _ (by simp [textsO]) HT.out ?_).mono ?_; (intro j hj; rw [cells_all heap_alloc_eq]; match j, hj with | 0, _ => rfl | 1, _ => rfl | 2, _ => rfl | 3, _ => rfl | 4, _ => rfl | 5, _ => rfl); rintro e w2 ⟨rfl, rfl⟩; rw [H3.out]; go_wp2)
  refine QS_normal (by assumption) (fun _ => ?_)
  iterate 6
   apply wpSeq_takeK _ (by first | rfl | (simp [Region.wanted, yielded]; done))
   · intro w' hS
     have s0 := hS
     clear hS
     go_simp
     try rfl
   intro K hK
   go_simp
   refine hK _ ?_
   clear hK K
  refine wpSeq_alone ?_
  (go_wp2_with fail; refine (size_any o.size _).mono ?_; rintro e w3 ⟨rfl, rfl⟩; rw [H4.out]; go_wp2)
  refine QS_normal (by assumption) (fun _ => ?_)
  iterate 6
   apply wpSeq_takeK _ (by first | rfl | (simp [Region.wanted, yielded]; done))
   · intro w' hS
     have s0 := hS
     clear hS
     go_simp
     try rfl
   intro K hK
   go_simp
   refine hK _ ?_
   clear hK K
  refine wpSeq_alone ?_
  (go_wp2_with fail; refine (size_any o.got _).mono ?_; rintro e w4 ⟨rfl, rfl⟩; rw [H5.out]; go_wp2)
  refine QS_normal (by assumption) (fun _ => ?_)
  iterate 2
   apply wpSeq_takeK _ (by first | rfl | (simp [Region.wanted, yielded]; done))
   · intro w' hS
     have s0 := hS
     clear hS
     go_simp
     try rfl
   intro K hK
   go_simp
   refine hK _ ?_
   clear hK K
  refine wpSeq_end ?_
  clear hS0 hS1
  generalize (w1.alloc (.cells #[.string o.cls, .string o.zone, .string o.node, .string o.claim, .string o.volume, .string o.source] 9)) = W at *
  clear HB0 HB1 hlt1
  have hltW : w.heap.size < W.heap.size := World.block_lt_of_cell? W ⟨w.heap.size, 0, none⟩ ((hS2 0).trans (cellsO_get0 o))
  have hSA : ∀ (a : Go.Obj) k, (W.alloc a).cell? ⟨w.heap.size, k, none⟩ = (cellsO o)[k]? := fun a k => (World.cell?_of_block (w := W) (heap_alloc_lt hltW)).trans (hS2 k)
  have hSB : ∀ (a b : Go.Obj) k, ((W.alloc a).alloc b).cell? ⟨w.heap.size, k, none⟩ = (cellsO o)[k]? := fun a b k => (World.cell?_of_block (w := W.alloc a) (heap_alloc_lt (by simp; omega))).trans (hSA a k)
  have hk := HK.out
  obtain ⟨k1, k2, k3, k4, k5, k6, k7⟩ := hk
  have e1 : (o.kind == 1) = false := by simpa using k1
  have e2 : (o.kind == 2) = false := by simpa using k2
  have e3 : (o.kind == 3) = false := by simpa using k3
  have e4 : (o.kind == 4) = false := by simpa using k4
  have e5 : (o.kind == 5) = false := by simpa using k5
  have e6 : (o.kind == 6) = false := by simpa using k6
  have e7 : (o.kind == 7) = false := by simpa using k7
  clear k1 k2 k3 k4 k5 k6 k7
  go_wp2
  all_goals go_ret
  all_goals exact ⟨ret_bool (by simp [kindB, HK.out]), HB2.out⟩

set_option maxRecDepth 100000 in
set_option maxHeartbeats 4000000 in
theorem right_kind1 (o : Obj) (w : World) (hf : o.Fits) (h1 : nameB o.name = true) (h2 : decide (restO o = bareO o.kind) = true) (h3 : namesB (textsO o) = true) (h4 : sizeB o.size = true) (h5 : sizeB o.got = true) (hk : o.kind = 1) :
    Calls Try.prog 56 #[.agg (cellsO o)] w fun e w' => e = .returned (.bool (kindB o)) ∧ Below w.heap.size w w' := by
  have HK := Lib.hid hk
  clear hk
  have HN := Lib.hid hf.name
  have HT := Lib.hid hf.texts
  have H1 := Lib.hid h1
  have H3 := Lib.hid h3
  have H4 := Lib.hid h4
  have H5 := Lib.hid h5
  clear hf h1 h3 h4 h5
  have HB0 := Lib.hid ((Below.refl w.heap.size w).alloc (Nat.le_refl _) (.cells (cellsO o) 31)).drew
  go_enter Try.func56, Try.ntmps56
  go_wp2
  have hS0 : ∀ k, (w.alloc (.cells (cellsO o) 31)).drew.cell? ⟨w.heap.size, k, none⟩ = (cellsO o)[k]? := cells_all heap_alloc_eq
  refine wp_region_N (fun w' => (∀ k, w'.cell? ⟨w.heap.size, k, none⟩ = (cellsO o)[k]?))
    [(true, 0), (true, 1), (false, 2), (true, 3), (true, 4), (true, 5), (true, 7), (true, 8), (true, 9), (false, 6), (true, 10), (true, 11), (true, 12), (true, 13), (true, 14), (true, 15), (true, 16), (true, 17), (true, 18), (true, 19), (true, 20), (true, 21), (true, 22), (true, 23), (true, 24), (false, 25), (false, 26), (true, 27), (true, 28), (true, 29), (true, 30), (true, 31), (true, 32), (false, 33), (true, 34), (true, 35), (true, 36), (true, 37), (true, 38), (true, 39), (false, 40), (true, 41), (true, 42)] (by kernel_rfl) (by kernel_rfl) rfl (by kernel_rfl) ?_ ?_
  · exact (by assumption)
  simp only [List.filterMap_cons, List.filterMap_nil, List.getElem?_cons_succ, List.getElem?_cons_zero, Option.map_some]
  iterate 2
   apply wpSeq_takeK _ (by first | rfl | (simp [Region.wanted, yielded]; done))
   · intro w' hS
     have s0 := hS
     clear hS
     go_simp
     try rfl
   intro K hK
   go_simp
   refine hK _ ?_
   clear hK K
  refine wpSeq_alone ?_
  (go_wp2_with fail; refine (name_any o.name _ HN.out).mono ?_; rintro e w1 ⟨rfl, rfl⟩; rw [H1.out]; go_wp2)
  refine QS_normal (by assumption) (fun _ => ?_)
  iterate 2
   apply wpSeq_takeK _ (by first | rfl | (simp [Region.wanted, yielded]; done))
   · intro w' hS
     have s0 := hS
     clear hS
     go_simp
     try rfl
   intro K hK
   go_simp
   refine hK _ ?_
   clear hK K
  refine wpSeq_takeK (.agg (cellsO o)) (by first | rfl | (simp [Region.wanted, yielded]; done)) ?_ ?_
  · intro w' hS
    have s0 := hS
    exact exec_loadObj o rfl rfl s0
  iterate 2
   intro K hK
   go_simp
   refine hK _ ?_
   clear hK K
   apply wpSeq_takeK _ (by first | rfl | (simp [Region.wanted, yielded]; done))
   · intro w' hS
     have s0 := hS
     clear hS
     go_simp
     try rfl
  intro K hK
  go_simp
  refine hK _ ?_
  clear hK K
  refine wpSeq_takeK (.agg (cellsO (bareO o.kind))) (by first | rfl | (simp [Region.wanted, yielded]; done)) ?_ ?_
  · intro w' hS
    have s0 := hS
    (clear s0 hS; go_simp; rfl)
  intro K hK
  go_simp
  refine hK _ ?_
  clear hK K
  refine wpSeq_alone ?_
  (go_wp2_with fail; refine (rest_any o _).mono ?_; rintro e w1 ⟨rfl, hb1⟩; have hS1 : ∀ k, w1.cell? ⟨w.heap.size, k, none⟩ = (cellsO o)[k]? := fun k => (hb1.cell (p := ⟨w.heap.size, k, none⟩) (by simp)).trans (hS0 k); have HB1 := Lib.hid ((HB0.out).trans (hb1.mono (HB0.out).size)); have hlt1 := hb1.size; clear hb1; go_wp2)
  refine QS_normal (by assumption) (fun _ => ?_)
  refine wpSeq_takeK (.bool (!decide (restO o = bareO o.kind))) (by first | rfl | (simp [Region.wanted, yielded]; done)) ?_ ?_
  · intro w' hS
    have s0 := hS
    exact exec_neqObj (restO o) (bareO o.kind) rfl rfl rfl
  iterate 14
   intro K hK
   go_simp
   refine hK _ ?_
   clear hK K
   apply wpSeq_takeK _ (by first | rfl | (simp [Region.wanted, yielded]; done))
   · intro w' hS
     have s0 := hS
     clear hS
     go_simp
     try rfl
  intro K hK
  go_simp
  refine hK _ ?_
  clear hK K
  refine wpSeq_alone ?_
  (go_wp2; have hS2 : ∀ k, (w1.alloc (.cells #[.string o.cls, .string o.zone, .string o.node, .string o.claim, .string o.volume, .string o.source] 9)).cell? ⟨w.heap.size, k, none⟩ = (cellsO o)[k]? := fun k => (World.cell?_of_block (heap_alloc_lt (by simp at hlt1 ⊢; omega))).trans (hS1 k); have HB2 := Lib.hid ((HB1.out).alloc (HB1.out).size (.cells #[.string o.cls, .string o.zone, .string o.node, .string o.claim, .string o.volume, .string o.source] 9)))
  refine QS_normal (by assumption) (fun _ => ?_)
  refine wpSeq_alone ?_
  (go_wp2_with fail; refine (names_any (textsO o) w1.heap.size _ (by simp [textsO]) HT.out ?_).mono ?_; (intro j hj; rw [cells_all heap_alloc_eq]; match j, hj with | 0, _ => rfl | 1, _ => rfl | 2, _ => rfl | 3, _ => rfl | 4, _ => rfl | 5, _ => rfl); rintro e w2 ⟨rfl, rfl⟩; rw [H3.out]; go_wp2)
  refine QS_normal (by assumption) (fun _ => ?_)
  iterate 6
   apply wpSeq_takeK _ (by first | rfl | (simp [Region.wanted, yielded]; done))
   · intro w' hS
     have s0 := hS
     clear hS
     go_simp
     try rfl
   intro K hK
   go_simp
   refine hK _ ?_
   clear hK K
  refine wpSeq_alone ?_
  (go_wp2_with fail; refine (size_any o.size _).mono ?_; rintro e w3 ⟨rfl, rfl⟩; rw [H4.out]; go_wp2)
  refine QS_normal (by assumption) (fun _ => ?_)
  iterate 6
   apply wpSeq_takeK _ (by first | rfl | (simp [Region.wanted, yielded]; done))
   · intro w' hS
     have s0 := hS
     clear hS
     go_simp
     try rfl
   intro K hK
   go_simp
   refine hK _ ?_
   clear hK K
  refine wpSeq_alone ?_
  (go_wp2_with fail; refine (size_any o.got _).mono ?_; rintro e w4 ⟨rfl, rfl⟩; rw [H5.out]; go_wp2)
  refine QS_normal (by assumption) (fun _ => ?_)
  iterate 2
   apply wpSeq_takeK _ (by first | rfl | (simp [Region.wanted, yielded]; done))
   · intro w' hS
     have s0 := hS
     clear hS
     go_simp
     try rfl
   intro K hK
   go_simp
   refine hK _ ?_
   clear hK K
  refine wpSeq_end ?_
  clear hS0 hS1
  generalize (w1.alloc (.cells #[.string o.cls, .string o.zone, .string o.node, .string o.claim, .string o.volume, .string o.source] 9)) = W at *
  clear HB0 HB1 hlt1
  have hltW : w.heap.size < W.heap.size := World.block_lt_of_cell? W ⟨w.heap.size, 0, none⟩ ((hS2 0).trans (cellsO_get0 o))
  have hSA : ∀ (a : Go.Obj) k, (W.alloc a).cell? ⟨w.heap.size, k, none⟩ = (cellsO o)[k]? := fun a k => (World.cell?_of_block (w := W) (heap_alloc_lt hltW)).trans (hS2 k)
  have hSB : ∀ (a b : Go.Obj) k, ((W.alloc a).alloc b).cell? ⟨w.heap.size, k, none⟩ = (cellsO o)[k]? := fun a b k => (World.cell?_of_block (w := W.alloc a) (heap_alloc_lt (by simp; omega))).trans (hSA a k)
  have hk := HK.out
  have e1 : (o.kind == 1) = true := by simp [hk]
  clear hk
  go_wp2
  all_goals go_ret
  all_goals exact ⟨ret_bool (by simp [kindB, HK.out]), HB2.out⟩

set_option maxRecDepth 100000 in
set_option maxHeartbeats 4000000 in
theorem right_kind2 (o : Obj) (w : World) (hf : o.Fits) (h1 : nameB o.name = true) (h2 : decide (restO o = bareO o.kind) = true) (h3 : namesB (textsO o) = true) (h4 : sizeB o.size = true) (h5 : sizeB o.got = true) (hk : o.kind = 2) :
    Calls Try.prog 56 #[.agg (cellsO o)] w fun e w' => e = .returned (.bool (kindB o)) ∧ Below w.heap.size w w' := by
  have HK := Lib.hid hk
  clear hk
  have HN := Lib.hid hf.name
  have HT := Lib.hid hf.texts
  have H1 := Lib.hid h1
  have H3 := Lib.hid h3
  have H4 := Lib.hid h4
  have H5 := Lib.hid h5
  clear hf h1 h3 h4 h5
  have HB0 := Lib.hid ((Below.refl w.heap.size w).alloc (Nat.le_refl _) (.cells (cellsO o) 31)).drew
  go_enter Try.func56, Try.ntmps56
  go_wp2
  have hS0 : ∀ k, (w.alloc (.cells (cellsO o) 31)).drew.cell? ⟨w.heap.size, k, none⟩ = (cellsO o)[k]? := cells_all heap_alloc_eq
  refine wp_region_N (fun w' => (∀ k, w'.cell? ⟨w.heap.size, k, none⟩ = (cellsO o)[k]?))
    [(true, 0), (true, 1), (false, 2), (true, 3), (true, 4), (true, 5), (true, 7), (true, 8), (true, 9), (false, 6), (true, 10), (true, 11), (true, 12), (true, 13), (true, 14), (true, 15), (true, 16), (true, 17), (true, 18), (true, 19), (true, 20), (true, 21), (true, 22), (true, 23), (true, 24), (false, 25), (false, 26), (true, 27), (true, 28), (true, 29), (true, 30), (true, 31), (true, 32), (false, 33), (true, 34), (true, 35), (true, 36), (true, 37), (true, 38), (true, 39), (false, 40), (true, 41), (true, 42)] (by kernel_rfl) (by kernel_rfl) rfl (by kernel_rfl) ?_ ?_
  · exact (by assumption)
  simp only [List.filterMap_cons, List.filterMap_nil, List.getElem?_cons_succ, List.getElem?_cons_zero, Option.map_some]
  iterate 2
   apply wpSeq_takeK _ (by first | rfl | (simp [Region.wanted, yielded]; done))
   · intro w' hS
     have s0 := hS
     clear hS
     go_simp
     try rfl
   intro K hK
   go_simp
   refine hK _ ?_
   clear hK K
  refine wpSeq_alone ?_
  (go_wp2_with fail; refine (name_any o.name _ HN.out).mono ?_; rintro e w1 ⟨rfl, rfl⟩; rw [H1.out]; go_wp2)
  refine QS_normal (by assumption) (fun _ => ?_)
  iterate 2
   apply wpSeq_takeK _ (by first | rfl | (simp [Region.wanted, yielded]; done))
   · intro w' hS
     have s0 := hS
     clear hS
     go_simp
     try rfl
   intro K hK
   go_simp
   refine hK _ ?_
   clear hK K
  refine wpSeq_takeK (.agg (cellsO o)) (by first | rfl | (simp [Region.wanted, yielded]; done)) ?_ ?_
  · intro w' hS
    have s0 := hS
    exact exec_loadObj o rfl rfl s0
  iterate 2
   intro K hK
   go_simp
   refine hK _ ?_
   clear hK K
   apply wpSeq_takeK _ (by first | rfl | (simp [Region.wanted, yielded]; done))
   · intro w' hS
     have s0 := hS
     clear hS
     go_simp
     try rfl
  intro K hK
  go_simp
  refine hK _ ?_
  clear hK K
  refine wpSeq_takeK (.agg (cellsO (bareO o.kind))) (by first | rfl | (simp [Region.wanted, yielded]; done)) ?_ ?_
  · intro w' hS
    have s0 := hS
    (clear s0 hS; go_simp; rfl)
  intro K hK
  go_simp
  refine hK _ ?_
  clear hK K
  refine wpSeq_alone ?_
  (go_wp2_with fail; refine (rest_any o _).mono ?_; rintro e w1 ⟨rfl, hb1⟩; have hS1 : ∀ k, w1.cell? ⟨w.heap.size, k, none⟩ = (cellsO o)[k]? := fun k => (hb1.cell (p := ⟨w.heap.size, k, none⟩) (by simp)).trans (hS0 k); have HB1 := Lib.hid ((HB0.out).trans (hb1.mono (HB0.out).size)); have hlt1 := hb1.size; clear hb1; go_wp2)
  refine QS_normal (by assumption) (fun _ => ?_)
  refine wpSeq_takeK (.bool (!decide (restO o = bareO o.kind))) (by first | rfl | (simp [Region.wanted, yielded]; done)) ?_ ?_
  · intro w' hS
    have s0 := hS
    exact exec_neqObj (restO o) (bareO o.kind) rfl rfl rfl
  iterate 14
   intro K hK
   go_simp
   refine hK _ ?_
   clear hK K
   apply wpSeq_takeK _ (by first | rfl | (simp [Region.wanted, yielded]; done))
   · intro w' hS
     have s0 := hS
     clear hS
     go_simp
     try rfl
  intro K hK
  go_simp
  refine hK _ ?_
  clear hK K
  refine wpSeq_alone ?_
  (go_wp2; have hS2 : ∀ k, (w1.alloc (.cells #[.string o.cls, .string o.zone, .string o.node, .string o.claim, .string o.volume, .string o.source] 9)).cell? ⟨w.heap.size, k, none⟩ = (cellsO o)[k]? := fun k => (World.cell?_of_block (heap_alloc_lt (by simp at hlt1 ⊢; omega))).trans (hS1 k); have HB2 := Lib.hid ((HB1.out).alloc (HB1.out).size (.cells #[.string o.cls, .string o.zone, .string o.node, .string o.claim, .string o.volume, .string o.source] 9)))
  refine QS_normal (by assumption) (fun _ => ?_)
  refine wpSeq_alone ?_
  (go_wp2_with fail; refine (names_any (textsO o) w1.heap.size _ (by simp [textsO]) HT.out ?_).mono ?_; (intro j hj; rw [cells_all heap_alloc_eq]; match j, hj with | 0, _ => rfl | 1, _ => rfl | 2, _ => rfl | 3, _ => rfl | 4, _ => rfl | 5, _ => rfl); rintro e w2 ⟨rfl, rfl⟩; rw [H3.out]; go_wp2)
  refine QS_normal (by assumption) (fun _ => ?_)
  iterate 6
   apply wpSeq_takeK _ (by first | rfl | (simp [Region.wanted, yielded]; done))
   · intro w' hS
     have s0 := hS
     clear hS
     go_simp
     try rfl
   intro K hK
   go_simp
   refine hK _ ?_
   clear hK K
  refine wpSeq_alone ?_
  (go_wp2_with fail; refine (size_any o.size _).mono ?_; rintro e w3 ⟨rfl, rfl⟩; rw [H4.out]; go_wp2)
  refine QS_normal (by assumption) (fun _ => ?_)
  iterate 6
   apply wpSeq_takeK _ (by first | rfl | (simp [Region.wanted, yielded]; done))
   · intro w' hS
     have s0 := hS
     clear hS
     go_simp
     try rfl
   intro K hK
   go_simp
   refine hK _ ?_
   clear hK K
  refine wpSeq_alone ?_
  (go_wp2_with fail; refine (size_any o.got _).mono ?_; rintro e w4 ⟨rfl, rfl⟩; rw [H5.out]; go_wp2)
  refine QS_normal (by assumption) (fun _ => ?_)
  iterate 2
   apply wpSeq_takeK _ (by first | rfl | (simp [Region.wanted, yielded]; done))
   · intro w' hS
     have s0 := hS
     clear hS
     go_simp
     try rfl
   intro K hK
   go_simp
   refine hK _ ?_
   clear hK K
  refine wpSeq_end ?_
  clear hS0 hS1
  generalize (w1.alloc (.cells #[.string o.cls, .string o.zone, .string o.node, .string o.claim, .string o.volume, .string o.source] 9)) = W at *
  clear HB0 HB1 hlt1
  have hltW : w.heap.size < W.heap.size := World.block_lt_of_cell? W ⟨w.heap.size, 0, none⟩ ((hS2 0).trans (cellsO_get0 o))
  have hSA : ∀ (a : Go.Obj) k, (W.alloc a).cell? ⟨w.heap.size, k, none⟩ = (cellsO o)[k]? := fun a k => (World.cell?_of_block (w := W) (heap_alloc_lt hltW)).trans (hS2 k)
  have hSB : ∀ (a b : Go.Obj) k, ((W.alloc a).alloc b).cell? ⟨w.heap.size, k, none⟩ = (cellsO o)[k]? := fun a b k => (World.cell?_of_block (w := W.alloc a) (heap_alloc_lt (by simp; omega))).trans (hSA a k)
  have hk := HK.out
  have e1 : (o.kind == 1) = false := by simp [hk]
  have e2 : (o.kind == 2) = true := by simp [hk]
  clear hk
  go_wp2_with fail
  all_goals first
    | (go_ret; exact ⟨ret_bool (by simp [kindB, HK.out, nonE, modeB, *]), HB2.out⟩)
    | (refine (Try.strings_Contains_one o.name 47 _).mono ?_; rintro e w5 ⟨rfl, rfl⟩; go_wp2; go_ret; exact ⟨ret_bool (by simp [kindB, HK.out, nonE, slashIn, *]), HB2.out⟩)

set_option maxRecDepth 100000 in
set_option maxHeartbeats 4000000 in
theorem right_kind6 (o : Obj) (w : World) (hf : o.Fits) (h1 : nameB o.name = true) (h2 : decide (restO o = bareO o.kind) = true) (h3 : namesB (textsO o) = true) (h4 : sizeB o.size = true) (h5 : sizeB o.got = true) (hk : o.kind = 6) :
    Calls Try.prog 56 #[.agg (cellsO o)] w fun e w' => e = .returned (.bool (kindB o)) ∧ Below w.heap.size w w' := by
  have HK := Lib.hid hk
  clear hk
  have HN := Lib.hid hf.name
  have HT := Lib.hid hf.texts
  have H1 := Lib.hid h1
  have H3 := Lib.hid h3
  have H4 := Lib.hid h4
  have H5 := Lib.hid h5
  clear hf h1 h3 h4 h5
  have HB0 := Lib.hid ((Below.refl w.heap.size w).alloc (Nat.le_refl _) (.cells (cellsO o) 31)).drew
  go_enter Try.func56, Try.ntmps56
  go_wp2
  have hS0 : ∀ k, (w.alloc (.cells (cellsO o) 31)).drew.cell? ⟨w.heap.size, k, none⟩ = (cellsO o)[k]? := cells_all heap_alloc_eq
  refine wp_region_N (fun w' => (∀ k, w'.cell? ⟨w.heap.size, k, none⟩ = (cellsO o)[k]?))
    [(true, 0), (true, 1), (false, 2), (true, 3), (true, 4), (true, 5), (true, 7), (true, 8), (true, 9), (false, 6), (true, 10), (true, 11), (true, 12), (true, 13), (true, 14), (true, 15), (true, 16), (true, 17), (true, 18), (true, 19), (true, 20), (true, 21), (true, 22), (true, 23), (true, 24), (false, 25), (false, 26), (true, 27), (true, 28), (true, 29), (true, 30), (true, 31), (true, 32), (false, 33), (true, 34), (true, 35), (true, 36), (true, 37), (true, 38), (true, 39), (false, 40), (true, 41), (true, 42)] (by kernel_rfl) (by kernel_rfl) rfl (by kernel_rfl) ?_ ?_
  · exact (by assumption)
  simp only [List.filterMap_cons, List.filterMap_nil, List.getElem?_cons_succ, List.getElem?_cons_zero, Option.map_some]
  iterate 2
   apply wpSeq_takeK _ (by first | rfl | (simp [Region.wanted, yielded]; done))
   · intro w' hS
     have s0 := hS
     clear hS
     go_simp
     try rfl
   intro K hK
   go_simp
   refine hK _ ?_
   clear hK K
  refine wpSeq_alone ?_
  (go_wp2_with fail; refine (name_any o.name _ HN.out).mono ?_; rintro e w1 ⟨rfl, rfl⟩; rw [H1.out]; go_wp2)
  refine QS_normal (by assumption) (fun _ => ?_)
  iterate 2
   apply wpSeq_takeK _ (by first | rfl | (simp [Region.wanted, yielded]; done))
   · intro w' hS
     have s0 := hS
     clear hS
     go_simp
     try rfl
   intro K hK
   go_simp
   refine hK _ ?_
   clear hK K
  refine wpSeq_takeK (.agg (cellsO o)) (by first | rfl | (simp [Region.wanted, yielded]; done)) ?_ ?_
  · intro w' hS
    have s0 := hS
    exact exec_loadObj o rfl rfl s0
  iterate 2
   intro K hK
   go_simp
   refine hK _ ?_
   clear hK K
   apply wpSeq_takeK _ (by first | rfl | (simp [Region.wanted, yielded]; done))
   · intro w' hS
     have s0 := hS
     clear hS
     go_simp
     try rfl
  intro K hK
  go_simp
  refine hK _ ?_
  clear hK K
  refine wpSeq_takeK (.agg (cellsO (bareO o.kind))) (by first | rfl | (simp [Region.wanted, yielded]; done)) ?_ ?_
  · intro w' hS
    have s0 := hS
    (clear s0 hS; go_simp; rfl)
  intro K hK
  go_simp
  refine hK _ ?_
  clear hK K
  refine wpSeq_alone ?_
  (go_wp2_with fail; refine (rest_any o _).mono ?_; rintro e w1 ⟨rfl, hb1⟩; have hS1 : ∀ k, w1.cell? ⟨w.heap.size, k, none⟩ = (cellsO o)[k]? := fun k => (hb1.cell (p := ⟨w.heap.size, k, none⟩) (by simp)).trans (hS0 k); have HB1 := Lib.hid ((HB0.out).trans (hb1.mono (HB0.out).size)); have hlt1 := hb1.size; clear hb1; go_wp2)
  refine QS_normal (by assumption) (fun _ => ?_)
  refine wpSeq_takeK (.bool (!decide (restO o = bareO o.kind))) (by first | rfl | (simp [Region.wanted, yielded]; done)) ?_ ?_
  · intro w' hS
    have s0 := hS
    exact exec_neqObj (restO o) (bareO o.kind) rfl rfl rfl
  iterate 14
   intro K hK
   go_simp
   refine hK _ ?_
   clear hK K
   apply wpSeq_takeK _ (by first | rfl | (simp [Region.wanted, yielded]; done))
   · intro w' hS
     have s0 := hS
     clear hS
     go_simp
     try rfl
  intro K hK
  go_simp
  refine hK _ ?_
  clear hK K
  refine wpSeq_alone ?_
  (go_wp2; have hS2 : ∀ k, (w1.alloc (.cells #[.string o.cls, .string o.zone, .string o.node, .string o.claim, .string o.volume, .string o.source] 9)).cell? ⟨w.heap.size, k, none⟩ = (cellsO o)[k]? := fun k => (World.cell?_of_block (heap_alloc_lt (by simp at hlt1 ⊢; omega))).trans (hS1 k); have HB2 := Lib.hid ((HB1.out).alloc (HB1.out).size (.cells #[.string o.cls, .string o.zone, .string o.node, .string o.claim, .string o.volume, .string o.source] 9)))
  refine QS_normal (by assumption) (fun _ => ?_)
  refine wpSeq_alone ?_
  (go_wp2_with fail; refine (names_any (textsO o) w1.heap.size _ (by simp [textsO]) HT.out ?_).mono ?_; (intro j hj; rw [cells_all heap_alloc_eq]; match j, hj with | 0, _ => rfl | 1, _ => rfl | 2, _ => rfl | 3, _ => rfl | 4, _ => rfl | 5, _ => rfl); rintro e w2 ⟨rfl, rfl⟩; rw [H3.out]; go_wp2)
  refine QS_normal (by assumption) (fun _ => ?_)
  iterate 6
   apply wpSeq_takeK _ (by first | rfl | (simp [Region.wanted, yielded]; done))
   · intro w' hS
     have s0 := hS
     clear hS
     go_simp
     try rfl
   intro K hK
   go_simp
   refine hK _ ?_
   clear hK K
  refine wpSeq_alone ?_
  (go_wp2_with fail; refine (size_any o.size _).mono ?_; rintro e w3 ⟨rfl, rfl⟩; rw [H4.out]; go_wp2)
  refine QS_normal (by assumption) (fun _ => ?_)
  iterate 6
   apply wpSeq_takeK _ (by first | rfl | (simp [Region.wanted, yielded]; done))
   · intro w' hS
     have s0 := hS
     clear hS
     go_simp
     try rfl
   intro K hK
   go_simp
   refine hK _ ?_
   clear hK K
  refine wpSeq_alone ?_
  (go_wp2_with fail; refine (size_any o.got _).mono ?_; rintro e w4 ⟨rfl, rfl⟩; rw [H5.out]; go_wp2)
  refine QS_normal (by assumption) (fun _ => ?_)
  iterate 2
   apply wpSeq_takeK _ (by first | rfl | (simp [Region.wanted, yielded]; done))
   · intro w' hS
     have s0 := hS
     clear hS
     go_simp
     try rfl
   intro K hK
   go_simp
   refine hK _ ?_
   clear hK K
  refine wpSeq_end ?_
  clear hS0 hS1
  generalize (w1.alloc (.cells #[.string o.cls, .string o.zone, .string o.node, .string o.claim, .string o.volume, .string o.source] 9)) = W at *
  clear HB0 HB1 hlt1
  have hltW : w.heap.size < W.heap.size := World.block_lt_of_cell? W ⟨w.heap.size, 0, none⟩ ((hS2 0).trans (cellsO_get0 o))
  have hSA : ∀ (a : Go.Obj) k, (W.alloc a).cell? ⟨w.heap.size, k, none⟩ = (cellsO o)[k]? := fun a k => (World.cell?_of_block (w := W) (heap_alloc_lt hltW)).trans (hS2 k)
  have hSB : ∀ (a b : Go.Obj) k, ((W.alloc a).alloc b).cell? ⟨w.heap.size, k, none⟩ = (cellsO o)[k]? := fun a b k => (World.cell?_of_block (w := W.alloc a) (heap_alloc_lt (by simp; omega))).trans (hSA a k)
  have hk := HK.out
  have e1 : (o.kind == 1) = false := by simp [hk]
  have e2 : (o.kind == 2) = false := by simp [hk]
  have e3 : (o.kind == 3) = false := by simp [hk]
  have e4 : (o.kind == 4) = false := by simp [hk]
  have e5 : (o.kind == 5) = false := by simp [hk]
  have e6 : (o.kind == 6) = true := by simp [hk]
  clear hk
  go_wp2
  all_goals go_ret
  all_goals exact ⟨ret_bool (by simp [kindB, HK.out, nonE]), HB2.out⟩


end Go.Proofs.Ytobpohjhhelljaa
