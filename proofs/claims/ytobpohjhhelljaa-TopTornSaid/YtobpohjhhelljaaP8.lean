/- Layer 3 (object): which objects are right: what the kinds ask. -/
import Derived.Test.YtobpohjhhelljaaO5
namespace Go.Proofs.Ytobpohjhhelljaa
open Go.RowKit
set_option linter.unusedVariables false
set_option linter.unusedSimpArgs false


set_option maxRecDepth 100000 in
set_option maxHeartbeats 20000000 in
theorem right_kind42 (o : Obj) (w : World) (hf : o.Fits) (h1 : nameB o.name = true) (h2 : decide (restO o = bareO o.kind) = true) (h3 : namesB (textsO o) = true) (h4 : sizeB o.size = true) (h5 : sizeB o.got = true) (hk : o.kind = 4) (hm : o.mode = 2) :
    Calls Try.prog 56 #[.agg (cellsO o)] w fun e w' => e = .returned (.bool (kindB o)) ∧ Below w.heap.size w w' := by
  have HK := Lib.hid hk
  have HM := Lib.hid hm
  clear hk hm
  have HN := Lib.hid hf.name
  have HT := Lib.hid hf.texts
  have H1 := Lib.hid h1
  have H3 := Lib.hid h3
  have H4 := Lib.hid h4
  have H5 := Lib.hid h5
  clear hf h1 h3 h4 h5
  have HB0 := Lib.hid ((Below.refl w.heap.size w).alloc (Nat.le_refl _) (.cells (cellsO o) 31)).drew
  go_enter Try.func56, Try.ntmps56
  go_wp2
  have hS0 : ∀ k, (w.alloc (.cells (cellsO o) 31)).drew.cell? ⟨w.heap.size, k, none⟩ = (cellsO o)[k]? := cells_all heap_alloc_eq
  refine wp_region_N (fun w' => (∀ k, w'.cell? ⟨w.heap.size, k, none⟩ = (cellsO o)[k]?))
    [(true, 0), (true, 1), (false, 2), (true, 3), (true, 4), (true, 5), (true, 7), (true, 8), (true, 9), (false, 6), (true, 10), (true, 11), (true, 12), (true, 13), (true, 14), (true, 15), (true, 16), (true, 17), (true, 18), (true, 19), (true, 20), (true, 21), (true, 22), (true, 23), (true, 24), (false, 25), (false, 26), (true, 27), (true, 28), (true, 29), (true, 30), (true, 31), (true, 32), (false, 33), (true, 34), (true, 35), (true, 36), (true, 37), (true, 38), (true, 39), (false, 40), (true, 41), (true, 42)] (by kernel_rfl) (by kernel_rfl) rfl (by kernel_rfl) ?_ ?_
  · exact (by assumption)
  simp only [List.filterMap_cons, List.filterMap_nil, List.getElem?_cons_succ, List.getElem?_cons_zero, Option.map_some]
  iterate 2
   apply wpSeq_takeK _ (by first | rfl | (simp [Region.wanted, yielded]; done))
   · intro w' hS
     have s0 := hS
     clear hS
     go_simp
     try rfl
   intro K hK
   go_simp
   refine hK _ ?_
   clear hK K
  refine wpSeq_alone ?_
  (go_wp2_with fail; refine (name_any o.name _ HN.out).mono ?_; rintro e w1 ⟨rfl, rfl⟩; rw [H1.out]; go_wp2)
  refine QS_normal (by assumption) (fun _ => ?_)
  iterate 2
   apply wpSeq_takeK _ (by first | rfl | (simp [Region.wanted, yielded]; done))
   · intro w' hS
     have s0 := hS
     clear hS
     go_simp
     try rfl
   intro K hK
   go_simp
   refine hK _ ?_
   clear hK K
  refine wpSeq_takeK (.agg (cellsO o)) (by first | rfl | (simp [Region.wanted, yielded]; done)) ?_ ?_
  · intro w' hS
    have s0 := hS
    exact exec_loadObj o rfl rfl s0
  iterate 2
   intro K hK
   go_simp
   refine hK _ ?_
   clear hK K
   apply wpSeq_takeK _ (by first | rfl | (simp [Region.wanted, yielded]; done))
   · intro w' hS
     have s0 := hS
     clear hS
     go_simp
     try rfl
  intro K hK
  go_simp
  refine hK _ ?_
  clear hK K
  refine wpSeq_takeK (.agg (cellsO (bareO o.kind))) (by first | rfl | (simp [Region.wanted, yielded]; done)) ?_ ?_
  · intro w' hS
    have s0 := hS
    (clear s0 hS; go_simp; rfl)
  intro K hK
  go_simp
  refine hK _ ?_
  clear hK K
  refine wpSeq_alone ?_
  (go_wp2_with fail; refine (rest_any o _).mono ?_; rintro e w1 ⟨rfl, hb1⟩; have hS1 : ∀ k, w1.cell? ⟨w.heap.size, k, none⟩ = (cellsO o)[k]? := fun k => (hb1.cell (p := ⟨w.heap.size, k, none⟩) (by simp)).trans (hS0 k); have HB1 := Lib.hid ((HB0.out).trans (hb1.mono (HB0.out).size)); have hlt1 := hb1.size; clear hb1; go_wp2)
  refine QS_normal (by assumption) (fun _ => ?_)
  refine wpSeq_takeK (.bool (!decide (restO o = bareO o.kind))) (by first | rfl | (simp [Region.wanted, yielded]; done)) ?_ ?_
  · intro w' hS
    have s0 := hS
    exact exec_neqObj (restO o) (bareO o.kind) rfl rfl rfl
  iterate 14
   intro K hK
   go_simp
   refine hK _ ?_
   clear hK K
   apply wpSeq_takeK _ (by first | rfl | (simp [Region.wanted, yielded]; done))
   · intro w' hS
     have s0 := hS
     clear hS
     go_simp
     try rfl
  intro K hK
  go_simp
  refine hK _ ?_
  clear hK K
  refine wpSeq_alone ?_
  (go_wp2; have hS2 : ∀ k, (w1.alloc (.cells #[.string o.cls, .string o.zone, .string o.node, .string o.claim, .string o.volume, .string o.source] 9)).cell? ⟨w.heap.size, k, none⟩ = (cellsO o)[k]? := fun k => (World.cell?_of_block (heap_alloc_lt (by simp at hlt1 ⊢; omega))).trans (hS1 k); have HB2 := Lib.hid ((HB1.out).alloc (HB1.out).size (.cells #[.string o.cls, .string o.zone, .string o.node, .string o.claim, .string o.volume, .string o.source] 9)))
  refine QS_normal (by assumption) (fun _ => ?_)
  refine wpSeq_alone ?_
  (go_wp2_with fail; refine (names_any (textsO o) w1.heap.size _ (by simp [textsO]) HT.out ?_).mono ?_; (intro j hj; rw [cells_all heap_alloc_eq]; match j, hj with | 0, _ => rfl | 1, _ => rfl | 2, _ => rfl | 3, _ => rfl | 4, _ => rfl | 5, _ => rfl); rintro e w2 ⟨rfl, rfl⟩; rw [H3.out]; go_wp2)
  refine QS_normal (by assumption) (fun _ => ?_)
  iterate 6
   apply wpSeq_takeK _ (by first | rfl | (simp [Region.wanted, yielded]; done))
   · intro w' hS
     have s0 := hS
     clear hS
     go_simp
     try rfl
   intro K hK
   go_simp
   refine hK _ ?_
   clear hK K
  refine wpSeq_alone ?_
  (go_wp2_with fail; refine (size_any o.size _).mono ?_; rintro e w3 ⟨rfl, rfl⟩; rw [H4.out]; go_wp2)
  refine QS_normal (by assumption) (fun _ => ?_)
  iterate 6
   apply wpSeq_takeK _ (by first | rfl | (simp [Region.wanted, yielded]; done))
   · intro w' hS
     have s0 := hS
     clear hS
     go_simp
     try rfl
   intro K hK
   go_simp
   refine hK _ ?_
   clear hK K
  refine wpSeq_alone ?_
  (go_wp2_with fail; refine (size_any o.got _).mono ?_; rintro e w4 ⟨rfl, rfl⟩; rw [H5.out]; go_wp2)
  refine QS_normal (by assumption) (fun _ => ?_)
  iterate 2
   apply wpSeq_takeK _ (by first | rfl | (simp [Region.wanted, yielded]; done))
   · intro w' hS
     have s0 := hS
     clear hS
     go_simp
     try rfl
   intro K hK
   go_simp
   refine hK _ ?_
   clear hK K
  refine wpSeq_end ?_
  clear hS0 hS1
  generalize (w1.alloc (.cells #[.string o.cls, .string o.zone, .string o.node, .string o.claim, .string o.volume, .string o.source] 9)) = W at *
  clear HB0 HB1 hlt1
  have hltW : w.heap.size < W.heap.size := World.block_lt_of_cell? W ⟨w.heap.size, 0, none⟩ ((hS2 0).trans (cellsO_get0 o))
  have hSA : ∀ (a : Go.Obj) k, (W.alloc a).cell? ⟨w.heap.size, k, none⟩ = (cellsO o)[k]? := fun a k => (World.cell?_of_block (w := W) (heap_alloc_lt hltW)).trans (hS2 k)
  have hSB : ∀ (a b : Go.Obj) k, ((W.alloc a).alloc b).cell? ⟨w.heap.size, k, none⟩ = (cellsO o)[k]? := fun a b k => (World.cell?_of_block (w := W.alloc a) (heap_alloc_lt (by simp; omega))).trans (hSA a k)
  have hk := HK.out
  have e1 : (o.kind == 1) = false := by simp [hk]
  have e2 : (o.kind == 2) = false := by simp [hk]
  have e3 : (o.kind == 3) = false := by simp [hk]
  have e4 : (o.kind == 4) = true := by simp [hk]
  clear hk
  have m2 := HM.out
  have m1 : ¬ o.mode = 1 := by omega
  have m1t : (o.mode == 1) = false := by simpa using m1
  have m2t : (o.mode == 2) = true := by simpa using m2
  go_wp2_with fail
  refine (one_any o.phase [3, 5] W.heap.size _ (by simp) (by intro j hj; rw [cells_all heap_alloc_eq]; match j, hj with | 0, _ => rfl | 1, _ => rfl)).mono ?_
  rintro e w5 ⟨rfl, rfl⟩
  cases hO : oneB o.phase [3, 5] with
  | false =>
    by_cases c1 : o.cls.toList = []
    · have c1t : (!o.cls.toList.isEmpty) = false := by simp [c1]
      go_wp2
      all_goals go_ret
      all_goals exact ⟨ret_bool (by first | (simp [kindB, HK.out, nonE, modeB, m1, m2, hO, c1]; done) | (simp [kindB, HK.out, nonE, modeB, m1, m2, hO, c1]; intros; omega)), (HB2.out).alloc (HB2.out).size _⟩
    have c1t : (!o.cls.toList.isEmpty) = true := by simpa using c1
    by_cases c2 : o.zone.toList = []
    · have c2t : (!o.zone.toList.isEmpty) = false := by simp [c2]
      go_wp2
      all_goals go_ret
      all_goals exact ⟨ret_bool (by first | (simp [kindB, HK.out, nonE, modeB, m1, m2, hO, c1, c2]; done) | (simp [kindB, HK.out, nonE, modeB, m1, m2, hO, c1, c2]; intros; omega)), (HB2.out).alloc (HB2.out).size _⟩
    have c2t : (!o.zone.toList.isEmpty) = true := by simpa using c2
    by_cases c3 : ¬ (0 < o.size)
    · have Nc3 := Lib.hid c3
      go_wp2
      all_goals go_ret
      all_goals exact ⟨ret_bool (by have qNc3 := Nc3.out; first | (simp [kindB, HK.out, nonE, modeB, m1, m2, hO, c1, c2, qNc3]; done) | (simp [kindB, HK.out, nonE, modeB, m1, m2, hO, c1, c2, qNc3]; intros; omega)), (HB2.out).alloc (HB2.out).size _⟩
    have c3p : 0 < o.size := by omega
    clear c3
    have Nc3 := Lib.hid c3p
    by_cases c4 : ¬ (0 < o.got)
    · have Nc4 := Lib.hid c4
      go_wp2
      all_goals go_ret
      all_goals exact ⟨ret_bool (by have qNc3 := Nc3.out; have qNc4 := Nc4.out; first | (simp [kindB, HK.out, nonE, modeB, m1, m2, hO, c1, c2, qNc3, qNc4]; done) | (simp [kindB, HK.out, nonE, modeB, m1, m2, hO, c1, c2, qNc3, qNc4]; intros; omega)), (HB2.out).alloc (HB2.out).size _⟩
    have c4p : 0 < o.got := by omega
    clear c4
    have Nc4 := Lib.hid c4p
    go_wp2_with fail
    refine (one_any o.phase [4, 6] (W.heap.size + 1) _ (by simp) (by intro j hj; rw [show W.heap.size + 1 = (W.alloc (.cells #[.int .u8 3, .int .u8 5] 29)).heap.size by simp, cells_all heap_alloc_eq]; match j, hj with | 0, _ => rfl | 1, _ => rfl)).mono ?_
    rintro e w5 ⟨rfl, rfl⟩
    cases hP : oneB o.phase [4, 6] with
    | false =>
      go_wp2
      all_goals go_ret
      all_goals exact ⟨ret_bool (by have qNc3 := Nc3.out; have qNc4 := Nc4.out; first | (simp [kindB, HK.out, nonE, modeB, m1, m2, hO, c1, c2, qNc3, qNc4, hP]; done) | (simp [kindB, HK.out, nonE, modeB, m1, m2, hO, c1, c2, qNc3, qNc4, hP]; intros; omega)), ((HB2.out).alloc (HB2.out).size _).alloc (by have := (HB2.out).size; simp; omega) _⟩
    | true =>
      go_wp2
      all_goals go_ret
      all_goals exact ⟨ret_bool (by have qNc3 := Nc3.out; have qNc4 := Nc4.out; first | (simp [kindB, HK.out, nonE, modeB, m1, m2, hO, c1, c2, qNc3, qNc4, hP]; done) | (simp [kindB, HK.out, nonE, modeB, m1, m2, hO, c1, c2, qNc3, qNc4, hP]; intros; omega)), ((HB2.out).alloc (HB2.out).size _).alloc (by have := (HB2.out).size; simp; omega) _⟩
  | true =>
    by_cases c1 : o.cls.toList = []
    · have c1t : (!o.cls.toList.isEmpty) = false := by simp [c1]
      go_wp2
      all_goals go_ret
      all_goals exact ⟨ret_bool (by first | (simp [kindB, HK.out, nonE, modeB, m1, m2, hO, c1]; done) | (simp [kindB, HK.out, nonE, modeB, m1, m2, hO, c1]; intros; omega)), (HB2.out).alloc (HB2.out).size _⟩
    have c1t : (!o.cls.toList.isEmpty) = true := by simpa using c1
    by_cases c2 : o.zone.toList = []
    · have c2t : (!o.zone.toList.isEmpty) = false := by simp [c2]
      go_wp2
      all_goals go_ret
      all_goals exact ⟨ret_bool (by first | (simp [kindB, HK.out, nonE, modeB, m1, m2, hO, c1, c2]; done) | (simp [kindB, HK.out, nonE, modeB, m1, m2, hO, c1, c2]; intros; omega)), (HB2.out).alloc (HB2.out).size _⟩
    have c2t : (!o.zone.toList.isEmpty) = true := by simpa using c2
    by_cases c3 : ¬ (0 < o.size)
    · have Nc3 := Lib.hid c3
      go_wp2
      all_goals go_ret
      all_goals exact ⟨ret_bool (by have qNc3 := Nc3.out; first | (simp [kindB, HK.out, nonE, modeB, m1, m2, hO, c1, c2, qNc3]; done) | (simp [kindB, HK.out, nonE, modeB, m1, m2, hO, c1, c2, qNc3]; intros; omega)), (HB2.out).alloc (HB2.out).size _⟩
    have c3p : 0 < o.size := by omega
    clear c3
    have Nc3 := Lib.hid c3p
    by_cases c4 : ¬ (0 < o.got)
    · have Nc4 := Lib.hid c4
      go_wp2
      all_goals go_ret
      all_goals exact ⟨ret_bool (by have qNc3 := Nc3.out; have qNc4 := Nc4.out; first | (simp [kindB, HK.out, nonE, modeB, m1, m2, hO, c1, c2, qNc3, qNc4]; done) | (simp [kindB, HK.out, nonE, modeB, m1, m2, hO, c1, c2, qNc3, qNc4]; intros; omega)), (HB2.out).alloc (HB2.out).size _⟩
    have c4p : 0 < o.got := by omega
    clear c4
    have Nc4 := Lib.hid c4p
    by_cases c5 : o.claim.toList = []
    · have c5t : (!o.claim.toList.isEmpty) = false := by simp [c5]
      go_wp2_with fail
      refine (one_any o.phase [4, 6] (W.heap.size + 1) _ (by simp) (by intro j hj; rw [show W.heap.size + 1 = (W.alloc (.cells #[.int .u8 3, .int .u8 5] 29)).heap.size by simp, cells_all heap_alloc_eq]; match j, hj with | 0, _ => rfl | 1, _ => rfl)).mono ?_
      rintro e w5 ⟨rfl, rfl⟩
      cases hP : oneB o.phase [4, 6] with
      | false =>
        go_wp2
        all_goals go_ret
        all_goals exact ⟨ret_bool (by have qNc3 := Nc3.out; have qNc4 := Nc4.out; first | (simp [kindB, HK.out, nonE, modeB, m1, m2, hO, c1, c2, qNc3, qNc4, c5, hP]; done) | (simp [kindB, HK.out, nonE, modeB, m1, m2, hO, c1, c2, qNc3, qNc4, c5, hP]; intros; omega)), ((HB2.out).alloc (HB2.out).size _).alloc (by have := (HB2.out).size; simp; omega) _⟩
      | true =>
        go_wp2
        all_goals go_ret
        all_goals exact ⟨ret_bool (by have qNc3 := Nc3.out; have qNc4 := Nc4.out; first | (simp [kindB, HK.out, nonE, modeB, m1, m2, hO, c1, c2, qNc3, qNc4, c5, hP]; done) | (simp [kindB, HK.out, nonE, modeB, m1, m2, hO, c1, c2, qNc3, qNc4, c5, hP]; intros; omega)), ((HB2.out).alloc (HB2.out).size _).alloc (by have := (HB2.out).size; simp; omega) _⟩
    have c5t : (!o.claim.toList.isEmpty) = true := by simpa using c5
    go_wp2
    all_goals go_ret
    all_goals exact ⟨ret_bool (by have qNc3 := Nc3.out; have qNc4 := Nc4.out; first | (simp [kindB, HK.out, nonE, modeB, m1, m2, hO, c1, c2, qNc3, qNc4, c5]; done) | (simp [kindB, HK.out, nonE, modeB, m1, m2, hO, c1, c2, qNc3, qNc4, c5]; intros; omega)), (HB2.out).alloc (HB2.out).size _⟩


end Go.Proofs.Ytobpohjhhelljaa
