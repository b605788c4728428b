/- Layer 3 (object): which objects are right. -/
import Derived.Test.YtobpohjhhelljaaO4
import Derived.Test.YtobpohjhhelljaaReg
namespace Go.Proofs.Ytobpohjhhelljaa
open Go.RowKit
set_option linter.unusedVariables false
set_option linter.unusedSimpArgs false


def nonE (s : ByteArray) : Bool := !s.toList.isEmpty
def slashIn (s : ByteArray) : Bool := decide (0 ≤ Lib.indexByte s.data.toList 47)
def modeB (m : Int) : Bool := decide (m = 1) || decide (m = 2)
def textsO (o : Obj) : List ByteArray := [o.cls, o.zone, o.node, o.claim, o.volume, o.source]

/-- what is asked of each object -/
def formB (o : Obj) : Bool := nameB o.name && decide (restO o = bareO o.kind) && namesB (textsO o) && sizeB o.size && sizeB o.got
/-- what its kind asks -/
def kindB (o : Obj) : Bool :=
  if o.kind = 1 then true
  else if o.kind = 2 then nonE o.zone && !slashIn o.name
  else if o.kind = 3 then nonE o.cls && decide (0 < o.size) && modeB o.mode && oneB o.phase [1, 2, 3] && ((o.phase == 3) == nonE o.volume)
  else if o.kind = 4 then nonE o.cls && nonE o.zone && decide (0 < o.size) && decide (0 < o.got) && modeB o.mode && ((oneB o.phase [3, 5] && nonE o.claim) || oneB o.phase [4, 6])
  else if o.kind = 5 then nonE o.volume && nonE o.node && !slashIn o.node && decide (o.name = attachN o.volume o.node) && oneB o.phase [7, 8, 9]
  else if o.kind = 6 then nonE o.claim
  else if o.kind = 7 then nonE o.source && oneB o.phase [1, 10, 11, 6]
  else false
def rightB (o : Obj) : Bool := formB o && kindB o

theorem names_attach {o : Obj} (h : namesB (textsO o) = true) : o.volume.size + o.node.size + 1 ≤ 140737488355328 := by
  have h1 := names_le h o.volume (by simp [textsO])
  have h2 := names_le h o.node (by simp [textsO])
  omega

/-- each text is short enough to be one -/
structure Obj.Fits (o : Obj) : Prop where
  name : o.name.size ≤ maxLen
  texts : ∀ s ∈ textsO o, s.size ≤ maxLen

set_option maxRecDepth 100000 in
set_option maxHeartbeats 20000000 in
theorem right_bad0 (o : Obj) (w : World) (hf : o.Fits) (h1 : nameB o.name = false) :
    Calls Try.prog 56 #[.agg (cellsO o)] w fun e w' => e = .returned (.bool false) ∧ Below w.heap.size w w' := by
  have HN := Lib.hid hf.name
  have HT := Lib.hid hf.texts
  have H1 := Lib.hid h1
  clear hf h1
  have HB0 := Lib.hid ((Below.refl w.heap.size w).alloc (Nat.le_refl _) (.cells (cellsO o) 31)).drew
  go_enter Try.func56, Try.ntmps56
  go_wp2
  have hS0 : ∀ k, (w.alloc (.cells (cellsO o) 31)).drew.cell? ⟨w.heap.size, k, none⟩ = (cellsO o)[k]? := cells_all heap_alloc_eq
  refine wp_region_N (fun w' => (∀ k, w'.cell? ⟨w.heap.size, k, none⟩ = (cellsO o)[k]?))
    [(true, 0), (true, 1), (false, 2), (true, 3), (true, 4), (true, 5), (true, 7), (true, 8), (true, 9), (false, 6), (true, 10), (true, 11), (true, 12), (true, 13), (true, 14), (true, 15), (true, 16), (true, 17), (true, 18), (true, 19), (true, 20), (true, 21), (true, 22), (true, 23), (true, 24), (false, 25), (false, 26), (true, 27), (true, 28), (true, 29), (true, 30), (true, 31), (true, 32), (false, 33), (true, 34), (true, 35), (true, 36), (true, 37), (true, 38), (true, 39), (false, 40), (true, 41), (true, 42)] (by kernel_rfl) (by kernel_rfl) rfl (by kernel_rfl) ?_ ?_
  · exact (by assumption)
  simp only [List.filterMap_cons, List.filterMap_nil, List.getElem?_cons_succ, List.getElem?_cons_zero, Option.map_some]
  iterate 2
   apply wpSeq_takeK _ (by first | rfl | (simp [Region.wanted, yielded]; done))
   · intro w' hS
     have s0 := hS
     clear hS
     go_simp
     try rfl
   intro K hK
   go_simp
   refine hK _ ?_
   clear hK K
  refine wpSeq_alone ?_
  (go_wp2_with fail; refine (name_any o.name _ HN.out).mono ?_; rintro e w1 ⟨rfl, rfl⟩; rw [H1.out]; go_wp2)
  refine QS_normal (by assumption) (fun _ => ?_)
  iterate 2
   apply wpSeq_takeK _ (by first | rfl | (simp [Region.wanted, yielded]; done))
   · intro w' hS
     have s0 := hS
     clear hS
     go_simp
     try rfl
   intro K hK
   go_simp
   refine hK _ ?_
   clear hK K
  iterate 4
   refine wpSeq_skipT (by first | rfl | (simp [Region.wanted, yielded]; done)) ?_
   intro K hK
   go_simp
   refine hK _ ?_
   clear hK K
  refine wpSeq_skipA (by first | rfl | (simp [Region.wanted, yielded]; done)) (by assumption) ?_
  intro K hK
  go_simp
  refine hK _ ?_
  clear hK K
  refine wpSeq_skipT (by first | rfl | (simp [Region.wanted, yielded]; done)) ?_
  iterate 2
   intro K hK
   go_simp
   refine hK _ ?_
   clear hK K
   apply wpSeq_takeK _ (by first | rfl | (simp [Region.wanted, yielded]; done))
   · intro w' hS
     have s0 := hS
     clear hS
     go_simp
     try rfl
  iterate 12
   intro K hK
   go_simp
   refine hK _ ?_
   clear hK K
   refine wpSeq_skipT (by first | rfl | (simp [Region.wanted, yielded]; done)) ?_
  iterate 2
   intro K hK
   go_simp
   refine hK _ ?_
   clear hK K
   refine wpSeq_skipA (by first | rfl | (simp [Region.wanted, yielded]; done)) (by assumption) ?_
  intro K hK
  go_simp
  refine hK _ ?_
  clear hK K
  refine wpSeq_skipT (by first | rfl | (simp [Region.wanted, yielded]; done)) ?_
  iterate 2
   intro K hK
   go_simp
   refine hK _ ?_
   clear hK K
   apply wpSeq_takeK _ (by first | rfl | (simp [Region.wanted, yielded]; done))
   · intro w' hS
     have s0 := hS
     clear hS
     go_simp
     try rfl
  iterate 3
   intro K hK
   go_simp
   refine hK _ ?_
   clear hK K
   refine wpSeq_skipT (by first | rfl | (simp [Region.wanted, yielded]; done)) ?_
  intro K hK
  go_simp
  refine hK _ ?_
  clear hK K
  refine wpSeq_skipA (by first | rfl | (simp [Region.wanted, yielded]; done)) (by assumption) ?_
  intro K hK
  go_simp
  refine hK _ ?_
  clear hK K
  refine wpSeq_skipT (by first | rfl | (simp [Region.wanted, yielded]; done)) ?_
  iterate 2
   intro K hK
   go_simp
   refine hK _ ?_
   clear hK K
   apply wpSeq_takeK _ (by first | rfl | (simp [Region.wanted, yielded]; done))
   · intro w' hS
     have s0 := hS
     clear hS
     go_simp
     try rfl
  iterate 3
   intro K hK
   go_simp
   refine hK _ ?_
   clear hK K
   refine wpSeq_skipT (by first | rfl | (simp [Region.wanted, yielded]; done)) ?_
  intro K hK
  go_simp
  refine hK _ ?_
  clear hK K
  refine wpSeq_skipA (by first | rfl | (simp [Region.wanted, yielded]; done)) (by assumption) ?_
  intro K hK
  go_simp
  refine hK _ ?_
  clear hK K
  refine wpSeq_skipT (by first | rfl | (simp [Region.wanted, yielded]; done)) ?_
  intro K hK
  go_simp
  refine hK _ ?_
  clear hK K
  apply wpSeq_takeK _ (by first | rfl | (simp [Region.wanted, yielded]; done))
  · intro w' hS
    have s0 := hS
    clear hS
    go_simp
    try rfl
  intro K hK
  go_simp
  refine hK _ ?_
  clear hK K
  refine wpSeq_end ?_
  go_wp2
  go_ret
  exact ⟨rfl, (HB0.out)⟩

set_option maxRecDepth 100000 in
set_option maxHeartbeats 20000000 in
theorem right_bad1 (o : Obj) (w : World) (hf : o.Fits) (h1 : nameB o.name = true) (h2 : decide (restO o = bareO o.kind) = false) :
    Calls Try.prog 56 #[.agg (cellsO o)] w fun e w' => e = .returned (.bool false) ∧ Below w.heap.size w w' := by
  have HN := Lib.hid hf.name
  have HT := Lib.hid hf.texts
  have H1 := Lib.hid h1
  clear hf h1
  have HB0 := Lib.hid ((Below.refl w.heap.size w).alloc (Nat.le_refl _) (.cells (cellsO o) 31)).drew
  go_enter Try.func56, Try.ntmps56
  go_wp2
  have hS0 : ∀ k, (w.alloc (.cells (cellsO o) 31)).drew.cell? ⟨w.heap.size, k, none⟩ = (cellsO o)[k]? := cells_all heap_alloc_eq
  refine wp_region_N (fun w' => (∀ k, w'.cell? ⟨w.heap.size, k, none⟩ = (cellsO o)[k]?))
    [(true, 0), (true, 1), (false, 2), (true, 3), (true, 4), (true, 5), (true, 7), (true, 8), (true, 9), (false, 6), (true, 10), (true, 11), (true, 12), (true, 13), (true, 14), (true, 15), (true, 16), (true, 17), (true, 18), (true, 19), (true, 20), (true, 21), (true, 22), (true, 23), (true, 24), (false, 25), (false, 26), (true, 27), (true, 28), (true, 29), (true, 30), (true, 31), (true, 32), (false, 33), (true, 34), (true, 35), (true, 36), (true, 37), (true, 38), (true, 39), (false, 40), (true, 41), (true, 42)] (by kernel_rfl) (by kernel_rfl) rfl (by kernel_rfl) ?_ ?_
  · exact (by assumption)
  simp only [List.filterMap_cons, List.filterMap_nil, List.getElem?_cons_succ, List.getElem?_cons_zero, Option.map_some]
  iterate 2
   apply wpSeq_takeK _ (by first | rfl | (simp [Region.wanted, yielded]; done))
   · intro w' hS
     have s0 := hS
     clear hS
     go_simp
     try rfl
   intro K hK
   go_simp
   refine hK _ ?_
   clear hK K
  refine wpSeq_alone ?_
  (go_wp2_with fail; refine (name_any o.name _ HN.out).mono ?_; rintro e w1 ⟨rfl, rfl⟩; rw [H1.out]; go_wp2)
  refine QS_normal (by assumption) (fun _ => ?_)
  iterate 2
   apply wpSeq_takeK _ (by first | rfl | (simp [Region.wanted, yielded]; done))
   · intro w' hS
     have s0 := hS
     clear hS
     go_simp
     try rfl
   intro K hK
   go_simp
   refine hK _ ?_
   clear hK K
  refine wpSeq_takeK (.agg (cellsO o)) (by first | rfl | (simp [Region.wanted, yielded]; done)) ?_ ?_
  · intro w' hS
    have s0 := hS
    exact exec_loadObj o rfl rfl s0
  iterate 2
   intro K hK
   go_simp
   refine hK _ ?_
   clear hK K
   apply wpSeq_takeK _ (by first | rfl | (simp [Region.wanted, yielded]; done))
   · intro w' hS
     have s0 := hS
     clear hS
     go_simp
     try rfl
  intro K hK
  go_simp
  refine hK _ ?_
  clear hK K
  refine wpSeq_takeK (.agg (cellsO (bareO o.kind))) (by first | rfl | (simp [Region.wanted, yielded]; done)) ?_ ?_
  · intro w' hS
    have s0 := hS
    (clear s0 hS; go_simp; rfl)
  intro K hK
  go_simp
  refine hK _ ?_
  clear hK K
  refine wpSeq_alone ?_
  (go_wp2_with fail; refine (rest_any o _).mono ?_; rintro e w1 ⟨rfl, hb1⟩; have hS1 : ∀ k, w1.cell? ⟨w.heap.size, k, none⟩ = (cellsO o)[k]? := fun k => (hb1.cell (p := ⟨w.heap.size, k, none⟩) (by simp)).trans (hS0 k); have HB1 := Lib.hid ((HB0.out).trans (hb1.mono (HB0.out).size)); have hlt1 := hb1.size; clear hb1; go_wp2)
  refine QS_normal (by assumption) (fun _ => ?_)
  refine wpSeq_takeK (.bool (!decide (restO o = bareO o.kind))) (by first | rfl | (simp [Region.wanted, yielded]; done)) ?_ ?_
  · intro w' hS
    have s0 := hS
    exact exec_neqObj (restO o) (bareO o.kind) rfl rfl rfl
  iterate 2
   intro K hK
   go_simp
   refine hK _ ?_
   clear hK K
   apply wpSeq_takeK _ (by first | rfl | (simp [Region.wanted, yielded]; done))
   · intro w' hS
     have s0 := hS
     clear hS
     go_simp
     try rfl
  iterate 12
   intro K hK
   go_simp
   refine hK _ ?_
   clear hK K
   refine wpSeq_skipT (by first | rfl | (simp [Region.wanted, yielded]; done)) ?_
  iterate 2
   intro K hK
   go_simp
   refine hK _ ?_
   clear hK K
   refine wpSeq_skipA (by first | rfl | (simp [Region.wanted, yielded]; done)) (by assumption) ?_
  intro K hK
  go_simp
  refine hK _ ?_
  clear hK K
  refine wpSeq_skipT (by first | rfl | (simp [Region.wanted, yielded]; done)) ?_
  iterate 2
   intro K hK
   go_simp
   refine hK _ ?_
   clear hK K
   apply wpSeq_takeK _ (by first | rfl | (simp [Region.wanted, yielded]; done))
   · intro w' hS
     have s0 := hS
     clear hS
     go_simp
     try rfl
  iterate 3
   intro K hK
   go_simp
   refine hK _ ?_
   clear hK K
   refine wpSeq_skipT (by first | rfl | (simp [Region.wanted, yielded]; done)) ?_
  intro K hK
  go_simp
  refine hK _ ?_
  clear hK K
  refine wpSeq_skipA (by first | rfl | (simp [Region.wanted, yielded]; done)) (by assumption) ?_
  intro K hK
  go_simp
  refine hK _ ?_
  clear hK K
  refine wpSeq_skipT (by first | rfl | (simp [Region.wanted, yielded]; done)) ?_
  iterate 2
   intro K hK
   go_simp
   refine hK _ ?_
   clear hK K
   apply wpSeq_takeK _ (by first | rfl | (simp [Region.wanted, yielded]; done))
   · intro w' hS
     have s0 := hS
     clear hS
     go_simp
     try rfl
  iterate 3
   intro K hK
   go_simp
   refine hK _ ?_
   clear hK K
   refine wpSeq_skipT (by first | rfl | (simp [Region.wanted, yielded]; done)) ?_
  intro K hK
  go_simp
  refine hK _ ?_
  clear hK K
  refine wpSeq_skipA (by first | rfl | (simp [Region.wanted, yielded]; done)) (by assumption) ?_
  intro K hK
  go_simp
  refine hK _ ?_
  clear hK K
  refine wpSeq_skipT (by first | rfl | (simp [Region.wanted, yielded]; done)) ?_
  intro K hK
  go_simp
  refine hK _ ?_
  clear hK K
  apply wpSeq_takeK _ (by first | rfl | (simp [Region.wanted, yielded]; done))
  · intro w' hS
    have s0 := hS
    clear hS
    go_simp
    try rfl
  intro K hK
  go_simp
  refine hK _ ?_
  clear hK K
  refine wpSeq_end ?_
  go_wp2
  go_ret
  exact ⟨rfl, (HB1.out)⟩

set_option maxRecDepth 100000 in
set_option maxHeartbeats 20000000 in
theorem right_bad2 (o : Obj) (w : World) (hf : o.Fits) (h1 : nameB o.name = true) (h2 : decide (restO o = bareO o.kind) = true) (h3 : namesB (textsO o) = false) :
    Calls Try.prog 56 #[.agg (cellsO o)] w fun e w' => e = .returned (.bool false) ∧ Below w.heap.size w w' := by
  have HN := Lib.hid hf.name
  have HT := Lib.hid hf.texts
  have H1 := Lib.hid h1
  have H3 := Lib.hid h3
  clear hf h1 h3
  have HB0 := Lib.hid ((Below.refl w.heap.size w).alloc (Nat.le_refl _) (.cells (cellsO o) 31)).drew
  go_enter Try.func56, Try.ntmps56
  go_wp2
  have hS0 : ∀ k, (w.alloc (.cells (cellsO o) 31)).drew.cell? ⟨w.heap.size, k, none⟩ = (cellsO o)[k]? := cells_all heap_alloc_eq
  refine wp_region_N (fun w' => (∀ k, w'.cell? ⟨w.heap.size, k, none⟩ = (cellsO o)[k]?))
    [(true, 0), (true, 1), (false, 2), (true, 3), (true, 4), (true, 5), (true, 7), (true, 8), (true, 9), (false, 6), (true, 10), (true, 11), (true, 12), (true, 13), (true, 14), (true, 15), (true, 16), (true, 17), (true, 18), (true, 19), (true, 20), (true, 21), (true, 22), (true, 23), (true, 24), (false, 25), (false, 26), (true, 27), (true, 28), (true, 29), (true, 30), (true, 31), (true, 32), (false, 33), (true, 34), (true, 35), (true, 36), (true, 37), (true, 38), (true, 39), (false, 40), (true, 41), (true, 42)] (by kernel_rfl) (by kernel_rfl) rfl (by kernel_rfl) ?_ ?_
  · exact (by assumption)
  simp only [List.filterMap_cons, List.filterMap_nil, List.getElem?_cons_succ, List.getElem?_cons_zero, Option.map_some]
  iterate 2
   apply wpSeq_takeK _ (by first | rfl | (simp [Region.wanted, yielded]; done))
   · intro w' hS
     have s0 := hS
     clear hS
     go_simp
     try rfl
   intro K hK
   go_simp
   refine hK _ ?_
   clear hK K
  refine wpSeq_alone ?_
  (go_wp2_with fail; refine (name_any o.name _ HN.out).mono ?_; rintro e w1 ⟨rfl, rfl⟩; rw [H1.out]; go_wp2)
  refine QS_normal (by assumption) (fun _ => ?_)
  iterate 2
   apply wpSeq_takeK _ (by first | rfl | (simp [Region.wanted, yielded]; done))
   · intro w' hS
     have s0 := hS
     clear hS
     go_simp
     try rfl
   intro K hK
   go_simp
   refine hK _ ?_
   clear hK K
  refine wpSeq_takeK (.agg (cellsO o)) (by first | rfl | (simp [Region.wanted, yielded]; done)) ?_ ?_
  · intro w' hS
    have s0 := hS
    exact exec_loadObj o rfl rfl s0
  iterate 2
   intro K hK
   go_simp
   refine hK _ ?_
   clear hK K
   apply wpSeq_takeK _ (by first | rfl | (simp [Region.wanted, yielded]; done))
   · intro w' hS
     have s0 := hS
     clear hS
     go_simp
     try rfl
  intro K hK
  go_simp
  refine hK _ ?_
  clear hK K
  refine wpSeq_takeK (.agg (cellsO (bareO o.kind))) (by first | rfl | (simp [Region.wanted, yielded]; done)) ?_ ?_
  · intro w' hS
    have s0 := hS
    (clear s0 hS; go_simp; rfl)
  intro K hK
  go_simp
  refine hK _ ?_
  clear hK K
  refine wpSeq_alone ?_
  (go_wp2_with fail; refine (rest_any o _).mono ?_; rintro e w1 ⟨rfl, hb1⟩; have hS1 : ∀ k, w1.cell? ⟨w.heap.size, k, none⟩ = (cellsO o)[k]? := fun k => (hb1.cell (p := ⟨w.heap.size, k, none⟩) (by simp)).trans (hS0 k); have HB1 := Lib.hid ((HB0.out).trans (hb1.mono (HB0.out).size)); have hlt1 := hb1.size; clear hb1; go_wp2)
  refine QS_normal (by assumption) (fun _ => ?_)
  refine wpSeq_takeK (.bool (!decide (restO o = bareO o.kind))) (by first | rfl | (simp [Region.wanted, yielded]; done)) ?_ ?_
  · intro w' hS
    have s0 := hS
    exact exec_neqObj (restO o) (bareO o.kind) rfl rfl rfl
  iterate 14
   intro K hK
   go_simp
   refine hK _ ?_
   clear hK K
   apply wpSeq_takeK _ (by first | rfl | (simp [Region.wanted, yielded]; done))
   · intro w' hS
     have s0 := hS
     clear hS
     go_simp
     try rfl
  intro K hK
  go_simp
  refine hK _ ?_
  clear hK K
  refine wpSeq_alone ?_
  (go_wp2; have hS2 : ∀ k, (w1.alloc (.cells #[.string o.cls, .string o.zone, .string o.node, .string o.claim, .string o.volume, .string o.source] 9)).cell? ⟨w.heap.size, k, none⟩ = (cellsO o)[k]? := fun k => (World.cell?_of_block (heap_alloc_lt (by simp at hlt1 ⊢; omega))).trans (hS1 k); have HB2 := Lib.hid ((HB1.out).alloc (HB1.out).size (.cells #[.string o.cls, .string o.zone, .string o.node, .string o.claim, .string o.volume, .string o.source] 9)))
  refine QS_normal (by assumption) (fun _ => ?_)
  refine wpSeq_alone ?_
  (go_wp2_with fail; refine (names_any (textsO o) w1.heap.size _ (by simp [textsO]) HT.out ?_).mono ?_; (intro j hj; rw [cells_all heap_alloc_eq]; match j, hj with | 0, _ => rfl | 1, _ => rfl | 2, _ => rfl | 3, _ => rfl | 4, _ => rfl | 5, _ => rfl); rintro e w2 ⟨rfl, rfl⟩; rw [H3.out]; go_wp2)
  refine QS_normal (by assumption) (fun _ => ?_)
  iterate 3
   apply wpSeq_takeK _ (by first | rfl | (simp [Region.wanted, yielded]; done))
   · intro w' hS
     have s0 := hS
     clear hS
     go_simp
     try rfl
   intro K hK
   go_simp
   refine hK _ ?_
   clear hK K
  iterate 3
   refine wpSeq_skipT (by first | rfl | (simp [Region.wanted, yielded]; done)) ?_
   intro K hK
   go_simp
   refine hK _ ?_
   clear hK K
  refine wpSeq_skipA (by first | rfl | (simp [Region.wanted, yielded]; done)) (by assumption) ?_
  intro K hK
  go_simp
  refine hK _ ?_
  clear hK K
  refine wpSeq_skipT (by first | rfl | (simp [Region.wanted, yielded]; done)) ?_
  iterate 2
   intro K hK
   go_simp
   refine hK _ ?_
   clear hK K
   apply wpSeq_takeK _ (by first | rfl | (simp [Region.wanted, yielded]; done))
   · intro w' hS
     have s0 := hS
     clear hS
     go_simp
     try rfl
  iterate 3
   intro K hK
   go_simp
   refine hK _ ?_
   clear hK K
   refine wpSeq_skipT (by first | rfl | (simp [Region.wanted, yielded]; done)) ?_
  intro K hK
  go_simp
  refine hK _ ?_
  clear hK K
  refine wpSeq_skipA (by first | rfl | (simp [Region.wanted, yielded]; done)) (by assumption) ?_
  intro K hK
  go_simp
  refine hK _ ?_
  clear hK K
  refine wpSeq_skipT (by first | rfl | (simp [Region.wanted, yielded]; done)) ?_
  intro K hK
  go_simp
  refine hK _ ?_
  clear hK K
  apply wpSeq_takeK _ (by first | rfl | (simp [Region.wanted, yielded]; done))
  · intro w' hS
    have s0 := hS
    clear hS
    go_simp
    try rfl
  intro K hK
  go_simp
  refine hK _ ?_
  clear hK K
  refine wpSeq_end ?_
  go_wp2
  go_ret
  exact ⟨rfl, (HB2.out)⟩

set_option maxRecDepth 100000 in
set_option maxHeartbeats 20000000 in
theorem right_bad3 (o : Obj) (w : World) (hf : o.Fits) (h1 : nameB o.name = true) (h2 : decide (restO o = bareO o.kind) = true) (h3 : namesB (textsO o) = true) (h4 : sizeB o.size = false) :
    Calls Try.prog 56 #[.agg (cellsO o)] w fun e w' => e = .returned (.bool false) ∧ Below w.heap.size w w' := by
  have HN := Lib.hid hf.name
  have HT := Lib.hid hf.texts
  have H1 := Lib.hid h1
  have H3 := Lib.hid h3
  have H4 := Lib.hid h4
  clear hf h1 h3 h4
  have HB0 := Lib.hid ((Below.refl w.heap.size w).alloc (Nat.le_refl _) (.cells (cellsO o) 31)).drew
  go_enter Try.func56, Try.ntmps56
  go_wp2
  have hS0 : ∀ k, (w.alloc (.cells (cellsO o) 31)).drew.cell? ⟨w.heap.size, k, none⟩ = (cellsO o)[k]? := cells_all heap_alloc_eq
  refine wp_region_N (fun w' => (∀ k, w'.cell? ⟨w.heap.size, k, none⟩ = (cellsO o)[k]?))
    [(true, 0), (true, 1), (false, 2), (true, 3), (true, 4), (true, 5), (true, 7), (true, 8), (true, 9), (false, 6), (true, 10), (true, 11), (true, 12), (true, 13), (true, 14), (true, 15), (true, 16), (true, 17), (true, 18), (true, 19), (true, 20), (true, 21), (true, 22), (true, 23), (true, 24), (false, 25), (false, 26), (true, 27), (true, 28), (true, 29), (true, 30), (true, 31), (true, 32), (false, 33), (true, 34), (true, 35), (true, 36), (true, 37), (true, 38), (true, 39), (false, 40), (true, 41), (true, 42)] (by kernel_rfl) (by kernel_rfl) rfl (by kernel_rfl) ?_ ?_
  · exact (by assumption)
  simp only [List.filterMap_cons, List.filterMap_nil, List.getElem?_cons_succ, List.getElem?_cons_zero, Option.map_some]
  iterate 2
   apply wpSeq_takeK _ (by first | rfl | (simp [Region.wanted, yielded]; done))
   · intro w' hS
     have s0 := hS
     clear hS
     go_simp
     try rfl
   intro K hK
   go_simp
   refine hK _ ?_
   clear hK K
  refine wpSeq_alone ?_
  (go_wp2_with fail; refine (name_any o.name _ HN.out).mono ?_; rintro e w1 ⟨rfl, rfl⟩; rw [H1.out]; go_wp2)
  refine QS_normal (by assumption) (fun _ => ?_)
  iterate 2
   apply wpSeq_takeK _ (by first | rfl | (simp [Region.wanted, yielded]; done))
   · intro w' hS
     have s0 := hS
     clear hS
     go_simp
     try rfl
   intro K hK
   go_simp
   refine hK _ ?_
   clear hK K
  refine wpSeq_takeK (.agg (cellsO o)) (by first | rfl | (simp [Region.wanted, yielded]; done)) ?_ ?_
  · intro w' hS
    have s0 := hS
    exact exec_loadObj o rfl rfl s0
  iterate 2
   intro K hK
   go_simp
   refine hK _ ?_
   clear hK K
   apply wpSeq_takeK _ (by first | rfl | (simp [Region.wanted, yielded]; done))
   · intro w' hS
     have s0 := hS
     clear hS
     go_simp
     try rfl
  intro K hK
  go_simp
  refine hK _ ?_
  clear hK K
  refine wpSeq_takeK (.agg (cellsO (bareO o.kind))) (by first | rfl | (simp [Region.wanted, yielded]; done)) ?_ ?_
  · intro w' hS
    have s0 := hS
    (clear s0 hS; go_simp; rfl)
  intro K hK
  go_simp
  refine hK _ ?_
  clear hK K
  refine wpSeq_alone ?_
  (go_wp2_with fail; refine (rest_any o _).mono ?_; rintro e w1 ⟨rfl, hb1⟩; have hS1 : ∀ k, w1.cell? ⟨w.heap.size, k, none⟩ = (cellsO o)[k]? := fun k => (hb1.cell (p := ⟨w.heap.size, k, none⟩) (by simp)).trans (hS0 k); have HB1 := Lib.hid ((HB0.out).trans (hb1.mono (HB0.out).size)); have hlt1 := hb1.size; clear hb1; go_wp2)
  refine QS_normal (by assumption) (fun _ => ?_)
  refine wpSeq_takeK (.bool (!decide (restO o = bareO o.kind))) (by first | rfl | (simp [Region.wanted, yielded]; done)) ?_ ?_
  · intro w' hS
    have s0 := hS
    exact exec_neqObj (restO o) (bareO o.kind) rfl rfl rfl
  iterate 14
   intro K hK
   go_simp
   refine hK _ ?_
   clear hK K
   apply wpSeq_takeK _ (by first | rfl | (simp [Region.wanted, yielded]; done))
   · intro w' hS
     have s0 := hS
     clear hS
     go_simp
     try rfl
  intro K hK
  go_simp
  refine hK _ ?_
  clear hK K
  refine wpSeq_alone ?_
  (go_wp2; have hS2 : ∀ k, (w1.alloc (.cells #[.string o.cls, .string o.zone, .string o.node, .string o.claim, .string o.volume, .string o.source] 9)).cell? ⟨w.heap.size, k, none⟩ = (cellsO o)[k]? := fun k => (World.cell?_of_block (heap_alloc_lt (by simp at hlt1 ⊢; omega))).trans (hS1 k); have HB2 := Lib.hid ((HB1.out).alloc (HB1.out).size (.cells #[.string o.cls, .string o.zone, .string o.node, .string o.claim, .string o.volume, .string o.source] 9)))
  refine QS_normal (by assumption) (fun _ => ?_)
  refine wpSeq_alone ?_
  (go_wp2_with fail; refine (names_any (textsO o) w1.heap.size _ (by simp [textsO]) HT.out ?_).mono ?_; (intro j hj; rw [cells_all heap_alloc_eq]; match j, hj with | 0, _ => rfl | 1, _ => rfl | 2, _ => rfl | 3, _ => rfl | 4, _ => rfl | 5, _ => rfl); rintro e w2 ⟨rfl, rfl⟩; rw [H3.out]; go_wp2)
  refine QS_normal (by assumption) (fun _ => ?_)
  iterate 6
   apply wpSeq_takeK _ (by first | rfl | (simp [Region.wanted, yielded]; done))
   · intro w' hS
     have s0 := hS
     clear hS
     go_simp
     try rfl
   intro K hK
   go_simp
   refine hK _ ?_
   clear hK K
  refine wpSeq_alone ?_
  (go_wp2_with fail; refine (size_any o.size _).mono ?_; rintro e w3 ⟨rfl, rfl⟩; rw [H4.out]; go_wp2)
  refine QS_normal (by assumption) (fun _ => ?_)
  iterate 3
   apply wpSeq_takeK _ (by first | rfl | (simp [Region.wanted, yielded]; done))
   · intro w' hS
     have s0 := hS
     clear hS
     go_simp
     try rfl
   intro K hK
   go_simp
   refine hK _ ?_
   clear hK K
  iterate 3
   refine wpSeq_skipT (by first | rfl | (simp [Region.wanted, yielded]; done)) ?_
   intro K hK
   go_simp
   refine hK _ ?_
   clear hK K
  refine wpSeq_skipA (by first | rfl | (simp [Region.wanted, yielded]; done)) (by assumption) ?_
  intro K hK
  go_simp
  refine hK _ ?_
  clear hK K
  refine wpSeq_skipT (by first | rfl | (simp [Region.wanted, yielded]; done)) ?_
  intro K hK
  go_simp
  refine hK _ ?_
  clear hK K
  apply wpSeq_takeK _ (by first | rfl | (simp [Region.wanted, yielded]; done))
  · intro w' hS
    have s0 := hS
    clear hS
    go_simp
    try rfl
  intro K hK
  go_simp
  refine hK _ ?_
  clear hK K
  refine wpSeq_end ?_
  go_wp2
  go_ret
  exact ⟨rfl, (HB2.out)⟩

set_option maxRecDepth 100000 in
set_option maxHeartbeats 20000000 in
theorem right_bad4 (o : Obj) (w : World) (hf : o.Fits) (h1 : nameB o.name = true) (h2 : decide (restO o = bareO o.kind) = true) (h3 : namesB (textsO o) = true) (h4 : sizeB o.size = true) (h5 : sizeB o.got = false) :
    Calls Try.prog 56 #[.agg (cellsO o)] w fun e w' => e = .returned (.bool false) ∧ Below w.heap.size w w' := by
  have HN := Lib.hid hf.name
  have HT := Lib.hid hf.texts
  have H1 := Lib.hid h1
  have H3 := Lib.hid h3
  have H4 := Lib.hid h4
  have H5 := Lib.hid h5
  clear hf h1 h3 h4 h5
  have HB0 := Lib.hid ((Below.refl w.heap.size w).alloc (Nat.le_refl _) (.cells (cellsO o) 31)).drew
  go_enter Try.func56, Try.ntmps56
  go_wp2
  have hS0 : ∀ k, (w.alloc (.cells (cellsO o) 31)).drew.cell? ⟨w.heap.size, k, none⟩ = (cellsO o)[k]? := cells_all heap_alloc_eq
  refine wp_region_N (fun w' => (∀ k, w'.cell? ⟨w.heap.size, k, none⟩ = (cellsO o)[k]?))
    [(true, 0), (true, 1), (false, 2), (true, 3), (true, 4), (true, 5), (true, 7), (true, 8), (true, 9), (false, 6), (true, 10), (true, 11), (true, 12), (true, 13), (true, 14), (true, 15), (true, 16), (true, 17), (true, 18), (true, 19), (true, 20), (true, 21), (true, 22), (true, 23), (true, 24), (false, 25), (false, 26), (true, 27), (true, 28), (true, 29), (true, 30), (true, 31), (true, 32), (false, 33), (true, 34), (true, 35), (true, 36), (true, 37), (true, 38), (true, 39), (false, 40), (true, 41), (true, 42)] (by kernel_rfl) (by kernel_rfl) rfl (by kernel_rfl) ?_ ?_
  · exact (by assumption)
  simp only [List.filterMap_cons, List.filterMap_nil, List.getElem?_cons_succ, List.getElem?_cons_zero, Option.map_some]
  iterate 2
   apply wpSeq_takeK _ (by first | rfl | (simp [Region.wanted, yielded]; done))
   · intro w' hS
     have s0 := hS
     clear hS
     go_simp
     try rfl
   intro K hK
   go_simp
   refine hK _ ?_
   clear hK K
  refine wpSeq_alone ?_
  (go_wp2_with fail; refine (name_any o.name _ HN.out).mono ?_; rintro e w1 ⟨rfl, rfl⟩; rw [H1.out]; go_wp2)
  refine QS_normal (by assumption) (fun _ => ?_)
  iterate 2
   apply wpSeq_takeK _ (by first | rfl | (simp [Region.wanted, yielded]; done))
   · intro w' hS
     have s0 := hS
     clear hS
     go_simp
     try rfl
   intro K hK
   go_simp
   refine hK _ ?_
   clear hK K
  refine wpSeq_takeK (.agg (cellsO o)) (by first | rfl | (simp [Region.wanted, yielded]; done)) ?_ ?_
  · intro w' hS
    have s0 := hS
    exact exec_loadObj o rfl rfl s0
  iterate 2
   intro K hK
   go_simp
   refine hK _ ?_
   clear hK K
   apply wpSeq_takeK _ (by first | rfl | (simp [Region.wanted, yielded]; done))
   · intro w' hS
     have s0 := hS
     clear hS
     go_simp
     try rfl
  intro K hK
  go_simp
  refine hK _ ?_
  clear hK K
  refine wpSeq_takeK (.agg (cellsO (bareO o.kind))) (by first | rfl | (simp [Region.wanted, yielded]; done)) ?_ ?_
  · intro w' hS
    have s0 := hS
    (clear s0 hS; go_simp; rfl)
  intro K hK
  go_simp
  refine hK _ ?_
  clear hK K
  refine wpSeq_alone ?_
  (go_wp2_with fail; refine (rest_any o _).mono ?_; rintro e w1 ⟨rfl, hb1⟩; have hS1 : ∀ k, w1.cell? ⟨w.heap.size, k, none⟩ = (cellsO o)[k]? := fun k => (hb1.cell (p := ⟨w.heap.size, k, none⟩) (by simp)).trans (hS0 k); have HB1 := Lib.hid ((HB0.out).trans (hb1.mono (HB0.out).size)); have hlt1 := hb1.size; clear hb1; go_wp2)
  refine QS_normal (by assumption) (fun _ => ?_)
  refine wpSeq_takeK (.bool (!decide (restO o = bareO o.kind))) (by first | rfl | (simp [Region.wanted, yielded]; done)) ?_ ?_
  · intro w' hS
    have s0 := hS
    exact exec_neqObj (restO o) (bareO o.kind) rfl rfl rfl
  iterate 14
   intro K hK
   go_simp
   refine hK _ ?_
   clear hK K
   apply wpSeq_takeK _ (by first | rfl | (simp [Region.wanted, yielded]; done))
   · intro w' hS
     have s0 := hS
     clear hS
     go_simp
     try rfl
  intro K hK
  go_simp
  refine hK _ ?_
  clear hK K
  refine wpSeq_alone ?_
  (go_wp2; have hS2 : ∀ k, (w1.alloc (.cells #[.string o.cls, .string o.zone, .string o.node, .string o.claim, .string o.volume, .string o.source] 9)).cell? ⟨w.heap.size, k, none⟩ = (cellsO o)[k]? := fun k => (World.cell?_of_block (heap_alloc_lt (by simp at hlt1 ⊢; omega))).trans (hS1 k); have HB2 := Lib.hid ((HB1.out).alloc (HB1.out).size (.cells #[.string o.cls, .string o.zone, .string o.node, .string o.claim, .string o.volume, .string o.source] 9)))
  refine QS_normal (by assumption) (fun _ => ?_)
  refine wpSeq_alone ?_
  (go_wp2_with fail; refine (names_any (textsO o) w1.heap.size _ (by simp [textsO]) HT.out ?_).mono ?_; (intro j hj; rw [cells_all heap_alloc_eq]; match j, hj with | 0, _ => rfl | 1, _ => rfl | 2, _ => rfl | 3, _ => rfl | 4, _ => rfl | 5, _ => rfl); rintro e w2 ⟨rfl, rfl⟩; rw [H3.out]; go_wp2)
  refine QS_normal (by assumption) (fun _ => ?_)
  iterate 6
   apply wpSeq_takeK _ (by first | rfl | (simp [Region.wanted, yielded]; done))
   · intro w' hS
     have s0 := hS
     clear hS
     go_simp
     try rfl
   intro K hK
   go_simp
   refine hK _ ?_
   clear hK K
  refine wpSeq_alone ?_
  (go_wp2_with fail; refine (size_any o.size _).mono ?_; rintro e w3 ⟨rfl, rfl⟩; rw [H4.out]; go_wp2)
  refine QS_normal (by assumption) (fun _ => ?_)
  iterate 6
   apply wpSeq_takeK _ (by first | rfl | (simp [Region.wanted, yielded]; done))
   · intro w' hS
     have s0 := hS
     clear hS
     go_simp
     try rfl
   intro K hK
   go_simp
   refine hK _ ?_
   clear hK K
  refine wpSeq_alone ?_
  (go_wp2_with fail; refine (size_any o.got _).mono ?_; rintro e w4 ⟨rfl, rfl⟩; rw [H5.out]; go_wp2)
  refine QS_normal (by assumption) (fun _ => ?_)
  iterate 2
   apply wpSeq_takeK _ (by first | rfl | (simp [Region.wanted, yielded]; done))
   · intro w' hS
     have s0 := hS
     clear hS
     go_simp
     try rfl
   intro K hK
   go_simp
   refine hK _ ?_
   clear hK K
  refine wpSeq_end ?_
  go_wp2
  go_ret
  exact ⟨rfl, (HB2.out)⟩


end Go.Proofs.Ytobpohjhhelljaa
