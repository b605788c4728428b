/- Layer 3 (object): the document's bare: an object with what its kind names, and nothing else. -/
import Derived.Test.YtgplolfkfhhddaaO24
namespace Go.Proofs.Ytgplolfkfhhddaa
open Go.RowKit
set_option linter.unusedVariables false
set_option linter.unusedSimpArgs false
open Go.ChangeShapes Go.WideShapes Go.ChangeAt

set_option maxRecDepth 100000 in
set_option maxHeartbeats 8000000 in
theorem bare_1 (o : Obj) (w : World) (hk : o.kind = 1) : Calls Try.prog 28 #[.agg (cellsO o)] w fun e w' => e = .returned (.agg (cellsO (bareR o))) ∧ Below w.heap.size w w' := by
  obtain ⟨kk, a1, a2, a3, a4, a5, a6, a7, a8, a9, a10, a11, a12, a13, a14, a15, a16, a17, a18, a19⟩ := o
  have hsz : ∀ a b : Go.Obj, w.heap.size + 1 + 1 = ((w.alloc a).alloc b).heap.size := fun a b => by simp
  have HSZ2 := Lib.hid hsz
  clear hsz
  have hsz : ∀ a : Go.Obj, w.heap.size + 1 = (w.alloc a).heap.size := fun a => by simp
  have HSZ1 := Lib.hid hsz
  clear hsz
  obtain rfl : kk = 1 := hk
  go_enter Try.func28, Try.ntmps28
  go_upto_region 2 with (refine wpList_storeBare (w0 := w) rfl _ _ rfl (w.heap.size + 1 + 1) rfl ⟨1, a1, a2, a3, a4, a5, noText, 0, 0, 0, false, false, noText, noText, noText, noText, noText, 0, 0, 0⟩ rfl _ (by rw [HSZ2.out]; exact heap_alloc_eq) rfl w.heap.size (w.heap.size + 1) ⟨1, a1, a2, a3, a4, a5, a6, a7, a8, a9, a10, a11, a12, a13, a14, a15, a16, a17, a18, a19⟩ ((heap_alloc_lt (by simp; omega)).trans ((heap_alloc_lt (by simp)).trans heap_alloc_eq)) (by omega) _ ((heap_alloc_lt (by simp)).trans (by rw [HSZ1.out]; exact heap_alloc_eq)) rfl (by omega) ((((Below.refl _ _).alloc (Nat.le_refl _) _).alloc (by simp) _).alloc (by simp; omega) _) (by omega) (fun W hb hA hR HB0 => ?_))
  clear HSZ1 HSZ2
  obtain ⟨r, hR, hr⟩ := hR
  have n1 : w.heap.size ≠ w.heap.size + 1 + 1 := by omega
  have n2 : w.heap.size + 1 ≠ w.heap.size + 1 + 1 := by omega
  have n3 : w.heap.size ≤ w.heap.size + 1 + 1 := by omega
  have n4 : w.heap.size ≤ w.heap.size + 1 := by omega
  have HA := Lib.hid hA
  obtain ⟨q, hq⟩ : ∃ q, q = (⟨1, a1, a2, a3, a4, a5, a6, a7, a8, a9, a10, a11, a12, a13, a14, a15, a16, a17, a18, a19⟩ : Obj) := ⟨_, rfl⟩
  have hc : ∀ i, W.cell? ⟨w.heap.size, i, none⟩ = (cellsO q)[i]? := fun i => by rw [hq]; exact cells_all hA i
  have hf : ∀ i, W.frozen? ⟨w.heap.size + 1 + 1, i, none⟩ = false := fun i => frozen_of hb i
  have hd : ∀ i, W.cell? ⟨w.heap.size + 1 + 1, i, none⟩ = _ := fun i => cells_all hb i
  clear hA
  generalize w.heap.size + 1 + 1 = B at *
  generalize w.heap.size + 1 = R at *
  have HR := Lib.hid hR
  have HBb := Lib.hid hb
  have HB := Lib.hid HB0
  clear hR hb HB0
  go_upto_region 4 with fail
  refine wp_region_tree (fun w' => (∀ i, w'.cell? ⟨w.heap.size, i, none⟩ = (cellsO q)[i]?)) (.t 0 (.t 1 (.t 2 (.t 3 (.t 4 (.t 5 (.t 6 (.a 7 (.t 8 (.a 9 (.t 10 (.a 11 .nil)))))))))))) (by kernel_rfl) (by kernel_rfl) (by kernel_rfl) ?_ ?_
  · exact (by exact keepA_fin (by repeat (first | exact hc | refine keepA_set n1 ?_)))
  apply wpT_takeK rfl _ (by first | rfl | (simp [Region.wanted, yielded]; done))
  · intro w' hS
    have s0 := hS
    clear hS
    go_simp
    try rfl
  intro K hK
  go_simp
  refine hK _ ?_
  clear hK K
  apply wpT_takeK rfl _ (by first | rfl | (simp [Region.wanted, yielded]; done))
  · intro w' hS
    have s0 := hS
    clear hS
    go_simp
    try rfl
  intro K hK
  go_simp
  refine hK _ ?_
  clear hK K
  apply wpT_takeK rfl _ (by first | rfl | (simp [Region.wanted, yielded]; done))
  · intro w' hS
    have s0 := hS
    clear hS
    go_simp
    try rfl
  intro K hK
  go_simp
  refine hK _ ?_
  clear hK K
  apply wpT_takeK rfl _ (by first | rfl | (simp [Region.wanted, yielded]; done))
  · intro w' hS
    have s0 := hS
    clear hS
    go_simp
    try rfl
  intro K hK
  go_simp
  refine hK _ ?_
  clear hK K
  apply wpT_takeK rfl _ (by first | rfl | (simp [Region.wanted, yielded]; done))
  · intro w' hS
    have s0 := hS
    clear hS
    go_simp
    try rfl
  intro K hK
  go_simp
  refine hK _ ?_
  clear hK K
  apply wpT_takeK rfl _ (by first | rfl | (simp [Region.wanted, yielded]; done))
  · intro w' hS
    have s0 := hS
    clear hS
    go_simp
    try rfl
  intro K hK
  go_simp
  refine hK _ ?_
  clear hK K
  apply wpT_takeK rfl _ (by first | rfl | (simp [Region.wanted, yielded]; done))
  · intro w' hS
    have s0 := hS
    clear hS
    go_simp
    try rfl
  intro K hK
  go_simp
  refine hK _ ?_
  clear hK K
  refine wpT_alone rfl ?_
  focus go_wp2
  refine QS_normal (by exact keepA_fin (by repeat (first | exact hc | refine keepA_set n1 ?_))) (fun _ => ?_)
  apply wpT_takeK rfl _ (by first | rfl | (simp [Region.wanted, yielded]; done))
  · intro w' hS
    have s0 := hS
    clear hS
    go_simp
    try rfl
  intro K hK
  go_simp
  refine hK _ ?_
  clear hK K
  refine wpT_alone rfl ?_
  focus go_wp2
  refine QS_normal (by exact keepA_fin (by repeat (first | exact hc | refine keepA_set n1 ?_))) (fun _ => ?_)
  apply wpT_takeK rfl _ (by first | rfl | (simp [Region.wanted, yielded]; done))
  · intro w' hS
    have s0 := hS
    clear hS
    go_simp
    try rfl
  intro K hK
  go_simp
  refine hK _ ?_
  clear hK K
  refine wpT_alone rfl ?_
  focus go_wp2
  refine QS_normal (by exact keepA_fin (by repeat (first | exact hc | refine keepA_set n1 ?_))) (fun _ => ?_)
  refine wpT_end ?_
  go_upto_region 17 with fail
  have hbd : W.drew.heap[B]? = _ := HBb.out
  have hrd : W.drew.heap[R]? = _ := HR.out
  have hb2 := heap_setCell_at (o := 10) (v := .bool a10) (heap_setCell_at (o := 11) (v := .bool a11) (heap_setCell_at (o := 12) (v := .string a12) (hbd)))
  have hR2 := (Below.heap_setCell _ ⟨B, 10, none⟩ (.bool a10) _ n2).trans ((Below.heap_setCell _ ⟨B, 11, none⟩ (.bool a11) _ n2).trans ((Below.heap_setCell _ ⟨B, 12, none⟩ (.string a12) _ n2).trans (hrd)))
  have hB2 := (((HB.out.drew).setCell (p := ⟨B, 12, none⟩) n3 (.string a12)).setCell (p := ⟨B, 11, none⟩) n3 (.bool a11)).setCell (p := ⟨B, 10, none⟩) n3 (.bool a10)
  simp only [cellsO_set12, cellsO_set11, cellsO_set10] at hb2
  have hlR := heap_lt hR2
  go_step
  refine wpList_loadObj rfl _ rfl _ rfl _ (cells_all hb2) ?_
  refine wpList_storeObj rfl _ _ rfl R rfl _ rfl r hR2 hr ?_
  clear hc hf hd HA HR HBb HB
  go_wp2
  refine bodyPost_ret (v := .agg (cellsO _)) (results_obj _ rfl rfl (cells_all (Wset_same hlR))) rfl ⟨?_, ?_⟩
  · rw [bareR_1]
  · exact hB2.trans (below_Wset' n4)

set_option maxRecDepth 100000 in
set_option maxHeartbeats 8000000 in
theorem bare_2 (o : Obj) (w : World) (hk : o.kind = 2) : Calls Try.prog 28 #[.agg (cellsO o)] w fun e w' => e = .returned (.agg (cellsO (bareR o))) ∧ Below w.heap.size w w' := by
  obtain ⟨kk, a1, a2, a3, a4, a5, a6, a7, a8, a9, a10, a11, a12, a13, a14, a15, a16, a17, a18, a19⟩ := o
  have hsz : ∀ a b : Go.Obj, w.heap.size + 1 + 1 = ((w.alloc a).alloc b).heap.size := fun a b => by simp
  have HSZ2 := Lib.hid hsz
  clear hsz
  have hsz : ∀ a : Go.Obj, w.heap.size + 1 = (w.alloc a).heap.size := fun a => by simp
  have HSZ1 := Lib.hid hsz
  clear hsz
  obtain rfl : kk = 2 := hk
  go_enter Try.func28, Try.ntmps28
  go_upto_region 2 with (refine wpList_storeBare (w0 := w) rfl _ _ rfl (w.heap.size + 1 + 1) rfl ⟨2, a1, a2, a3, a4, a5, noText, 0, 0, 0, false, false, noText, noText, noText, noText, noText, 0, 0, 0⟩ rfl _ (by rw [HSZ2.out]; exact heap_alloc_eq) rfl w.heap.size (w.heap.size + 1) ⟨2, a1, a2, a3, a4, a5, a6, a7, a8, a9, a10, a11, a12, a13, a14, a15, a16, a17, a18, a19⟩ ((heap_alloc_lt (by simp; omega)).trans ((heap_alloc_lt (by simp)).trans heap_alloc_eq)) (by omega) _ ((heap_alloc_lt (by simp)).trans (by rw [HSZ1.out]; exact heap_alloc_eq)) rfl (by omega) ((((Below.refl _ _).alloc (Nat.le_refl _) _).alloc (by simp) _).alloc (by simp; omega) _) (by omega) (fun W hb hA hR HB0 => ?_))
  clear HSZ1 HSZ2
  obtain ⟨r, hR, hr⟩ := hR
  have n1 : w.heap.size ≠ w.heap.size + 1 + 1 := by omega
  have n2 : w.heap.size + 1 ≠ w.heap.size + 1 + 1 := by omega
  have n3 : w.heap.size ≤ w.heap.size + 1 + 1 := by omega
  have n4 : w.heap.size ≤ w.heap.size + 1 := by omega
  have HA := Lib.hid hA
  obtain ⟨q, hq⟩ : ∃ q, q = (⟨2, a1, a2, a3, a4, a5, a6, a7, a8, a9, a10, a11, a12, a13, a14, a15, a16, a17, a18, a19⟩ : Obj) := ⟨_, rfl⟩
  have hc : ∀ i, W.cell? ⟨w.heap.size, i, none⟩ = (cellsO q)[i]? := fun i => by rw [hq]; exact cells_all hA i
  have hf : ∀ i, W.frozen? ⟨w.heap.size + 1 + 1, i, none⟩ = false := fun i => frozen_of hb i
  have hd : ∀ i, W.cell? ⟨w.heap.size + 1 + 1, i, none⟩ = _ := fun i => cells_all hb i
  clear hA
  generalize w.heap.size + 1 + 1 = B at *
  generalize w.heap.size + 1 = R at *
  have HR := Lib.hid hR
  have HBb := Lib.hid hb
  have HB := Lib.hid HB0
  clear hR hb HB0
  go_upto_region 17 with fail
  have hb2 := heap_setCell_at (o := 12) (v := .string a12) (HBb.out)
  have hR2 := (Below.heap_setCell _ ⟨B, 12, none⟩ (.string a12) _ n2).trans (HR.out)
  have hB2 := (HB.out).setCell (p := ⟨B, 12, none⟩) n3 (.string a12)
  simp only [cellsO_set12] at hb2
  have hlR := heap_lt hR2
  go_step
  refine wpList_loadObj rfl _ rfl _ rfl _ (cells_all hb2) ?_
  refine wpList_storeObj rfl _ _ rfl R rfl _ rfl r hR2 hr ?_
  clear hc hf hd HA HR HBb HB
  go_wp2
  refine bodyPost_ret (v := .agg (cellsO _)) (results_obj _ rfl rfl (cells_all (Wset_same hlR))) rfl ⟨?_, ?_⟩
  · rw [bareR_2]
  · exact hB2.trans (below_Wset' n4)

set_option maxRecDepth 100000 in
set_option maxHeartbeats 8000000 in
theorem bare_6 (o : Obj) (w : World) (hk : o.kind = 6) : Calls Try.prog 28 #[.agg (cellsO o)] w fun e w' => e = .returned (.agg (cellsO (bareR o))) ∧ Below w.heap.size w w' := by
  obtain ⟨kk, a1, a2, a3, a4, a5, a6, a7, a8, a9, a10, a11, a12, a13, a14, a15, a16, a17, a18, a19⟩ := o
  have hsz : ∀ a b : Go.Obj, w.heap.size + 1 + 1 = ((w.alloc a).alloc b).heap.size := fun a b => by simp
  have HSZ2 := Lib.hid hsz
  clear hsz
  have hsz : ∀ a : Go.Obj, w.heap.size + 1 = (w.alloc a).heap.size := fun a => by simp
  have HSZ1 := Lib.hid hsz
  clear hsz
  obtain rfl : kk = 6 := hk
  go_enter Try.func28, Try.ntmps28
  go_upto_region 2 with (refine wpList_storeBare (w0 := w) rfl _ _ rfl (w.heap.size + 1 + 1) rfl ⟨6, a1, a2, a3, a4, a5, noText, 0, 0, 0, false, false, noText, noText, noText, noText, noText, 0, 0, 0⟩ rfl _ (by rw [HSZ2.out]; exact heap_alloc_eq) rfl w.heap.size (w.heap.size + 1) ⟨6, a1, a2, a3, a4, a5, a6, a7, a8, a9, a10, a11, a12, a13, a14, a15, a16, a17, a18, a19⟩ ((heap_alloc_lt (by simp; omega)).trans ((heap_alloc_lt (by simp)).trans heap_alloc_eq)) (by omega) _ ((heap_alloc_lt (by simp)).trans (by rw [HSZ1.out]; exact heap_alloc_eq)) rfl (by omega) ((((Below.refl _ _).alloc (Nat.le_refl _) _).alloc (by simp) _).alloc (by simp; omega) _) (by omega) (fun W hb hA hR HB0 => ?_))
  clear HSZ1 HSZ2
  obtain ⟨r, hR, hr⟩ := hR
  have n1 : w.heap.size ≠ w.heap.size + 1 + 1 := by omega
  have n2 : w.heap.size + 1 ≠ w.heap.size + 1 + 1 := by omega
  have n3 : w.heap.size ≤ w.heap.size + 1 + 1 := by omega
  have n4 : w.heap.size ≤ w.heap.size + 1 := by omega
  have HA := Lib.hid hA
  obtain ⟨q, hq⟩ : ∃ q, q = (⟨6, a1, a2, a3, a4, a5, a6, a7, a8, a9, a10, a11, a12, a13, a14, a15, a16, a17, a18, a19⟩ : Obj) := ⟨_, rfl⟩
  have hc : ∀ i, W.cell? ⟨w.heap.size, i, none⟩ = (cellsO q)[i]? := fun i => by rw [hq]; exact cells_all hA i
  have hf : ∀ i, W.frozen? ⟨w.heap.size + 1 + 1, i, none⟩ = false := fun i => frozen_of hb i
  have hd : ∀ i, W.cell? ⟨w.heap.size + 1 + 1, i, none⟩ = _ := fun i => cells_all hb i
  clear hA
  generalize w.heap.size + 1 + 1 = B at *
  generalize w.heap.size + 1 = R at *
  have HR := Lib.hid hR
  have HBb := Lib.hid hb
  have HB := Lib.hid HB0
  clear hR hb HB0
  go_upto_region 14 with fail
  refine wp_region_tree (fun w' => (∀ i, w'.cell? ⟨w.heap.size, i, none⟩ = (cellsO q)[i]?)) (.t 0 (.t 1 (.t 2 (.t 3 (.t 4 (.a 5 (.t 6 (.a 7 .nil)))))))) (by kernel_rfl) (by kernel_rfl) (by kernel_rfl) ?_ ?_
  · exact (by exact keepA_fin (by repeat (first | exact hc | refine keepA_set n1 ?_)))
  apply wpT_takeK rfl _ (by first | rfl | (simp [Region.wanted, yielded]; done))
  · intro w' hS
    have s0 := hS
    clear hS
    go_simp
    try rfl
  intro K hK
  go_simp
  refine hK _ ?_
  clear hK K
  apply wpT_takeK rfl _ (by first | rfl | (simp [Region.wanted, yielded]; done))
  · intro w' hS
    have s0 := hS
    clear hS
    go_simp
    try rfl
  intro K hK
  go_simp
  refine hK _ ?_
  clear hK K
  apply wpT_takeK rfl _ (by first | rfl | (simp [Region.wanted, yielded]; done))
  · intro w' hS
    have s0 := hS
    clear hS
    go_simp
    try rfl
  intro K hK
  go_simp
  refine hK _ ?_
  clear hK K
  apply wpT_takeK rfl _ (by first | rfl | (simp [Region.wanted, yielded]; done))
  · intro w' hS
    have s0 := hS
    clear hS
    go_simp
    try rfl
  intro K hK
  go_simp
  refine hK _ ?_
  clear hK K
  apply wpT_takeK rfl _ (by first | rfl | (simp [Region.wanted, yielded]; done))
  · intro w' hS
    have s0 := hS
    clear hS
    go_simp
    try rfl
  intro K hK
  go_simp
  refine hK _ ?_
  clear hK K
  refine wpT_alone rfl ?_
  focus go_wp2
  refine QS_normal (by exact keepA_fin (by repeat (first | exact hc | refine keepA_set n1 ?_))) (fun _ => ?_)
  apply wpT_takeK rfl _ (by first | rfl | (simp [Region.wanted, yielded]; done))
  · intro w' hS
    have s0 := hS
    clear hS
    go_simp
    try rfl
  intro K hK
  go_simp
  refine hK _ ?_
  clear hK K
  refine wpT_alone rfl ?_
  focus go_wp2
  refine QS_normal (by exact keepA_fin (by repeat (first | exact hc | refine keepA_set n1 ?_))) (fun _ => ?_)
  refine wpT_end ?_
  go_upto_region 17 with fail
  have hbd : W.drew.heap[B]? = _ := HBb.out
  have hrd : W.drew.heap[R]? = _ := HR.out
  have hb2 := heap_setCell_at (o := 13) (v := .string a13) (heap_setCell_at (o := 14) (v := .string a14) (hbd))
  have hR2 := (Below.heap_setCell _ ⟨B, 13, none⟩ (.string a13) _ n2).trans ((Below.heap_setCell _ ⟨B, 14, none⟩ (.string a14) _ n2).trans (hrd))
  have hB2 := ((HB.out.drew).setCell (p := ⟨B, 14, none⟩) n3 (.string a14)).setCell (p := ⟨B, 13, none⟩) n3 (.string a13)
  simp only [cellsO_set14, cellsO_set13] at hb2
  have hlR := heap_lt hR2
  go_step
  refine wpList_loadObj rfl _ rfl _ rfl _ (cells_all hb2) ?_
  refine wpList_storeObj rfl _ _ rfl R rfl _ rfl r hR2 hr ?_
  clear hc hf hd HA HR HBb HB
  go_wp2
  refine bodyPost_ret (v := .agg (cellsO _)) (results_obj _ rfl rfl (cells_all (Wset_same hlR))) rfl ⟨?_, ?_⟩
  · rw [bareR_6]
  · exact hB2.trans (below_Wset' n4)

set_option maxRecDepth 100000 in
set_option maxHeartbeats 8000000 in
theorem bare_0 (o : Obj) (w : World) (n1 : ¬ o.kind = 1) (n2 : ¬ o.kind = 2) (n3 : ¬ o.kind = 3) (n4 : ¬ o.kind = 4) (n5 : ¬ o.kind = 5) (n6 : ¬ o.kind = 6) (n7 : ¬ o.kind = 7) : Calls Try.prog 28 #[.agg (cellsO o)] w fun e w' => e = .returned (.agg (cellsO (bareR o))) ∧ Below w.heap.size w w' := by
  obtain ⟨kk, a1, a2, a3, a4, a5, a6, a7, a8, a9, a10, a11, a12, a13, a14, a15, a16, a17, a18, a19⟩ := o
  have hsz : ∀ a b : Go.Obj, w.heap.size + 1 + 1 = ((w.alloc a).alloc b).heap.size := fun a b => by simp
  have HSZ2 := Lib.hid hsz
  clear hsz
  have hsz : ∀ a : Go.Obj, w.heap.size + 1 = (w.alloc a).heap.size := fun a => by simp
  have HSZ1 := Lib.hid hsz
  clear hsz
  have j1 : (kk == 1) = false := by simpa using n1
  have j2 : (kk == 2) = false := by simpa using n2
  have j3 : (kk == 3) = false := by simpa using n3
  have j4 : (kk == 4) = false := by simpa using n4
  have j5 : (kk == 5) = false := by simpa using n5
  have j6 : (kk == 6) = false := by simpa using n6
  have j7 : (kk == 7) = false := by simpa using n7
  simp only at n1 n2 n3 n4 n5 n6 n7
  have HN := Lib.hid (And.intro n1 (And.intro n2 (And.intro n3 (And.intro n4 (And.intro n5 (And.intro n6 n7))))))
  clear n1 n2 n3 n4 n5 n6 n7
  go_enter Try.func28, Try.ntmps28
  go_upto_region 2 with (refine wpList_storeBare (w0 := w) rfl _ _ rfl (w.heap.size + 1 + 1) rfl ⟨kk, a1, a2, a3, a4, a5, noText, 0, 0, 0, false, false, noText, noText, noText, noText, noText, 0, 0, 0⟩ rfl _ (by rw [HSZ2.out]; exact heap_alloc_eq) rfl w.heap.size (w.heap.size + 1) ⟨kk, a1, a2, a3, a4, a5, a6, a7, a8, a9, a10, a11, a12, a13, a14, a15, a16, a17, a18, a19⟩ ((heap_alloc_lt (by simp; omega)).trans ((heap_alloc_lt (by simp)).trans heap_alloc_eq)) (by omega) _ ((heap_alloc_lt (by simp)).trans (by rw [HSZ1.out]; exact heap_alloc_eq)) rfl (by omega) ((((Below.refl _ _).alloc (Nat.le_refl _) _).alloc (by simp) _).alloc (by simp; omega) _) (by omega) (fun W hb hA hR HB0 => ?_))
  clear HSZ1 HSZ2
  obtain ⟨r, hR, hr⟩ := hR
  have n1 : w.heap.size ≠ w.heap.size + 1 + 1 := by omega
  have n2 : w.heap.size + 1 ≠ w.heap.size + 1 + 1 := by omega
  have n3 : w.heap.size ≤ w.heap.size + 1 + 1 := by omega
  have n4 : w.heap.size ≤ w.heap.size + 1 := by omega
  have HA := Lib.hid hA
  obtain ⟨q, hq⟩ : ∃ q, q = (⟨kk, a1, a2, a3, a4, a5, a6, a7, a8, a9, a10, a11, a12, a13, a14, a15, a16, a17, a18, a19⟩ : Obj) := ⟨_, rfl⟩
  have hc : ∀ i, W.cell? ⟨w.heap.size, i, none⟩ = (cellsO q)[i]? := fun i => by rw [hq]; exact cells_all hA i
  have hf : ∀ i, W.frozen? ⟨w.heap.size + 1 + 1, i, none⟩ = false := fun i => frozen_of hb i
  have hd : ∀ i, W.cell? ⟨w.heap.size + 1 + 1, i, none⟩ = _ := fun i => cells_all hb i
  clear hA
  generalize w.heap.size + 1 + 1 = B at *
  generalize w.heap.size + 1 = R at *
  have HR := Lib.hid hR
  have HBb := Lib.hid hb
  have HB := Lib.hid HB0
  clear hR hb HB0
  go_upto_region 17 with fail
  have hb2 := HBb.out
  have hR2 := HR.out
  have hB2 := HB.out
  have hlR := heap_lt hR2
  go_step
  refine wpList_loadObj rfl _ rfl _ rfl _ (cells_all hb2) ?_
  refine wpList_storeObj rfl _ _ rfl R rfl _ rfl r hR2 hr ?_
  clear hc hf hd HA HR HBb HB
  go_wp2
  refine bodyPost_ret (v := .agg (cellsO _)) (results_obj _ rfl rfl (cells_all (Wset_same hlR))) rfl ⟨?_, ?_⟩
  · rw [bareR_0 _ _ _ _ _ _ _ _ _ _ _ _ _ _ _ _ _ _ _ _ HN.out.1 HN.out.2.1 HN.out.2.2.1 HN.out.2.2.2.1 HN.out.2.2.2.2.1 HN.out.2.2.2.2.2.1 HN.out.2.2.2.2.2.2]
  · exact hB2.trans (below_Wset' n4)

end Go.Proofs.Ytgplolfkfhhddaa
