/- Layer 3 (object): the document's bare: an object with what its kind names, and nothing else. -/
import Derived.Test.YtgplolfkfhhddaaO24
namespace Go.Proofs.Ytgplolfkfhhddaa
open Go.RowKit
set_option linter.unusedVariables false
set_option linter.unusedSimpArgs false
open Go.ChangeShapes Go.WideShapes Go.ChangeAt

set_option maxRecDepth 100000 in
set_option maxHeartbeats 8000000 in
theorem bare_4 (o : Obj) (w : World) (hk : o.kind = 4) : Calls Try.prog 28 #[.agg (cellsO o)] w fun e w' => e = .returned (.agg (cellsO (bareR o))) ∧ Below w.heap.size w w' := by
  obtain ⟨kk, a1, a2, a3, a4, a5, a6, a7, a8, a9, a10, a11, a12, a13, a14, a15, a16, a17, a18, a19⟩ := o
  have hsz : ∀ a b : Go.Obj, w.heap.size + 1 + 1 = ((w.alloc a).alloc b).heap.size := fun a b => by simp
  have HSZ2 := Lib.hid hsz
  clear hsz
  have hsz : ∀ a : Go.Obj, w.heap.size + 1 = (w.alloc a).heap.size := fun a => by simp
  have HSZ1 := Lib.hid hsz
  clear hsz
  obtain rfl : kk = 4 := hk
  go_enter Try.func28, Try.ntmps28
  go_upto_region 2 with (refine wpList_storeBare (w0 := w) rfl _ _ rfl (w.heap.size + 1 + 1) rfl ⟨4, a1, a2, a3, a4, a5, noText, 0, 0, 0, false, false, noText, noText, noText, noText, noText, 0, 0, 0⟩ rfl _ (by rw [HSZ2.out]; exact heap_alloc_eq) rfl w.heap.size (w.heap.size + 1) ⟨4, a1, a2, a3, a4, a5, a6, a7, a8, a9, a10, a11, a12, a13, a14, a15, a16, a17, a18, a19⟩ ((heap_alloc_lt (by simp; omega)).trans ((heap_alloc_lt (by simp)).trans heap_alloc_eq)) (by omega) _ ((heap_alloc_lt (by simp)).trans (by rw [HSZ1.out]; exact heap_alloc_eq)) rfl (by omega) ((((Below.refl _ _).alloc (Nat.le_refl _) _).alloc (by simp) _).alloc (by simp; omega) _) (by omega) (fun W hb hA hR HB0 => ?_))
  clear HSZ1 HSZ2
  obtain ⟨r, hR, hr⟩ := hR
  have n1 : w.heap.size ≠ w.heap.size + 1 + 1 := by omega
  have n2 : w.heap.size + 1 ≠ w.heap.size + 1 + 1 := by omega
  have n3 : w.heap.size ≤ w.heap.size + 1 + 1 := by omega
  have n4 : w.heap.size ≤ w.heap.size + 1 := by omega
  have HA := Lib.hid hA
  obtain ⟨q, hq⟩ : ∃ q, q = (⟨4, a1, a2, a3, a4, a5, a6, a7, a8, a9, a10, a11, a12, a13, a14, a15, a16, a17, a18, a19⟩ : Obj) := ⟨_, rfl⟩
  have hc : ∀ i, W.cell? ⟨w.heap.size, i, none⟩ = (cellsO q)[i]? := fun i => by rw [hq]; exact cells_all hA i
  have hf : ∀ i, W.frozen? ⟨w.heap.size + 1 + 1, i, none⟩ = false := fun i => frozen_of hb i
  have hd : ∀ i, W.cell? ⟨w.heap.size + 1 + 1, i, none⟩ = _ := fun i => cells_all hb i
  clear hA
  generalize w.heap.size + 1 + 1 = B at *
  generalize w.heap.size + 1 = R at *
  have HR := Lib.hid hR
  have HBb := Lib.hid hb
  have HB := Lib.hid HB0
  clear hR hb HB0
  go_upto_region 10 with fail
  have HBb := Lib.hid (show W.drew.heap[B]? = some (.cells (cellsO ⟨4, a1, a2, a3, a4, a5, noText, 0, 0, 0, false, false, noText, noText, noText, noText, noText, 0, 0, 0⟩) 27 (0, 0)) from HBb.out)
  have HR := Lib.hid (show W.drew.heap[R]? = some (.cells r 27 (0, 0)) from HR.out)
  have HB := Lib.hid HB.out.drew
  refine wp_region_tree (fun w' => (∀ i, w'.cell? ⟨w.heap.size, i, none⟩ = (cellsO q)[i]?)) (.t 0 (.t 1 (.t 2 (.t 3 (.t 4 (.t 5 (.t 6 (.t 7 (.t 8 (.t 9 (.t 10 (.t 11 (.t 12 (.t 13 (.t 14 (.t 15 (.t 16 (.t 17 (.t 18 (.a 19 (.t 20 (.a 21 (.t 22 (.a 23 (.t 24 (.a 25 (.t 26 (.a 27 (.t 28 (.a 29 (.t 30 (.a 31 (.t 32 (.a 33 (.t 34 (.a 35 .nil)))))))))))))))))))))))))))))))))))) (by kernel_rfl) (by kernel_rfl) (by kernel_rfl) ?_ ?_
  · exact (by exact hc)
  (have hc : ∀ i, W.drew.cell? ⟨w.heap.size, i, none⟩ = (cellsO q)[i]? := hc; have hf : ∀ i, W.drew.frozen? ⟨B, i, none⟩ = false := fun i => frozen_of HBb.out i; have hd : ∀ i, W.drew.cell? ⟨B, i, none⟩ = _ := fun i => cells_all HBb.out i; generalize W.drew = V0 at *)
  apply wpT_takeK rfl _ (by first | rfl | (simp [Region.wanted, yielded]; done))
  · intro w' hS
    have s0 := hS
    clear hS
    go_simp
    try rfl
  intro K hK
  go_simp
  refine hK _ ?_
  clear hK K
  apply wpT_takeK rfl _ (by first | rfl | (simp [Region.wanted, yielded]; done))
  · intro w' hS
    have s0 := hS
    clear hS
    go_simp
    try rfl
  intro K hK
  go_simp
  refine hK _ ?_
  clear hK K
  apply wpT_takeK rfl _ (by first | rfl | (simp [Region.wanted, yielded]; done))
  · intro w' hS
    have s0 := hS
    clear hS
    go_simp
    try rfl
  intro K hK
  go_simp
  refine hK _ ?_
  clear hK K
  apply wpT_takeK rfl _ (by first | rfl | (simp [Region.wanted, yielded]; done))
  · intro w' hS
    have s0 := hS
    clear hS
    go_simp
    try rfl
  intro K hK
  go_simp
  refine hK _ ?_
  clear hK K
  apply wpT_takeK rfl _ (by first | rfl | (simp [Region.wanted, yielded]; done))
  · intro w' hS
    have s0 := hS
    clear hS
    go_simp
    try rfl
  intro K hK
  go_simp
  refine hK _ ?_
  clear hK K
  apply wpT_takeK rfl _ (by first | rfl | (simp [Region.wanted, yielded]; done))
  · intro w' hS
    have s0 := hS
    clear hS
    go_simp
    try rfl
  intro K hK
  go_simp
  refine hK _ ?_
  clear hK K
  apply wpT_takeK rfl _ (by first | rfl | (simp [Region.wanted, yielded]; done))
  · intro w' hS
    have s0 := hS
    clear hS
    go_simp
    try rfl
  intro K hK
  go_simp
  refine hK _ ?_
  clear hK K
  apply wpT_takeK rfl _ (by first | rfl | (simp [Region.wanted, yielded]; done))
  · intro w' hS
    have s0 := hS
    clear hS
    go_simp
    try rfl
  intro K hK
  go_simp
  refine hK _ ?_
  clear hK K
  apply wpT_takeK rfl _ (by first | rfl | (simp [Region.wanted, yielded]; done))
  · intro w' hS
    have s0 := hS
    clear hS
    go_simp
    try rfl
  intro K hK
  go_simp
  refine hK _ ?_
  clear hK K
  apply wpT_takeK rfl _ (by first | rfl | (simp [Region.wanted, yielded]; done))
  · intro w' hS
    have s0 := hS
    clear hS
    go_simp
    try rfl
  intro K hK
  go_simp
  refine hK _ ?_
  clear hK K
  apply wpT_takeK rfl _ (by first | rfl | (simp [Region.wanted, yielded]; done))
  · intro w' hS
    have s0 := hS
    clear hS
    go_simp
    try rfl
  intro K hK
  go_simp
  refine hK _ ?_
  clear hK K
  apply wpT_takeK rfl _ (by first | rfl | (simp [Region.wanted, yielded]; done))
  · intro w' hS
    have s0 := hS
    clear hS
    go_simp
    try rfl
  intro K hK
  go_simp
  refine hK _ ?_
  clear hK K
  apply wpT_takeK rfl _ (by first | rfl | (simp [Region.wanted, yielded]; done))
  · intro w' hS
    have s0 := hS
    clear hS
    go_simp
    try rfl
  intro K hK
  go_simp
  refine hK _ ?_
  clear hK K
  apply wpT_takeK rfl _ (by first | rfl | (simp [Region.wanted, yielded]; done))
  · intro w' hS
    have s0 := hS
    clear hS
    go_simp
    try rfl
  intro K hK
  go_simp
  refine hK _ ?_
  clear hK K
  apply wpT_takeK rfl _ (by first | rfl | (simp [Region.wanted, yielded]; done))
  · intro w' hS
    have s0 := hS
    clear hS
    go_simp
    try rfl
  intro K hK
  go_simp
  refine hK _ ?_
  clear hK K
  apply wpT_takeK rfl _ (by first | rfl | (simp [Region.wanted, yielded]; done))
  · intro w' hS
    have s0 := hS
    clear hS
    go_simp
    try rfl
  intro K hK
  go_simp
  refine hK _ ?_
  clear hK K
  apply wpT_takeK rfl _ (by first | rfl | (simp [Region.wanted, yielded]; done))
  · intro w' hS
    have s0 := hS
    clear hS
    go_simp
    try rfl
  intro K hK
  go_simp
  refine hK _ ?_
  clear hK K
  apply wpT_takeK rfl _ (by first | rfl | (simp [Region.wanted, yielded]; done))
  · intro w' hS
    have s0 := hS
    clear hS
    go_simp
    try rfl
  intro K hK
  go_simp
  refine hK _ ?_
  clear hK K
  apply wpT_takeK rfl _ (by first | rfl | (simp [Region.wanted, yielded]; done))
  · intro w' hS
    have s0 := hS
    clear hS
    go_simp
    try rfl
  intro K hK
  go_simp
  refine hK _ ?_
  clear hK K
  refine wpT_alone rfl ?_
  focus go_wp2
  refine QS_abs (fun wn hwn => ?_)
  (have hb1 : wn.heap[B]? = some (.cells ((cellsO ⟨4, a1, a2, a3, a4, a5, noText, 0, 0, 0, false, false, noText, noText, noText, noText, noText, 0, 0, 0⟩).setIfInBounds 6 (.string a6)) 27 (0, 0)) := (by rw [hwn]; exact heap_setCell_at (o := 6) (v := (.string a6)) HBb.out); have hR1 : wn.heap[R]? = some (.cells r 27 (0, 0)) := (by rw [hwn]; exact (Below.heap_setCell _ ⟨B, 6, none⟩ (.string a6) _ n2).trans HR.out); have hB1 : Below w.heap.size w wn := (by rw [hwn]; exact HB.out.setCell (p := ⟨B, 6, none⟩) n3 (.string a6)); have hc1 : ∀ i, wn.cell? ⟨w.heap.size, i, none⟩ = (cellsO q)[i]? := (by rw [hwn]; exact keepA_set (B := B) (j := 6) (v := (.string a6)) n1 hc); clear hc hf hd HBb HR HB hwn; simp only [cellsO_set6] at hb1; have hc := hc1; have hf : ∀ i, wn.frozen? ⟨B, i, none⟩ = false := fun i => frozen_of hb1 i; have hd : ∀ i, wn.cell? ⟨B, i, none⟩ = _ := fun i => cells_all hb1 i; have HBb := Lib.hid hb1; have HR := Lib.hid hR1; have HB := Lib.hid hB1; clear hb1 hR1 hB1 hc1)
  refine And.intro (by exact hc) ?_
  apply wpT_takeK rfl _ (by first | rfl | (simp [Region.wanted, yielded]; done))
  · intro w' hS
    have s0 := hS
    clear hS
    go_simp
    try rfl
  intro K hK
  go_simp
  refine hK _ ?_
  clear hK K
  refine wpT_alone rfl ?_
  focus go_wp2
  refine QS_abs (fun wn hwn => ?_)
  (have hb1 : wn.heap[B]? = some (.cells ((cellsO ⟨4, a1, a2, a3, a4, a5, a6, 0, 0, 0, false, false, noText, noText, noText, noText, noText, 0, 0, 0⟩).setIfInBounds 7 (.int .i64 a7)) 27 (0, 0)) := (by rw [hwn]; exact heap_setCell_at (o := 7) (v := (.int .i64 a7)) HBb.out); have hR1 : wn.heap[R]? = some (.cells r 27 (0, 0)) := (by rw [hwn]; exact (Below.heap_setCell _ ⟨B, 7, none⟩ (.int .i64 a7) _ n2).trans HR.out); have hB1 : Below w.heap.size w wn := (by rw [hwn]; exact HB.out.setCell (p := ⟨B, 7, none⟩) n3 (.int .i64 a7)); have hc1 : ∀ i, wn.cell? ⟨w.heap.size, i, none⟩ = (cellsO q)[i]? := (by rw [hwn]; exact keepA_set (B := B) (j := 7) (v := (.int .i64 a7)) n1 hc); clear hc hf hd HBb HR HB hwn; simp only [cellsO_set7] at hb1; have hc := hc1; have hf : ∀ i, wn.frozen? ⟨B, i, none⟩ = false := fun i => frozen_of hb1 i; have hd : ∀ i, wn.cell? ⟨B, i, none⟩ = _ := fun i => cells_all hb1 i; have HBb := Lib.hid hb1; have HR := Lib.hid hR1; have HB := Lib.hid hB1; clear hb1 hR1 hB1 hc1)
  refine And.intro (by exact hc) ?_
  apply wpT_takeK rfl _ (by first | rfl | (simp [Region.wanted, yielded]; done))
  · intro w' hS
    have s0 := hS
    clear hS
    go_simp
    try rfl
  intro K hK
  go_simp
  refine hK _ ?_
  clear hK K
  refine wpT_alone rfl ?_
  focus go_wp2
  refine QS_abs (fun wn hwn => ?_)
  (have hb1 : wn.heap[B]? = some (.cells ((cellsO ⟨4, a1, a2, a3, a4, a5, a6, a7, 0, 0, false, false, noText, noText, noText, noText, noText, 0, 0, 0⟩).setIfInBounds 8 (.int .i64 a8)) 27 (0, 0)) := (by rw [hwn]; exact heap_setCell_at (o := 8) (v := (.int .i64 a8)) HBb.out); have hR1 : wn.heap[R]? = some (.cells r 27 (0, 0)) := (by rw [hwn]; exact (Below.heap_setCell _ ⟨B, 8, none⟩ (.int .i64 a8) _ n2).trans HR.out); have hB1 : Below w.heap.size w wn := (by rw [hwn]; exact HB.out.setCell (p := ⟨B, 8, none⟩) n3 (.int .i64 a8)); have hc1 : ∀ i, wn.cell? ⟨w.heap.size, i, none⟩ = (cellsO q)[i]? := (by rw [hwn]; exact keepA_set (B := B) (j := 8) (v := (.int .i64 a8)) n1 hc); clear hc hf hd HBb HR HB hwn; simp only [cellsO_set8] at hb1; have hc := hc1; have hf : ∀ i, wn.frozen? ⟨B, i, none⟩ = false := fun i => frozen_of hb1 i; have hd : ∀ i, wn.cell? ⟨B, i, none⟩ = _ := fun i => cells_all hb1 i; have HBb := Lib.hid hb1; have HR := Lib.hid hR1; have HB := Lib.hid hB1; clear hb1 hR1 hB1 hc1)
  refine And.intro (by exact hc) ?_
  apply wpT_takeK rfl _ (by first | rfl | (simp [Region.wanted, yielded]; done))
  · intro w' hS
    have s0 := hS
    clear hS
    go_simp
    try rfl
  intro K hK
  go_simp
  refine hK _ ?_
  clear hK K
  refine wpT_alone rfl ?_
  focus go_wp2
  refine QS_abs (fun wn hwn => ?_)
  (have hb1 : wn.heap[B]? = some (.cells ((cellsO ⟨4, a1, a2, a3, a4, a5, a6, a7, a8, 0, false, false, noText, noText, noText, noText, noText, 0, 0, 0⟩).setIfInBounds 9 (.int .u8 a9)) 27 (0, 0)) := (by rw [hwn]; exact heap_setCell_at (o := 9) (v := (.int .u8 a9)) HBb.out); have hR1 : wn.heap[R]? = some (.cells r 27 (0, 0)) := (by rw [hwn]; exact (Below.heap_setCell _ ⟨B, 9, none⟩ (.int .u8 a9) _ n2).trans HR.out); have hB1 : Below w.heap.size w wn := (by rw [hwn]; exact HB.out.setCell (p := ⟨B, 9, none⟩) n3 (.int .u8 a9)); have hc1 : ∀ i, wn.cell? ⟨w.heap.size, i, none⟩ = (cellsO q)[i]? := (by rw [hwn]; exact keepA_set (B := B) (j := 9) (v := (.int .u8 a9)) n1 hc); clear hc hf hd HBb HR HB hwn; simp only [cellsO_set9] at hb1; have hc := hc1; have hf : ∀ i, wn.frozen? ⟨B, i, none⟩ = false := fun i => frozen_of hb1 i; have hd : ∀ i, wn.cell? ⟨B, i, none⟩ = _ := fun i => cells_all hb1 i; have HBb := Lib.hid hb1; have HR := Lib.hid hR1; have HB := Lib.hid hB1; clear hb1 hR1 hB1 hc1)
  refine And.intro (by exact hc) ?_
  apply wpT_takeK rfl _ (by first | rfl | (simp [Region.wanted, yielded]; done))
  · intro w' hS
    have s0 := hS
    clear hS
    go_simp
    try rfl
  intro K hK
  go_simp
  refine hK _ ?_
  clear hK K
  refine wpT_alone rfl ?_
  focus go_wp2
  refine QS_abs (fun wn hwn => ?_)
  (have hb1 : wn.heap[B]? = some (.cells ((cellsO ⟨4, a1, a2, a3, a4, a5, a6, a7, a8, a9, false, false, noText, noText, noText, noText, noText, 0, 0, 0⟩).setIfInBounds 10 (.bool a10)) 27 (0, 0)) := (by rw [hwn]; exact heap_setCell_at (o := 10) (v := (.bool a10)) HBb.out); have hR1 : wn.heap[R]? = some (.cells r 27 (0, 0)) := (by rw [hwn]; exact (Below.heap_setCell _ ⟨B, 10, none⟩ (.bool a10) _ n2).trans HR.out); have hB1 : Below w.heap.size w wn := (by rw [hwn]; exact HB.out.setCell (p := ⟨B, 10, none⟩) n3 (.bool a10)); have hc1 : ∀ i, wn.cell? ⟨w.heap.size, i, none⟩ = (cellsO q)[i]? := (by rw [hwn]; exact keepA_set (B := B) (j := 10) (v := (.bool a10)) n1 hc); clear hc hf hd HBb HR HB hwn; simp only [cellsO_set10] at hb1; have hc := hc1; have hf : ∀ i, wn.frozen? ⟨B, i, none⟩ = false := fun i => frozen_of hb1 i; have hd : ∀ i, wn.cell? ⟨B, i, none⟩ = _ := fun i => cells_all hb1 i; have HBb := Lib.hid hb1; have HR := Lib.hid hR1; have HB := Lib.hid hB1; clear hb1 hR1 hB1 hc1)
  refine And.intro (by exact hc) ?_
  apply wpT_takeK rfl _ (by first | rfl | (simp [Region.wanted, yielded]; done))
  · intro w' hS
    have s0 := hS
    clear hS
    go_simp
    try rfl
  intro K hK
  go_simp
  refine hK _ ?_
  clear hK K
  refine wpT_alone rfl ?_
  focus go_wp2
  refine QS_abs (fun wn hwn => ?_)
  (have hb1 : wn.heap[B]? = some (.cells ((cellsO ⟨4, a1, a2, a3, a4, a5, a6, a7, a8, a9, a10, false, noText, noText, noText, noText, noText, 0, 0, 0⟩).setIfInBounds 12 (.string a12)) 27 (0, 0)) := (by rw [hwn]; exact heap_setCell_at (o := 12) (v := (.string a12)) HBb.out); have hR1 : wn.heap[R]? = some (.cells r 27 (0, 0)) := (by rw [hwn]; exact (Below.heap_setCell _ ⟨B, 12, none⟩ (.string a12) _ n2).trans HR.out); have hB1 : Below w.heap.size w wn := (by rw [hwn]; exact HB.out.setCell (p := ⟨B, 12, none⟩) n3 (.string a12)); have hc1 : ∀ i, wn.cell? ⟨w.heap.size, i, none⟩ = (cellsO q)[i]? := (by rw [hwn]; exact keepA_set (B := B) (j := 12) (v := (.string a12)) n1 hc); clear hc hf hd HBb HR HB hwn; simp only [cellsO_set12] at hb1; have hc := hc1; have hf : ∀ i, wn.frozen? ⟨B, i, none⟩ = false := fun i => frozen_of hb1 i; have hd : ∀ i, wn.cell? ⟨B, i, none⟩ = _ := fun i => cells_all hb1 i; have HBb := Lib.hid hb1; have HR := Lib.hid hR1; have HB := Lib.hid hB1; clear hb1 hR1 hB1 hc1)
  refine And.intro (by exact hc) ?_
  apply wpT_takeK rfl _ (by first | rfl | (simp [Region.wanted, yielded]; done))
  · intro w' hS
    have s0 := hS
    clear hS
    go_simp
    try rfl
  intro K hK
  go_simp
  refine hK _ ?_
  clear hK K
  refine wpT_alone rfl ?_
  focus go_wp2
  refine QS_abs (fun wn hwn => ?_)
  (have hb1 : wn.heap[B]? = some (.cells ((cellsO ⟨4, a1, a2, a3, a4, a5, a6, a7, a8, a9, a10, false, a12, noText, noText, noText, noText, 0, 0, 0⟩).setIfInBounds 14 (.string a14)) 27 (0, 0)) := (by rw [hwn]; exact heap_setCell_at (o := 14) (v := (.string a14)) HBb.out); have hR1 : wn.heap[R]? = some (.cells r 27 (0, 0)) := (by rw [hwn]; exact (Below.heap_setCell _ ⟨B, 14, none⟩ (.string a14) _ n2).trans HR.out); have hB1 : Below w.heap.size w wn := (by rw [hwn]; exact HB.out.setCell (p := ⟨B, 14, none⟩) n3 (.string a14)); have hc1 : ∀ i, wn.cell? ⟨w.heap.size, i, none⟩ = (cellsO q)[i]? := (by rw [hwn]; exact keepA_set (B := B) (j := 14) (v := (.string a14)) n1 hc); clear hc hf hd HBb HR HB hwn; simp only [cellsO_set14] at hb1; have hc := hc1; have hf : ∀ i, wn.frozen? ⟨B, i, none⟩ = false := fun i => frozen_of hb1 i; have hd : ∀ i, wn.cell? ⟨B, i, none⟩ = _ := fun i => cells_all hb1 i; have HBb := Lib.hid hb1; have HR := Lib.hid hR1; have HB := Lib.hid hB1; clear hb1 hR1 hB1 hc1)
  refine And.intro (by exact hc) ?_
  apply wpT_takeK rfl _ (by first | rfl | (simp [Region.wanted, yielded]; done))
  · intro w' hS
    have s0 := hS
    clear hS
    go_simp
    try rfl
  intro K hK
  go_simp
  refine hK _ ?_
  clear hK K
  refine wpT_alone rfl ?_
  focus go_wp2
  refine QS_abs (fun wn hwn => ?_)
  (have hb1 : wn.heap[B]? = some (.cells ((cellsO ⟨4, a1, a2, a3, a4, a5, a6, a7, a8, a9, a10, false, a12, noText, a14, noText, noText, 0, 0, 0⟩).setIfInBounds 17 (.int .u8 a17)) 27 (0, 0)) := (by rw [hwn]; exact heap_setCell_at (o := 17) (v := (.int .u8 a17)) HBb.out); have hR1 : wn.heap[R]? = some (.cells r 27 (0, 0)) := (by rw [hwn]; exact (Below.heap_setCell _ ⟨B, 17, none⟩ (.int .u8 a17) _ n2).trans HR.out); have hB1 : Below w.heap.size w wn := (by rw [hwn]; exact HB.out.setCell (p := ⟨B, 17, none⟩) n3 (.int .u8 a17)); have hc1 : ∀ i, wn.cell? ⟨w.heap.size, i, none⟩ = (cellsO q)[i]? := (by rw [hwn]; exact keepA_set (B := B) (j := 17) (v := (.int .u8 a17)) n1 hc); clear hc hf hd HBb HR HB hwn; simp only [cellsO_set17] at hb1; have hc := hc1; have hf : ∀ i, wn.frozen? ⟨B, i, none⟩ = false := fun i => frozen_of hb1 i; have hd : ∀ i, wn.cell? ⟨B, i, none⟩ = _ := fun i => cells_all hb1 i; have HBb := Lib.hid hb1; have HR := Lib.hid hR1; have HB := Lib.hid hB1; clear hb1 hR1 hB1 hc1)
  refine And.intro (by exact hc) ?_
  apply wpT_takeK rfl _ (by first | rfl | (simp [Region.wanted, yielded]; done))
  · intro w' hS
    have s0 := hS
    clear hS
    go_simp
    try rfl
  intro K hK
  go_simp
  refine hK _ ?_
  clear hK K
  refine wpT_alone rfl ?_
  focus go_wp2
  refine QS_abs (fun wn hwn => ?_)
  (have hb1 : wn.heap[B]? = some (.cells ((cellsO ⟨4, a1, a2, a3, a4, a5, a6, a7, a8, a9, a10, false, a12, noText, a14, noText, noText, a17, 0, 0⟩).setIfInBounds 18 (.int .u64 a18)) 27 (0, 0)) := (by rw [hwn]; exact heap_setCell_at (o := 18) (v := (.int .u64 a18)) HBb.out); have hR1 : wn.heap[R]? = some (.cells r 27 (0, 0)) := (by rw [hwn]; exact (Below.heap_setCell _ ⟨B, 18, none⟩ (.int .u64 a18) _ n2).trans HR.out); have hB1 : Below w.heap.size w wn := (by rw [hwn]; exact HB.out.setCell (p := ⟨B, 18, none⟩) n3 (.int .u64 a18)); have hc1 : ∀ i, wn.cell? ⟨w.heap.size, i, none⟩ = (cellsO q)[i]? := (by rw [hwn]; exact keepA_set (B := B) (j := 18) (v := (.int .u64 a18)) n1 hc); clear hc hf hd HBb HR HB hwn; simp only [cellsO_set18] at hb1; have hc := hc1; have hf : ∀ i, wn.frozen? ⟨B, i, none⟩ = false := fun i => frozen_of hb1 i; have hd : ∀ i, wn.cell? ⟨B, i, none⟩ = _ := fun i => cells_all hb1 i; have HBb := Lib.hid hb1; have HR := Lib.hid hR1; have HB := Lib.hid hB1; clear hb1 hR1 hB1 hc1)
  refine And.intro (by exact hc) ?_
  refine wpT_end ?_
  go_upto_region 17 with fail
  have hb2 := HBb.out
  have hR2 := HR.out
  have hB2 := HB.out
  have hlR := heap_lt hR2
  go_step
  refine wpList_loadObj rfl _ rfl _ rfl _ (cells_all hb2) ?_
  refine wpList_storeObj rfl _ _ rfl R rfl _ rfl r hR2 hr ?_
  clear hc hf hd HA HR HBb HB
  go_wp2
  refine bodyPost_ret (v := .agg (cellsO _)) (results_obj _ rfl rfl (cells_all (Wset_same hlR))) rfl ⟨?_, ?_⟩
  · rw [bareR_4]
  · exact hB2.trans (below_Wset' n4)

end Go.Proofs.Ytgplolfkfhhddaa
