/- Layer 3 (object): what a kind names. -/
import Derived.Test.YtobpohjhhelljaaO2
import Derived.Deep.Cut
namespace Go.Proofs.Ytobpohjhhelljaa
open Go.RowKit
set_option linter.unusedVariables false
set_option linter.unusedSimpArgs false

set_option maxRecDepth 100000 in
set_option maxHeartbeats 2000000 in
theorem rest_any (o : Obj) (w : World) : Calls Try.prog 91 #[.agg (cellsO o)] w fun e w' => e = .returned (.agg (cellsO (restO o))) ∧ Below w.heap.size w w' := by
  have hsz : ∀ a : Go.Obj, w.heap.size + 1 = (w.alloc a).heap.size := fun a => by simp
  have HSZ := Lib.hid hsz
  clear hsz
  obtain ⟨kk, a1, a2, a3, a4, a5, a6, a7, a8, a9, a10, a11, a12, a13, a14, a15, a16, a17, a18, a19⟩ := o
  by_cases k1 : kk = 1
  · subst k1
    go_enter Try.func91, Try.ntmps91
    go_upto_region 17 with (fail)
    go_step
    refine wpList_loadObj rfl _ rfl _ rfl _ (cells_all ((heap_alloc_lt (by simp)).trans heap_alloc_eq)) ?_
    refine wpList_storeObj rfl _ _ rfl (w.heap.size + 1) rfl _ rfl _ (by rw [HSZ.out]; exact heap_alloc_eq) rfl ?_
    go_wp2
    refine bodyPost_ret (v := .agg (cellsO _)) (results_obj _ rfl rfl (cells_all (Wset_same (by simp)))) rfl ⟨?_, ?_⟩
    · simp [restO]
    · rw [HSZ.out, Wset_alloc]
      exact (((Below.refl _ _).alloc (Nat.le_refl _) _).alloc (by simp) _)
  by_cases k2 : kk = 2
  · subst k2
    go_enter Try.func91, Try.ntmps91
    go_upto_region 17 with (fail)
    go_step
    refine wpList_loadObj rfl _ rfl _ rfl _ (cells_all ((heap_alloc_lt (by simp)).trans heap_alloc_eq)) ?_
    refine wpList_storeObj rfl _ _ rfl (w.heap.size + 1) rfl _ rfl _ (by rw [HSZ.out]; exact heap_alloc_eq) rfl ?_
    go_wp2
    refine bodyPost_ret (v := .agg (cellsO _)) (results_obj _ rfl rfl (cells_all (Wset_same (by simp)))) rfl ⟨?_, ?_⟩
    · simp [restO]
    · rw [HSZ.out, Wset_alloc]
      exact (((Below.refl _ _).alloc (Nat.le_refl _) _).alloc (by simp) _)
  by_cases k3 : kk = 3
  · subst k3
    go_enter Try.func91, Try.ntmps91
    go_upto_region 17 with (fail)
    go_step
    refine wpList_loadObj rfl _ rfl _ rfl _ (cells_all ((heap_alloc_lt (by simp)).trans heap_alloc_eq)) ?_
    refine wpList_storeObj rfl _ _ rfl (w.heap.size + 1) rfl _ rfl _ (by rw [HSZ.out]; exact heap_alloc_eq) rfl ?_
    go_wp2
    refine bodyPost_ret (v := .agg (cellsO _)) (results_obj _ rfl rfl (cells_all (Wset_same (by simp)))) rfl ⟨?_, ?_⟩
    · simp [restO]
    · rw [HSZ.out, Wset_alloc]
      exact (((Below.refl _ _).alloc (Nat.le_refl _) _).alloc (by simp) _)
  by_cases k4 : kk = 4
  · subst k4
    go_enter Try.func91, Try.ntmps91
    go_upto_region 17 with (fail)
    go_step
    refine wpList_loadObj rfl _ rfl _ rfl _ (cells_all ((heap_alloc_lt (by simp)).trans heap_alloc_eq)) ?_
    refine wpList_storeObj rfl _ _ rfl (w.heap.size + 1) rfl _ rfl _ (by rw [HSZ.out]; exact heap_alloc_eq) rfl ?_
    go_wp2
    refine bodyPost_ret (v := .agg (cellsO _)) (results_obj _ rfl rfl (cells_all (Wset_same (by simp)))) rfl ⟨?_, ?_⟩
    · simp [restO]
    · rw [HSZ.out, Wset_alloc]
      exact (((Below.refl _ _).alloc (Nat.le_refl _) _).alloc (by simp) _)
  by_cases k5 : kk = 5
  · subst k5
    go_enter Try.func91, Try.ntmps91
    go_upto_region 17 with (fail)
    go_step
    refine wpList_loadObj rfl _ rfl _ rfl _ (cells_all ((heap_alloc_lt (by simp)).trans heap_alloc_eq)) ?_
    refine wpList_storeObj rfl _ _ rfl (w.heap.size + 1) rfl _ rfl _ (by rw [HSZ.out]; exact heap_alloc_eq) rfl ?_
    go_wp2
    refine bodyPost_ret (v := .agg (cellsO _)) (results_obj _ rfl rfl (cells_all (Wset_same (by simp)))) rfl ⟨?_, ?_⟩
    · simp [restO]
    · rw [HSZ.out, Wset_alloc]
      exact (((Below.refl _ _).alloc (Nat.le_refl _) _).alloc (by simp) _)
  by_cases k6 : kk = 6
  · subst k6
    go_enter Try.func91, Try.ntmps91
    go_upto_region 17 with (fail)
    go_step
    refine wpList_loadObj rfl _ rfl _ rfl _ (cells_all ((heap_alloc_lt (by simp)).trans heap_alloc_eq)) ?_
    refine wpList_storeObj rfl _ _ rfl (w.heap.size + 1) rfl _ rfl _ (by rw [HSZ.out]; exact heap_alloc_eq) rfl ?_
    go_wp2
    refine bodyPost_ret (v := .agg (cellsO _)) (results_obj _ rfl rfl (cells_all (Wset_same (by simp)))) rfl ⟨?_, ?_⟩
    · simp [restO]
    · rw [HSZ.out, Wset_alloc]
      exact (((Below.refl _ _).alloc (Nat.le_refl _) _).alloc (by simp) _)
  by_cases k7 : kk = 7
  · subst k7
    go_enter Try.func91, Try.ntmps91
    go_upto_region 17 with (fail)
    go_step
    refine wpList_loadObj rfl _ rfl _ rfl _ (cells_all ((heap_alloc_lt (by simp)).trans heap_alloc_eq)) ?_
    refine wpList_storeObj rfl _ _ rfl (w.heap.size + 1) rfl _ rfl _ (by rw [HSZ.out]; exact heap_alloc_eq) rfl ?_
    go_wp2
    refine bodyPost_ret (v := .agg (cellsO _)) (results_obj _ rfl rfl (cells_all (Wset_same (by simp)))) rfl ⟨?_, ?_⟩
    · simp [restO]
    · rw [HSZ.out, Wset_alloc]
      exact (((Below.refl _ _).alloc (Nat.le_refl _) _).alloc (by simp) _)
  have j1 : (kk == 1) = false := by simpa using k1
  have j2 : (kk == 2) = false := by simpa using k2
  have j3 : (kk == 3) = false := by simpa using k3
  have j4 : (kk == 4) = false := by simpa using k4
  have j5 : (kk == 5) = false := by simpa using k5
  have j6 : (kk == 6) = false := by simpa using k6
  have j7 : (kk == 7) = false := by simpa using k7
  go_enter Try.func91, Try.ntmps91
  go_upto_region 17 with (fail)
  go_step
  refine wpList_loadObj rfl _ rfl _ rfl _ (cells_all ((heap_alloc_lt (by simp)).trans heap_alloc_eq)) ?_
  refine wpList_storeObj rfl _ _ rfl (w.heap.size + 1) rfl _ rfl _ (by rw [HSZ.out]; exact heap_alloc_eq) rfl ?_
  go_wp2
  refine bodyPost_ret (v := .agg (cellsO _)) (results_obj _ rfl rfl (cells_all (Wset_same (by simp)))) rfl ⟨?_, ?_⟩
  · simp [restO, k1, k2, k3, k4, k5, k6, k7]
  · rw [HSZ.out, Wset_alloc]
    exact (((Below.refl _ _).alloc (Nat.le_refl _) _).alloc (by simp) _)

end Go.Proofs.Ytobpohjhhelljaa
