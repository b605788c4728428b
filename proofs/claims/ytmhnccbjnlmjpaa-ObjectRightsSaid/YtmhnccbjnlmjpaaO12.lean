/- Layer 3 (object): what is left out. -/
import Derived.Test.YtmhnccbjnlmjpaaO4
namespace Go.Proofs.Ytmhnccbjnlmjpaa
open Go.RowKit
set_option linter.unusedVariables false
set_option linter.unusedSimpArgs false

/-- an object with what is left out -/
def defO (o : Obj) : Obj :=
  if o.kind = 3 then { o with hold := true, phase := if o.phase = 0 then 1 else o.phase, mode := if o.mode = 0 then 1 else o.mode }
  else if o.kind = 4 then { o with hold := true, phase := if o.phase = 0 then 4 else o.phase, mode := if o.mode = 0 then 1 else o.mode, got := if o.got = 0 then o.size else o.got }
  else if o.kind = 7 then { o with hold := true, phase := if o.phase = 0 then 1 else o.phase }
  else if o.kind = 5 then { o with name := if o.name.toList = [] then attachN o.volume o.node else o.name }
  else o

set_option maxRecDepth 100000 in
set_option maxHeartbeats 4000000 in
theorem def_3 (o : Obj) (w : World) (hk : o.kind = 3) :
    Calls Try.prog 19 #[.agg (cellsO o)] w fun e w' => e = .returned (.agg (cellsO (defO o))) ∧ Below w.heap.size w w' := by
  have hsz : ∀ a : Go.Obj, w.heap.size + 1 = (w.alloc a).heap.size := fun a => by simp
  have HSZ := Lib.hid hsz
  clear hsz
  obtain ⟨kk, a1, a2, a3, a4, a5, a6, a7, a8, a9, a10, a11, a12, a13, a14, a15, a16, a17, a18, a19⟩ := o
  simp only at hk
  subst hk
  cases a5 <;> by_cases p : a17 = 0 <;> by_cases m : a9 = 0
  all_goals first | subst p | (have p1 : (a17 == 0) = false := by simpa using p)
  all_goals first | subst m | (have m1 : (a9 == 0) = false := by simpa using m)

  all_goals go_enter Try.func19, Try.ntmps19
  all_goals go_upto_region 15 with (fail)
  all_goals go_step
  all_goals refine wpList_loadObj rfl _ rfl _ rfl _ (cells_all ((heap_alloc_lt (by simp)).trans heap_alloc_eq)) ?_
  all_goals refine wpList_storeObj rfl _ _ rfl (w.heap.size + 1) rfl _ rfl _ (by rw [HSZ.out]; exact heap_alloc_eq) rfl ?_
  all_goals go_wp2
  all_goals refine bodyPost_ret (v := .agg (cellsO _)) (results_obj _ rfl rfl (cells_all (Wset_same (by simp)))) rfl ⟨?_, ?_⟩
  any_goals simp [defO, *]
  all_goals rw [HSZ.out, Wset_alloc]
  all_goals exact (((Below.refl _ _).alloc (Nat.le_refl _) _).alloc (by simp) _)

set_option maxRecDepth 100000 in
set_option maxHeartbeats 4000000 in
theorem def_7 (o : Obj) (w : World) (hk : o.kind = 7) :
    Calls Try.prog 19 #[.agg (cellsO o)] w fun e w' => e = .returned (.agg (cellsO (defO o))) ∧ Below w.heap.size w w' := by
  have hsz : ∀ a : Go.Obj, w.heap.size + 1 = (w.alloc a).heap.size := fun a => by simp
  have HSZ := Lib.hid hsz
  clear hsz
  obtain ⟨kk, a1, a2, a3, a4, a5, a6, a7, a8, a9, a10, a11, a12, a13, a14, a15, a16, a17, a18, a19⟩ := o
  simp only at hk
  subst hk
  cases a5 <;> by_cases p : a17 = 0 <;> by_cases m : a9 = 0
  all_goals first | subst p | (have p1 : (a17 == 0) = false := by simpa using p)
  all_goals first | subst m | (have m1 : (a9 == 0) = false := by simpa using m)

  all_goals go_enter Try.func19, Try.ntmps19
  all_goals go_upto_region 15 with (fail)
  all_goals go_step
  all_goals refine wpList_loadObj rfl _ rfl _ rfl _ (cells_all ((heap_alloc_lt (by simp)).trans heap_alloc_eq)) ?_
  all_goals refine wpList_storeObj rfl _ _ rfl (w.heap.size + 1) rfl _ rfl _ (by rw [HSZ.out]; exact heap_alloc_eq) rfl ?_
  all_goals go_wp2
  all_goals refine bodyPost_ret (v := .agg (cellsO _)) (results_obj _ rfl rfl (cells_all (Wset_same (by simp)))) rfl ⟨?_, ?_⟩
  any_goals simp [defO, *]
  all_goals rw [HSZ.out, Wset_alloc]
  all_goals exact (((Below.refl _ _).alloc (Nat.le_refl _) _).alloc (by simp) _)

set_option maxRecDepth 100000 in
set_option maxHeartbeats 4000000 in
theorem def_4 (o : Obj) (w : World) (hk : o.kind = 4) :
    Calls Try.prog 19 #[.agg (cellsO o)] w fun e w' => e = .returned (.agg (cellsO (defO o))) ∧ Below w.heap.size w w' := by
  have hsz : ∀ a : Go.Obj, w.heap.size + 1 = (w.alloc a).heap.size := fun a => by simp
  have HSZ := Lib.hid hsz
  clear hsz
  obtain ⟨kk, a1, a2, a3, a4, a5, a6, a7, a8, a9, a10, a11, a12, a13, a14, a15, a16, a17, a18, a19⟩ := o
  simp only at hk
  subst hk
  cases a5 <;> by_cases p : a17 = 0 <;> by_cases m : a9 = 0 <;> by_cases g : a8 = 0
  all_goals first | subst p | (have p1 : (a17 == 0) = false := by simpa using p)
  all_goals first | subst m | (have m1 : (a9 == 0) = false := by simpa using m)
  all_goals first | subst g | (have g1 : (a8 == 0) = false := by simpa using g)

  all_goals go_enter Try.func19, Try.ntmps19
  all_goals go_upto_region 15 with (fail)
  all_goals go_step
  all_goals refine wpList_loadObj rfl _ rfl _ rfl _ (cells_all ((heap_alloc_lt (by simp)).trans heap_alloc_eq)) ?_
  all_goals refine wpList_storeObj rfl _ _ rfl (w.heap.size + 1) rfl _ rfl _ (by rw [HSZ.out]; exact heap_alloc_eq) rfl ?_
  all_goals go_wp2
  all_goals refine bodyPost_ret (v := .agg (cellsO _)) (results_obj _ rfl rfl (cells_all (Wset_same (by simp)))) rfl ⟨?_, ?_⟩
  any_goals simp [defO, *]
  all_goals rw [HSZ.out, Wset_alloc]
  all_goals exact (((Below.refl _ _).alloc (Nat.le_refl _) _).alloc (by simp) _)

set_option maxRecDepth 100000 in
set_option maxHeartbeats 4000000 in
theorem def_0 (o : Obj) (w : World) (hk : o.kind ≠ 3 ∧ o.kind ≠ 4 ∧ o.kind ≠ 5 ∧ o.kind ≠ 7) :
    Calls Try.prog 19 #[.agg (cellsO o)] w fun e w' => e = .returned (.agg (cellsO (defO o))) ∧ Below w.heap.size w w' := by
  have hsz : ∀ a : Go.Obj, w.heap.size + 1 = (w.alloc a).heap.size := fun a => by simp
  have HSZ := Lib.hid hsz
  clear hsz
  obtain ⟨kk, a1, a2, a3, a4, a5, a6, a7, a8, a9, a10, a11, a12, a13, a14, a15, a16, a17, a18, a19⟩ := o
  simp only at hk
  have HK := Lib.hid hk
  obtain ⟨k3, k4, k5, k7⟩ := hk
  have j3 : (kk == 3) = false := by simpa using k3
  have j4 : (kk == 4) = false := by simpa using k4
  have j5 : (kk == 5) = false := by simpa using k5
  have j7 : (kk == 7) = false := by simpa using k7
  clear k3 k4 k5 k7
  cases a5 <;> by_cases p : a17 = 0 <;> by_cases m : a9 = 0
  all_goals first | subst p | (have p1 : (a17 == 0) = false := by simpa using p)
  all_goals first | subst m | (have m1 : (a9 == 0) = false := by simpa using m)

  all_goals go_enter Try.func19, Try.ntmps19
  all_goals go_upto_region 15 with (fail)
  all_goals go_step
  all_goals refine wpList_loadObj rfl _ rfl _ rfl _ (cells_all ((heap_alloc_lt (by simp)).trans heap_alloc_eq)) ?_
  all_goals refine wpList_storeObj rfl _ _ rfl (w.heap.size + 1) rfl _ rfl _ (by rw [HSZ.out]; exact heap_alloc_eq) rfl ?_
  all_goals go_wp2
  all_goals refine bodyPost_ret (v := .agg (cellsO _)) (results_obj _ rfl rfl (cells_all (Wset_same (by simp)))) rfl ⟨?_, ?_⟩
  any_goals simp [defO, HK.out]
  all_goals rw [HSZ.out, Wset_alloc]
  all_goals exact (((Below.refl _ _).alloc (Nat.le_refl _) _).alloc (by simp) _)

set_option maxRecDepth 100000 in
set_option maxHeartbeats 4000000 in
theorem def_5 (o : Obj) (w : World) (hk : o.kind = 5) (hn : ¬ o.name.toList = []) :
    Calls Try.prog 19 #[.agg (cellsO o)] w fun e w' => e = .returned (.agg (cellsO (defO o))) ∧ Below w.heap.size w w' := by
  have hsz : ∀ a : Go.Obj, w.heap.size + 1 = (w.alloc a).heap.size := fun a => by simp
  have HSZ := Lib.hid hsz
  clear hsz
  obtain ⟨kk, a1, a2, a3, a4, a5, a6, a7, a8, a9, a10, a11, a12, a13, a14, a15, a16, a17, a18, a19⟩ := o
  simp only at hk hn
  subst hk
  have n1 : (a1.toList == []) = false := by simpa using hn
  cases a5 <;> by_cases p : a17 = 0 <;> by_cases m : a9 = 0
  all_goals first | subst p | (have p1 : (a17 == 0) = false := by simpa using p)
  all_goals first | subst m | (have m1 : (a9 == 0) = false := by simpa using m)

  all_goals go_enter Try.func19, Try.ntmps19
  all_goals go_upto_region 15 with (fail)
  all_goals go_step
  all_goals refine wpList_loadObj rfl _ rfl _ rfl _ (cells_all ((heap_alloc_lt (by simp)).trans heap_alloc_eq)) ?_
  all_goals refine wpList_storeObj rfl _ _ rfl (w.heap.size + 1) rfl _ rfl _ (by rw [HSZ.out]; exact heap_alloc_eq) rfl ?_
  all_goals go_wp2
  all_goals refine bodyPost_ret (v := .agg (cellsO _)) (results_obj _ rfl rfl (cells_all (Wset_same (by simp)))) rfl ⟨?_, ?_⟩
  any_goals simp [defO, hn]
  all_goals rw [HSZ.out, Wset_alloc]
  all_goals exact (((Below.refl _ _).alloc (Nat.le_refl _) _).alloc (by simp) _)


end Go.Proofs.Ytmhnccbjnlmjpaa
