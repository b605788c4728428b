/- Layer 3 (object): what is left out: an attachment's name. -/
import Derived.Test.YtmhnccbjnlmjpaaO12
namespace Go.Proofs.Ytmhnccbjnlmjpaa
open Go.RowKit
set_option linter.unusedVariables false
set_option linter.unusedSimpArgs false

theorem Wset_size {w : World} {b : Nat} {o : Go.Obj} : (Wset w b o).heap.size = w.heap.size := by simp [Wset]
theorem below_Wset {B b : Nat} {a w : World} {o : Go.Obj} (h : Below B a w) (hb : B ≤ b) : Below B a (Wset w b o) :=
  ⟨h.os, h.tape, h.output, by rw [Wset_size]; exact h.size, fun k hk => (Wset_ne (by omega)).trans (h.block k hk)⟩

set_option maxRecDepth 100000 in
set_option maxHeartbeats 4000000 in
theorem def_5e (o : Obj) (w : World) (hk : o.kind = 5) (hn : o.name.toList = []) (hs : o.volume.size + o.node.size + 1 ≤ 140737488355328) :
    Calls Try.prog 19 #[.agg (cellsO o)] w fun e w' => e = .returned (.agg (cellsO (defO o))) ∧ Below w.heap.size w w' := by
  have hsz : ∀ a : Go.Obj, w.heap.size + 1 = (w.alloc a).heap.size := fun a => by simp
  have HSZ := Lib.hid hsz
  clear hsz
  obtain ⟨kk, a1, a2, a3, a4, a5, a6, a7, a8, a9, a10, a11, a12, a13, a14, a15, a16, a17, a18, a19⟩ := o
  simp only at hk hn hs
  subst hk
  have n1 : (a1.toList == []) = true := by simp [hn]
  have HS := Lib.hid hs
  clear hs
  cases a5 <;> by_cases p : a17 = 0 <;> by_cases m : a9 = 0
  all_goals first | subst p | (have p1 : (a17 == 0) = false := by simpa using p)
  all_goals first | subst m | (have m1 : (a9 == 0) = false := by simpa using m)
  all_goals go_enter Try.func19, Try.ntmps19
  all_goals go_wp2_with fail
  all_goals refine (attach_any _ _ _ HS.out).mono ?_
  all_goals rintro e w1 ⟨rfl, hb1⟩
  all_goals have hA := (hb1.block w.heap.size (by simp; omega)).trans ((heap_alloc_lt (by simp)).trans heap_alloc_eq)
  all_goals have hB := (hb1.block (w.heap.size + 1) (by simp)).trans ((congrArg _ (HSZ.out _)).trans heap_alloc_eq)
  all_goals have hF := frozen_all hA
  all_goals have hC := cells_all hA
  all_goals have HA := Lib.hid hA
  all_goals have HB := Lib.hid hB
  all_goals have HB1 := Lib.hid hb1
  all_goals clear hb1 hA hB
  all_goals have hlt : w.heap.size + 1 < w1.heap.size := Nat.lt_of_lt_of_le (by simp) HB1.out.size
  all_goals have HL := Lib.hid hlt
  all_goals clear hlt
  all_goals go_upto_region 15 with (fail)
  all_goals go_step
  all_goals rw [setCell_block HA.out]
  all_goals simp only [cellsO_set1]
  all_goals refine wpList_loadObj rfl _ rfl _ rfl _ (cells_all (Wset_same (Nat.lt_trans (Nat.lt_succ_self _) HL.out))) ?_
  all_goals refine wpList_storeObj rfl _ _ rfl (w.heap.size + 1) rfl _ rfl _ ((Wset_ne (Nat.succ_ne_self _)).trans HB.out) rfl ?_
  all_goals go_wp2
  all_goals refine bodyPost_ret (v := .agg (cellsO _)) (results_obj _ rfl rfl (cells_all (Wset_same (by simp only [Wset_size]; exact HL.out)))) rfl ⟨by simp [defO, hn], ?_⟩
  all_goals refine below_Wset (below_Wset ?_ (Nat.le_refl _)) (Nat.le_succ _)
  all_goals exact (((Below.refl _ _).alloc (Nat.le_refl _) _).alloc (by simp) _).trans (HB1.out.mono (by simp; omega))

end Go.Proofs.Ytmhnccbjnlmjpaa
