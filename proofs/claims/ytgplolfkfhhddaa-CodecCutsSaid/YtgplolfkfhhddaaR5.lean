/- Layer 4 (codec): the program reads an object. -/
import Derived.Test.YtgplolfkfhhddaaR4
import Derived.Test.YtgplolfkfhhddaaW4
import Derived.Defers
import Derived.Recover
namespace Go.Proofs.Ytgplolfkfhhddaa
open Go.RowKit
set_option linter.unusedVariables false
set_option linter.unusedSimpArgs false

theorem caught_nil (w : World) : Calls Try.prog 23 #[.nilIface] w fun e w' => e = .returned (.bool false) ∧ w' = w := by
  go_enter Try.func23, Try.ntmps23
  go_wp2
  go_ret
  exact ⟨rfl, rfl⟩
set_option maxRecDepth 100000 in
theorem caught_fault (w : World) : Calls Try.prog 23 #[.iface 79 (.agg #[])] w fun e w' => e = .returned (.bool true) ∧ w' = w := by
  have hta : ∀ w, (Instr.typeAssert (.iface 79 (.agg #[])) 20 79 true).run Try.prog w = .ok (.tuple #[.agg #[], .bool true]) w := fun _ => by kernel_rfl
  go_enter Try.func23, Try.ntmps23
  go_wp2
  go_ret
  exact ⟨rfl, rfl⟩

theorem read1_idle (q r : Nat) (w : World) :
    CallsD Try.prog 22 #[.pointer (some ⟨q, 0, none⟩), .pointer (some ⟨r, 0, none⟩)] .returning w fun e u' w' => e = .returned (.tuple #[]) ∧ u' = .returning ∧ w' = w := by
  refine callsD_of_wpS Try.func22 rfl fun c₀ cs hu => ?_
  apply wpS_seq
  apply wpS_region
  simp [wpOpsS, go_sem, recoverD, hu, Try.ntmps22, Exit.thenS]
  refine (caught_nil w).mono ?_
  rintro e w2 ⟨rfl, rfl⟩
  refine wpS_cond (t := false) (by simp [Act.eval, Array.replicate]) ?_
  simp only [Bool.false_eq_true, if_false]
  refine wpS_of_wp (wp_skip ?_)
  cases c₀
  simp_all [bodyPostS, results, Try.results22]
theorem read1_panicking (q r : Nat) (o : Obj) (x : Int) (w : World) (hq : w.heap[q]? = some (.cells (cellsO o) 27 (0, 0))) (hr : w.heap[r]? = some (.cells #[.int .i64 x] 29 (0, 0))) (hqr : r ≠ q) :
    CallsD Try.prog 22 #[.pointer (some ⟨q, 0, none⟩), .pointer (some ⟨r, 0, none⟩)] (.panicking bad) w fun e u' w' =>
      e = .returned (.tuple #[]) ∧ u' = .panicking [{ v := .iface 79 (.agg #[]), recovered := true }] ∧ w' = (Wset w q (.cells (cellsO objZ) 27 (0, 0))).setCell ⟨r, 0, none⟩ (.int .i64 2) := by
  refine callsD_of_wpS Try.func22 rfl fun c₀ cs hu => ?_
  apply wpS_seq
  apply wpS_region
  simp [wpOpsS, go_sem, recoverD, hu, Try.ntmps22, Exit.thenS, bad]
  refine (caught_fault w).mono ?_
  rintro e w2 ⟨rfl, rfl⟩
  refine wpS_cond (t := true) (by simp [Act.eval, Array.replicate]) ?_
  simp only [if_true]
  refine wpS_of_wp ?_
  obtain ⟨c1, f1⟩ := cells_of_block ((Wset_ne (w := w2) (o := .cells (cellsO objZ) 27 (0, 0)) hqr).trans hr) 0 (.int .i64 x) rfl
  go_wp2_with (refine wpList_storeObj rfl _ _ rfl q rfl objZ rfl _ hq (cellsO_size _) ?_)
  exact ⟨rfl, _, rfl, _, results_none rfl _ _ _, rfl, rfl, rfl⟩

end Go.Proofs.Ytgplolfkfhhddaa
