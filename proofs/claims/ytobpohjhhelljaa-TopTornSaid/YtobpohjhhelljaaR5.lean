/- Layer 4 (codec): what the program reads as an object. -/
import Derived.Test.YtobpohjhhelljaaR4
import Derived.Test.YtobpohjhhelljaaW3
import Derived.Defers
import Derived.Recover
namespace Go.Proofs.Ytobpohjhhelljaa
open Go.RowKit
set_option linter.unusedVariables false
set_option linter.unusedSimpArgs false


theorem caught_nil (w : World) : Calls Try.prog 83 #[.nilIface] w fun e w' => e = .returned (.bool false) ∧ w' = w := by
  go_enter Try.func83, Try.ntmps83
  go_wp2
  go_ret
  exact ⟨rfl, rfl⟩
set_option maxRecDepth 100000 in
theorem caught_fault (w : World) : Calls Try.prog 83 #[.iface 175 (.agg #[])] w fun e w' => e = .returned (.bool true) ∧ w' = w := by
  have hta : ∀ w, (Instr.typeAssert (.iface 175 (.agg #[])) 20 175 true).run Try.prog w = .ok (.tuple #[.agg #[], .bool true]) w := fun _ => by kernel_rfl
  go_enter Try.func83, Try.ntmps83
  go_wp2
  go_ret
  exact ⟨rfl, rfl⟩



theorem results_oe {fn : Func} {tmps : Array Value} {w : World} {b c : Nat} {t u : Tmp} {x : Int} (p : Obj) (hr : fn.results = #[.cell t 31, .cell u 32]) (ht : tmps[t]?.getD undef = .pointer (some ⟨b, 0, none⟩)) (hu : tmps[u]?.getD undef = .pointer (some ⟨c, 0, none⟩)) (h : ∀ k, w.cell? ⟨b, k, none⟩ = (cellsO p)[k]?) (hc : w.cell? ⟨c, 0, none⟩ = some (.int .i64 x)) :
    (results fn tmps).run Try.prog w = .ok (.tuple #[.agg (cellsO p), .int .i64 x]) w := by
  have h0 := run_loadVar_obj p b w h
  have h1 : (loadVar 32 ⟨c, 0, none⟩).run Try.prog w = .ok (.int .i64 x) w := by
    have h1 : (isAgg 32).run Try.prog w = .ok false w := by kernel_rfl
    simp [loadVar, h1, hc, load, Result.andThen, go_sem]
    simp only [Sem.run, hc]
  simp [results, hr, ht, hu, asAddr, h0, h1, Result.andThen]

def ReadR (w w' : World) (e : Ending) (d : Option Obj) : Prop := e = .returned (.tuple #[.agg (cellsO (d.getD objZ)), .int .i64 (if d.isSome then 0 else 2)]) ∧ Below w.heap.size w w'

theorem belowWs {w w' : World} {B b : Nat} {o : Go.Obj} (h : Below B w w') (hb : B ≤ b) : Below B w (Wset w' b o) := ⟨h.os, h.tape, h.output, by rw [Wset_size]; exact h.size, fun k hk => (Wset_ne (by omega)).trans (h.block k hk)⟩
theorem KeepP.belowP {p B : Nat} {w w' : World} (h : KeepP p w w') (hB : B ≤ p) (hw : B ≤ w.heap.size) : Below B w w' := ⟨h.os, h.tape, h.output, h.size, fun k hk => h.block k (by omega) (by omega)⟩
theorem cell_set_same {w : World} {b : Nat} {v u : Value} {t : TypeId} (h : w.heap[b]? = some (.cells #[v] t (0, 0))) : (w.setCell ⟨b, 0, none⟩ u).cell? ⟨b, 0, none⟩ = some u := by
  have := heap_setCell_same (o := 0) (v := u) h
  simp only [World.cell?, this]; simp
theorem readD_none {bs : Bs} (h : objD 40 bs = none) : readD bs = none := by unfold readD; rw [h]
theorem readD_more' {bs r : Bs} {o : Obj} (h : objD 40 bs = some (o, r)) (hr : r ≠ []) : readD bs = none := by unfold readD; rw [h]; simp only [wd, if_neg hr]
theorem readD_all {bs : Bs} {o : Obj} (h : objD 40 bs = some (o, [])) : readD bs = some o := by unfold readD; rw [h]; simp only [wd, if_pos]

theorem SrcB.start {w w' : World} {B B' : Nat} {v : Value} {l : Bs} (h : SrcB w B v l) (hb : Below B w w') (hB : B ≤ B' := by omega) : SrcB w' B' v l := by
  rcases h with ⟨h, hlo⟩ | h
  · exact .inl ⟨h.keep fun b e k => World.cell?_of_block (a := ⟨b, k, none⟩) (hb.block b (hlo b e)), fun b e => Nat.lt_of_lt_of_le (hlo b e) hB⟩
  · exact .inr h

end Go.Proofs.Ytobpohjhhelljaa
