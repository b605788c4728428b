/- Layer 4 (codec): what the program reads as a change. -/
import Derived.Test.YtgplolfkfhhddaaR6
import Derived.Test.YtgplolfkfhhddaaW4
namespace Go.Proofs.Ytgplolfkfhhddaa
open Go.RowKit
set_option linter.unusedVariables false
set_option linter.unusedSimpArgs false

def evZ : Ev := ⟨0, false, objZ⟩
theorem evZ_cells : cellsEv evZ = #[.int .u64 0, .bool false, .int .u8 0, .string noText, .int .u64 0, .int .u64 0, .bool false, .bool false, .string noText, .int .i64 0, .int .i64 0, .int .u8 0, .bool false, .bool false, .string noText, .string noText, .string noText, .string noText, .string noText, .int .u8 0, .int .u64 0, .int .u64 0] := by simp [cellsEv, evZ, objZ_cells]

/-! ### a change's box, written -/
theorem Wset_id {w : World} {b : Nat} {o : Go.Obj} (h : w.heap[b]? = some o) : Wset w b o = w := by
  unfold Wset
  have hb := (Array.getElem?_eq_some_iff.1 h)
  congr 1
  apply Array.ext_getElem?
  intro k
  by_cases hk : b = k
  · subst hk; simp [hb.1, hb.2]
  · simp [Array.getElem?_setIfInBounds_ne hk]
def setAll (cs : Array Value) (off : Nat) : Nat → List Value → Array Value
  | _, [] => cs
  | i, v :: vs => setAll (cs.setIfInBounds (off + i) v) off (i + 1) vs
theorem store_cells_at {P : Program} {b off : Nat} {t : TypeId} : ∀ (vs : List Value) (i : Nat) (cs : Array Value) (w : World), w.heap[b]? = some (.cells cs t (0, 0)) → (∀ v ∈ vs, oneV v = true) → off + i + vs.length ≤ cs.size →
    (storeCells ⟨b, off, none⟩ vs i).run P w = .ok () (Wset w b (.cells (setAll cs off i vs) t (0, 0)))
  | [], i, cs, w, h, _, _ => by
    simp only [storeCells, setAll, Sem.run_pure]
    rw [Wset_id h]
  | v :: vs, i, cs, w, h, hone, hl => by
    simp only [List.length_cons] at hl
    have hc : ∃ u, w.cell? ⟨b, off + i, none⟩ = some u := ⟨cs[off + i]'(by omega), by simp [World.cell?, h, show off + i < cs.size by omega]⟩
    obtain ⟨u, hc⟩ := hc
    have hf : w.frozen? ⟨b, off + i, none⟩ = false := by simp [World.frozen?, h]
    have hv1 : oneV v = true := hone v (by simp)
    have hst : (store ⟨b, off + i, none⟩ v).run P w = .ok () (w.setCell ⟨b, off + i, none⟩ v) := by
      unfold store
      cases v <;> simp [oneV] at hv1 <;> simp [Sem.run, hc, hf]
    simp only [storeCells, Sem.run_bind, Addr.add_lit, hst, Result.andThen]
    rw [setCell_block h v]
    have hb := (Array.getElem?_eq_some_iff.1 h).1
    rw [store_cells_at vs (i + 1) (cs.setIfInBounds (off + i) v) _ (Wset_same hb) (fun x hx => hone x (List.mem_cons_of_mem _ hx)) (by simp; omega), Wset_twice]
    rfl
theorem oneV_ev (c : Ev) : ∀ v ∈ (cellsEv c).toList, oneV v = true := by
  intro v hv
  simp [cellsEv, cellsO] at hv
  rcases hv with h | h | h | h | h | h | h | h | h | h | h | h | h | h | h | h | h | h | h | h | h | h <;> subst h <;> rfl
theorem oneV_obj (o : Obj) : ∀ v ∈ (cellsO o).toList, oneV v = true := by
  intro v hv
  simp [cellsO] at hv
  rcases hv with h | h | h | h | h | h | h | h | h | h | h | h | h | h | h | h | h | h | h | h <;> subst h <;> rfl
set_option maxHeartbeats 4000000 in
set_option maxRecDepth 100000 in
theorem setAll_obj (c : Ev) (o : Obj) : setAll (cellsEv c) 2 0 (cellsO o).toList = cellsEv { c with obj := o } := by
  simp [cellsEv, cellsO, setAll]
set_option maxHeartbeats 4000000 in
set_option maxRecDepth 100000 in
theorem setAll_ev (c e : Ev) : setAll (cellsEv c) 0 0 (cellsEv e).toList = cellsEv e := by
  simp [cellsEv, cellsO, setAll]
theorem setVersion (c : Ev) (x : Int) : (cellsEv c).setIfInBounds 0 (.int .u64 x) = cellsEv { c with version := x } := by simp [cellsEv, cellsO]
theorem setGone (c : Ev) (g : Bool) : (cellsEv c).setIfInBounds 1 (.bool g) = cellsEv { c with gone := g } := by simp [cellsEv, cellsO]

theorem wpList_storeEv {ops : Array Oper} {Q : Exit → Act → World → Prop} {o : Oper} {rest : List Oper} {a : Act} {w : World} (hg : o.guard = none) (x y : Operand) (hop : o.op = .store 39 x y) (b : Nat) (hx : a.eval x = .pointer (some ⟨b, 0, none⟩))
    (e c : Ev) (hy : a.eval y = .agg (cellsEv e)) (h : w.heap[b]? = some (.cells (cellsEv c) 39 (0, 0))) (hK : wpList Try.prog ops Q rest (a.put o.dst undef) (Wset w b (.cells (cellsEv e) 39 (0, 0)))) :
    wpList Try.prog ops Q (o :: rest) a w :=
  wpList_plain hg fun K hK' => by
    unfold Oper.wp
    have h2 : (sizeOf 39).run Try.prog w = .ok 22 w := by kernel_rfl
    have h3 := store_cells_at (P := Try.prog) (off := 0) (cellsEv e).toList 0 (cellsEv c) w h (oneV_ev e) (by simp [cellsEv])
    rw [setAll_ev] at h3
    have h4 : (storeVar 39 ⟨b, 0, none⟩ (.agg (cellsEv e))).run Try.prog w = .ok () (Wset w b (.cells (cellsEv e) 39 (0, 0))) := by
      simp only [storeVar, Sem.run_bind, h2, Result.andThen, Value.cells, cellsEv_size]
      simpa using h3
    have e1 : (execOp a.eval o).run Try.prog w = .ok .skip (Wset w b (.cells (cellsEv e) 39 (0, 0))) := by simp [execOp, hop, hx, hy, Instr.storeAt, run_sureAddr, h4, Result.andThen]
    rw [e1]
    exact hK' _ _ hK
theorem wpList_storeObjAt {ops : Array Oper} {Q : Exit → Act → World → Prop} {o : Oper} {rest : List Oper} {a : Act} {w : World} (hg : o.guard = none) (x y : Operand) (hop : o.op = .store 27 x y) (b : Nat) (hx : a.eval x = .pointer (some ⟨b, 2, none⟩))
    (p : Obj) (c : Ev) (hy : a.eval y = .agg (cellsO p)) (h : w.heap[b]? = some (.cells (cellsEv c) 39 (0, 0))) (hK : wpList Try.prog ops Q rest (a.put o.dst undef) (Wset w b (.cells (cellsEv { c with obj := p }) 39 (0, 0)))) :
    wpList Try.prog ops Q (o :: rest) a w :=
  wpList_plain hg fun K hK' => by
    unfold Oper.wp
    have h2 : (sizeOf 27).run Try.prog w = .ok 20 w := by kernel_rfl
    have h3 := store_cells_at (P := Try.prog) (off := 2) (cellsO p).toList 0 (cellsEv c) w h (oneV_obj p) (by simp [cellsEv])
    rw [setAll_obj] at h3
    have h4 : (storeVar 27 ⟨b, 2, none⟩ (.agg (cellsO p))).run Try.prog w = .ok () (Wset w b (.cells (cellsEv { c with obj := p }) 39 (0, 0))) := by
      simp only [storeVar, Sem.run_bind, h2, Result.andThen, Value.cells, cellsO_size]
      simpa using h3
    have e1 : (execOp a.eval o).run Try.prog w = .ok .skip (Wset w b (.cells (cellsEv { c with obj := p }) 39 (0, 0))) := by simp [execOp, hop, hx, hy, Instr.storeAt, run_sureAddr, h4, Result.andThen]
    rw [e1]
    exact hK' _ _ hK
theorem run_loadVar_ev0 (c : Ev) (b : Nat) (w : World) (h : ∀ k, w.cell? ⟨b, k, none⟩ = (cellsEv c)[k]?) : (loadVar 39 ⟨b, 0, none⟩).run Try.prog w = .ok (.agg (cellsEv c)) w := by
  have := load_cells (P := Try.prog) h 22 0 #[] (by simp [cellsEv]) (by simp)
  have h1 : (isAgg 39).run Try.prog w = .ok true w := by kernel_rfl
  have h2 : (sizeOf 39).run Try.prog w = .ok 22 w := by kernel_rfl
  simp only [loadVar, Sem.run_bind, h1, h2, Result.andThen, loadCells, this, if_true, Sem.run_pure]
theorem wpList_loadEv0 {ops : Array Oper} {Q : Exit → Act → World → Prop} {o : Oper} {rest : List Oper} {a : Act} {w : World} (hg : o.guard = none) (x : Operand) (hop : o.op = .load 39 x) (b : Nat) (hx : a.eval x = .pointer (some ⟨b, 0, none⟩))
    (c : Ev) (h : ∀ k, w.cell? ⟨b, k, none⟩ = (cellsEv c)[k]?) (hK : wpList Try.prog ops Q rest (a.put o.dst (.agg (cellsEv c))) w) : wpList Try.prog ops Q (o :: rest) a w :=
  wpList_plain hg fun K hK' => by
    unfold Oper.wp
    have := run_loadVar_ev0 c b w h
    have e : (execOp a.eval o).run Try.prog w = .ok (.value (.agg (cellsEv c))) w := by simp [execOp, hop, hx, Instr.loadAt, run_sureAddr, this, Result.andThen]
    rw [e]
    exact hK' _ _ hK
theorem results_ee {fn : Func} {tmps : Array Value} {w : World} {b c : Nat} {t u : Tmp} {x : Int} (p : Ev) (hr : fn.results = #[.cell t 39, .cell u 29]) (ht : tmps[t]?.getD undef = .pointer (some ⟨b, 0, none⟩)) (hu : tmps[u]?.getD undef = .pointer (some ⟨c, 0, none⟩)) (h : ∀ k, w.cell? ⟨b, k, none⟩ = (cellsEv p)[k]?) (hc : w.cell? ⟨c, 0, none⟩ = some (.int .i64 x)) :
    (results fn tmps).run Try.prog w = .ok (.tuple #[.agg (cellsEv p), .int .i64 x]) w := by
  have h0 := run_loadVar_ev0 p b w h
  have h1 : (loadVar 29 ⟨c, 0, none⟩).run Try.prog w = .ok (.int .i64 x) w := by
    have h1 : (isAgg 29).run Try.prog w = .ok false w := by kernel_rfl
    simp [loadVar, h1, hc, load, Result.andThen, go_sem]
    simp only [Sem.run, hc]
  simp [results, hr, ht, hu, asAddr, h0, h1, Result.andThen]

theorem readC1_idle (q r : Nat) (w : World) :
    CallsD Try.prog 38 #[.pointer (some ⟨q, 0, none⟩), .pointer (some ⟨r, 0, none⟩)] .returning w fun e u' w' => e = .returned (.tuple #[]) ∧ u' = .returning ∧ w' = w := by
  refine callsD_of_wpS Try.func38 rfl fun c₀ cs hu => ?_
  apply wpS_seq
  apply wpS_region
  simp [wpOpsS, go_sem, recoverD, hu, Try.ntmps38, Exit.thenS]
  refine (caught_nil w).mono ?_
  rintro e w2 ⟨rfl, rfl⟩
  refine wpS_cond (t := false) (by simp [Act.eval, Array.replicate]) ?_
  simp only [Bool.false_eq_true, if_false]
  refine wpS_of_wp (wp_skip ?_)
  cases c₀
  simp_all [bodyPostS, results, Try.results38]
theorem readC1_panicking (q r : Nat) (c : Ev) (x : Int) (w : World) (hq : w.heap[q]? = some (.cells (cellsEv c) 39 (0, 0))) (hr : w.heap[r]? = some (.cells #[.int .i64 x] 29 (0, 0))) (hqr : r ≠ q) :
    CallsD Try.prog 38 #[.pointer (some ⟨q, 0, none⟩), .pointer (some ⟨r, 0, none⟩)] (.panicking bad) w fun e u' w' =>
      e = .returned (.tuple #[]) ∧ u' = .panicking [{ v := .iface 79 (.agg #[]), recovered := true }] ∧ w' = (Wset w q (.cells (cellsEv evZ) 39 (0, 0))).setCell ⟨r, 0, none⟩ (.int .i64 2) := by
  refine callsD_of_wpS Try.func38 rfl fun c₀ cs hu => ?_
  apply wpS_seq
  apply wpS_region
  simp [wpOpsS, go_sem, recoverD, hu, Try.ntmps38, Exit.thenS, bad]
  refine (caught_fault w).mono ?_
  rintro e w2 ⟨rfl, rfl⟩
  refine wpS_cond (t := true) (by simp [Act.eval, Array.replicate]) ?_
  simp only [if_true]
  refine wpS_of_wp ?_
  obtain ⟨c1, f1⟩ := cells_of_block ((Wset_ne (w := w2) (o := .cells (cellsEv evZ) 39 (0, 0)) hqr).trans hr) 0 (.int .i64 x) rfl
  go_wp2_with (refine wpList_storeEv rfl _ _ rfl q rfl evZ c rfl hq ?_)
  exact ⟨rfl, _, rfl, _, results_none rfl _ _ _, rfl, rfl, rfl⟩

end Go.Proofs.Ytgplolfkfhhddaa
