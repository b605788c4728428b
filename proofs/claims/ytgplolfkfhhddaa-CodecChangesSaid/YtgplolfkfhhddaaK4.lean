/- Layer 4 (codec): changes told apart. -/
import Derived.Test.YtgplolfkfhhddaaK3
import Derived.Test.YtgplolfkfhhddaaO4
import Derived.Test.YtgplolfkfhhddaaR7
import Derived.ChangeKeysEq
namespace Go.Proofs.Ytgplolfkfhhddaa
open Go.RowKit
set_option linter.unusedVariables false
set_option linter.unusedSimpArgs false

set_option maxRecDepth 100000 in
theorem equal_objD (d : Nat) (p q : Obj) (w : World) : (Op.equalIn (d + 2) 27 (.agg (cellsO p)) (.agg (cellsO q))).run Try.prog w = .ok (decide (p = q)) w := by
  rw [run_equalIn_agg w (d + 1) 27 _ _ (by kernel_rfl) (by kernel_rfl)]
  have key : (Op.eqFields (d + 1) (cellsO p) (cellsO q) (Try.prog.fieldsOf 27).toList).run Try.prog w = .ok (decide (
    p.kind = q.kind ∧ p.name = q.name ∧ p.version = q.version ∧ p.born = q.born ∧ p.deleting = q.deleting ∧ p.hold = q.hold ∧ p.cls = q.cls ∧ p.size = q.size ∧ p.got = q.got ∧ p.mode = q.mode ∧ p.keep = q.keep ∧ p.wait = q.wait ∧ p.zone = q.zone ∧ p.node = q.node ∧ p.claim = q.claim ∧ p.volume = q.volume ∧ p.source = q.source ∧ p.phase = q.phase ∧ p.num = q.num ∧ p.tag = q.tag ∧ True)) w := by
    simp only [Program.fieldsOf, Try.underlying27]
    refine eqF_step (by decide) (by kernel_rfl) (cellsO_get0 p) (cellsO_get0 q) (eqI_int Try.underlying22) ?_
    refine eqF_step (by decide) (by kernel_rfl) (cellsO_get1 p) (cellsO_get1 q) (eqI_str Try.underlying9) ?_
    refine eqF_step (by decide) (by kernel_rfl) (cellsO_get2 p) (cellsO_get2 q) (eqI_int Try.underlying23) ?_
    refine eqF_step (by decide) (by kernel_rfl) (cellsO_get3 p) (cellsO_get3 q) (eqI_int Try.underlying23) ?_
    refine eqF_step (by decide) (by kernel_rfl) (cellsO_get4 p) (cellsO_get4 q) (eqI_bool Try.underlying4) ?_
    refine eqF_step (by decide) (by kernel_rfl) (cellsO_get5 p) (cellsO_get5 q) (eqI_bool Try.underlying4) ?_
    refine eqF_step (by decide) (by kernel_rfl) (cellsO_get6 p) (cellsO_get6 q) (eqI_str Try.underlying9) ?_
    refine eqF_step (by decide) (by kernel_rfl) (cellsO_get7 p) (cellsO_get7 q) (eqI_int Try.underlying2) ?_
    refine eqF_step (by decide) (by kernel_rfl) (cellsO_get8 p) (cellsO_get8 q) (eqI_int Try.underlying2) ?_
    refine eqF_step (by decide) (by kernel_rfl) (cellsO_get9 p) (cellsO_get9 q) (eqI_int Try.underlying24) ?_
    refine eqF_step (by decide) (by kernel_rfl) (cellsO_get10 p) (cellsO_get10 q) (eqI_bool Try.underlying4) ?_
    refine eqF_step (by decide) (by kernel_rfl) (cellsO_get11 p) (cellsO_get11 q) (eqI_bool Try.underlying4) ?_
    refine eqF_step (by decide) (by kernel_rfl) (cellsO_get12 p) (cellsO_get12 q) (eqI_str Try.underlying9) ?_
    refine eqF_step (by decide) (by kernel_rfl) (cellsO_get13 p) (cellsO_get13 q) (eqI_str Try.underlying9) ?_
    refine eqF_step (by decide) (by kernel_rfl) (cellsO_get14 p) (cellsO_get14 q) (eqI_str Try.underlying9) ?_
    refine eqF_step (by decide) (by kernel_rfl) (cellsO_get15 p) (cellsO_get15 q) (eqI_str Try.underlying9) ?_
    refine eqF_step (by decide) (by kernel_rfl) (cellsO_get16 p) (cellsO_get16 q) (eqI_str Try.underlying9) ?_
    refine eqF_step (by decide) (by kernel_rfl) (cellsO_get17 p) (cellsO_get17 q) (eqI_int Try.underlying25) ?_
    refine eqF_step (by decide) (by kernel_rfl) (cellsO_get18 p) (cellsO_get18 q) (eqI_int Try.underlying23) ?_
    refine eqF_step (by decide) (by kernel_rfl) (cellsO_get19 p) (cellsO_get19 q) (eqI_int Try.underlying23) ?_
    exact eqF_nil
  rw [key]
  congr 2
  apply propext
  cases p; cases q
  simp


theorem eqF_stepA {P : Program} {xs ys : Array Value} {d : Nat} {w : World} {f : Field} {fs : List Field} {x y : Value} {C Q : Prop} [Decidable C] [Decidable Q] (hn : f.name ≠ "_") (hx : (part f.type xs f.offset).run P w = .ok x w) (hy : (part f.type ys f.offset).run P w = .ok y w)
    (he : (Op.equalIn d f.type x y).run P w = .ok (decide C) w) (h : (Op.eqFields d xs ys fs).run P w = .ok (decide Q) w) : (Op.eqFields d xs ys (f :: fs)).run P w = .ok (decide (C ∧ Q)) w := by
  simp only [Op.eqFields, hn, ne_eq, not_false_eq_true, if_true, Sem.run_bind, hx, hy, Result.andThen, he]
  by_cases hc : C
  · simp [hc, h]
  · simp [hc]
theorem part_obj (c : Ev) (w : World) : (part 27 (cellsEv c) 2).run Try.prog w = .ok (.agg (cellsO c.obj)) w := by
  have h1 : (isAgg 27).run Try.prog w = .ok true w := by kernel_rfl
  have h2 : (sizeOf 27).run Try.prog w = .ok 20 w := by kernel_rfl
  have e : (cellsEv c).extract 2 (2 + 20) = cellsO c.obj := by simp [cellsEv, cellsO]
  simp only [part, Sem.run_bind, h1, h2, Result.andThen, if_true, Sem.run_pure, e]

theorem equal_obj9 (p q : Obj) (w : World) : (Op.equalIn 9999 27 (.agg (cellsO p)) (.agg (cellsO q))).run Try.prog w = .ok (decide (p = q)) w := equal_objD 9997 p q w

set_option maxRecDepth 100000 in
set_option maxHeartbeats 2000000 in
theorem equal_ev (p q : Ev) (w : World) : (Op.equalIn 10000 39 (.agg (cellsEv p)) (.agg (cellsEv q))).run Try.prog w = .ok (decide (p = q)) w := by
  rw [run_equalIn_agg w 9999 39 _ _ (by kernel_rfl) (by kernel_rfl)]
  have key : (Op.eqFields 9999 (cellsEv p) (cellsEv q) (Try.prog.fieldsOf 39).toList).run Try.prog w = .ok (decide (p.version = q.version ∧ p.gone = q.gone ∧ p.obj = q.obj ∧ True)) w := by
    simp only [Program.fieldsOf, Try.underlying39]
    refine eqF_step (by decide) (by kernel_rfl) (cellsEv_0 p) (cellsEv_0 q) (eqI_int Try.underlying23) ?_
    refine eqF_step (by decide) (by kernel_rfl) (cellsEv_1 p) (cellsEv_1 q) (eqI_bool Try.underlying4) ?_
    refine eqF_stepA (by decide) (part_obj p w) (part_obj q w) (equal_obj9 p.obj q.obj w) ?_
    exact eqF_nil
  rw [key]
  have e : (p.version = q.version ∧ p.gone = q.gone ∧ p.obj = q.obj ∧ True) ↔ p = q := by
    obtain ⟨v1, g1, o1⟩ := p
    obtain ⟨v2, g2, o2⟩ := q
    constructor
    · rintro ⟨h1, h2, h3, _⟩
      simp only at h1 h2 h3
      rw [h1, h2, h3]
    · intro h
      rw [h]
      exact ⟨rfl, rfl, rfl, trivial⟩
  exact congrArg (fun b => Result.ok b w) (decide_eq_decide.2 e)
theorem exec_neqEv {o : Oper} {a : Act} {w : World} {x y : Operand} {t' : TypeId} (p q : Ev) (hop : o.op = .binOp .neq 39 x y t') (hx : a.eval x = .agg (cellsEv p)) (hy : a.eval y = .agg (cellsEv q)) :
    (execOp a.eval o).run Try.prog w = .ok (.value (.bool (!decide (p = q)))) w := by
  have h1 := equal_ev p q w
  have h2 : (eqGuard .neq 39 x y (.agg (cellsEv p)) (.agg (cellsEv q))).run Try.prog w = .ok () w := run_eqGuard_agg w .neq 39 x y _ _ (by kernel_rfl)
  have h3 : (binOp .neq 39 (.agg (cellsEv p)) (.agg (cellsEv q))).run Try.prog w = .ok (.bool (!decide (p = q))) w := by
    rw [run_neq_struct, h1]; rfl
  simp only [execOp, hop, hx, hy, Sem.run_bind, h2, h3, Result.andThen, Sem.run_pure]
theorem exec_eqlEv {o : Oper} {a : Act} {w : World} {x y : Operand} {t' : TypeId} (p q : Ev) (hop : o.op = .binOp .eql 39 x y t') (hx : a.eval x = .agg (cellsEv p)) (hy : a.eval y = .agg (cellsEv q)) :
    (execOp a.eval o).run Try.prog w = .ok (.value (.bool (decide (p = q)))) w := by
  have h1 := equal_ev p q w
  have h2 : (eqGuard .eql 39 x y (.agg (cellsEv p)) (.agg (cellsEv q))).run Try.prog w = .ok () w := run_eqGuard_agg w .eql 39 x y _ _ (by kernel_rfl)
  have h3 : (binOp .eql 39 (.agg (cellsEv p)) (.agg (cellsEv q))).run Try.prog w = .ok (.bool (decide (p = q))) w := by
    rw [run_eql_struct, h1]; rfl
  simp only [execOp, hop, hx, hy, Sem.run_bind, h2, h3, Result.andThen, Sem.run_pure]
theorem exec_loadEv {o : Oper} {a : Act} {w : World} {x : Operand} {b : Nat} (c : Ev) (hop : o.op = .load 39 x) (hx : a.eval x = .pointer (some ⟨b, 0, none⟩)) (h : ∀ k, w.cell? ⟨b, k, none⟩ = (cellsEv c)[k]?) :
    (execOp a.eval o).run Try.prog w = .ok (.value (.agg (cellsEv c))) w := by
  have := run_loadVar_ev0 c b w h
  simp [execOp, hop, hx, Instr.loadAt, run_sureAddr, this, Result.andThen]
theorem wpList_loadEvG {ops : Array Oper} {Q : Exit → Act → World → Prop} {o : Oper} {rest : List Oper} {a : Act} {w : World} (hw : Region.wanted o (yielded ops a.tmps) = true) (x : Operand) (hop : o.op = .load 39 x) (b : Nat) (hx : a.eval x = .pointer (some ⟨b, 0, none⟩))
    (c : Ev) (h : ∀ k, w.cell? ⟨b, k, none⟩ = (cellsEv c)[k]?) (hK : wpList Try.prog ops Q rest (a.put o.dst (.agg (cellsEv c))) w) : wpList Try.prog ops Q (o :: rest) a w :=
  BigFrame.wpList_want hw fun K hK' => by
    unfold Oper.wp
    rw [exec_loadEv c hop hx h]
    exact hK' _ _ hK
theorem wpList_neqEvG {ops : Array Oper} {Q : Exit → Act → World → Prop} {o : Oper} {rest : List Oper} {a : Act} {w : World} (hw : Region.wanted o (yielded ops a.tmps) = true) (x y : Operand) (t' : TypeId) (hop : o.op = .binOp .neq 39 x y t') (p q : Ev) (hx : a.eval x = .agg (cellsEv p)) (hy : a.eval y = .agg (cellsEv q))
    (hK : wpList Try.prog ops Q rest (a.put o.dst (.bool (!decide (p = q)))) w) : wpList Try.prog ops Q (o :: rest) a w :=
  BigFrame.wpList_want hw fun K hK' => by
    unfold Oper.wp
    rw [exec_neqEv p q hop hx hy]
    exact hK' _ _ hK
theorem wpList_eqlEvG {ops : Array Oper} {Q : Exit → Act → World → Prop} {o : Oper} {rest : List Oper} {a : Act} {w : World} (hw : Region.wanted o (yielded ops a.tmps) = true) (x y : Operand) (t' : TypeId) (hop : o.op = .binOp .eql 39 x y t') (p q : Ev) (hx : a.eval x = .agg (cellsEv p)) (hy : a.eval y = .agg (cellsEv q))
    (hK : wpList Try.prog ops Q rest (a.put o.dst (.bool (decide (p = q)))) w) : wpList Try.prog ops Q (o :: rest) a w :=
  BigFrame.wpList_want hw fun K hK' => by
    unfold Oper.wp
    rw [exec_eqlEv p q hop hx hy]
    exact hK' _ _ hK

end Go.Proofs.Ytgplolfkfhhddaa
