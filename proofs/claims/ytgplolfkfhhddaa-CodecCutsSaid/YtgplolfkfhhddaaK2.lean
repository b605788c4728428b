/- Layer 4 (codec): what the laws' walks share: rows of bytes later on; objects told apart. -/
import Derived.Test.YtgplolfkfhhddaaK1
import Derived.Test.YtgplolfkfhhddaaO4
namespace Go.Proofs.Ytgplolfkfhhddaa
open Go.RowKit
set_option linter.unusedVariables false
set_option linter.unusedSimpArgs false

/-- bytes that stay readable while blocks are only added -/
theorem OwnB.later {w w' : World} {B : Nat} {v : Value} {l : Bs} (h : OwnB w B v l) (hb : Below w.heap.size w w') : OwnB w' B v l := h.kept fun k hk => hb.block k (h.tb hk).2.1
theorem wpList_loadObjG {ops : Array Oper} {Q : Exit → Act → World → Prop} {o : Oper} {rest : List Oper} {a : Act} {w : World} (hw : Region.wanted o (yielded ops a.tmps) = true) (x : Operand) (hop : o.op = .load 27 x) (b : Nat) (hx : a.eval x = .pointer (some ⟨b, 0, none⟩))
    (p : Obj) (h : ∀ k, w.cell? ⟨b, k, none⟩ = (cellsO p)[k]?) (hK : wpList Try.prog ops Q rest (a.put o.dst (.agg (cellsO p))) w) : wpList Try.prog ops Q (o :: rest) a w :=
  BigFrame.wpList_want hw fun K hK' => by
    unfold Oper.wp
    rw [exec_loadObj p hop hx h]
    exact hK' _ _ hK
theorem wpList_neqObjG {ops : Array Oper} {Q : Exit → Act → World → Prop} {o : Oper} {rest : List Oper} {a : Act} {w : World} (hw : Region.wanted o (yielded ops a.tmps) = true) (x y : Operand) (t' : TypeId) (hop : o.op = .binOp .neq 27 x y t') (p q : Obj) (hx : a.eval x = .agg (cellsO p)) (hy : a.eval y = .agg (cellsO q))
    (hK : wpList Try.prog ops Q rest (a.put o.dst (.bool (!decide (p = q)))) w) : wpList Try.prog ops Q (o :: rest) a w :=
  BigFrame.wpList_want hw fun K hK' => by
    unfold Oper.wp
    rw [exec_neqObj p q hop hx hy]
    exact hK' _ _ hK
theorem wpList_eqlObjG {ops : Array Oper} {Q : Exit → Act → World → Prop} {o : Oper} {rest : List Oper} {a : Act} {w : World} (hw : Region.wanted o (yielded ops a.tmps) = true) (x y : Operand) (t' : TypeId) (hop : o.op = .binOp .eql 27 x y t') (p q : Obj) (hx : a.eval x = .agg (cellsO p)) (hy : a.eval y = .agg (cellsO q))
    (hK : wpList Try.prog ops Q rest (a.put o.dst (.bool (decide (p = q)))) w) : wpList Try.prog ops Q (o :: rest) a w :=
  BigFrame.wpList_want hw fun K hK' => by
    unfold Oper.wp
    rw [exec_eqlObj p q hop hx hy]
    exact hK' _ _ hK
theorem exec_textG {o : Oper} {a : Act} {w : World} {x : Operand} {v : Value} {l : Bs} (hop : o.op = .convert 28 9 x) (hx : a.eval x = v) (h : IsB w v l) : (execOp a.eval o).run Try.prog w = .ok (.value (.string ⟨l.toArray⟩)) w := by
  simp [execOp, hop, hx, run_text h, Result.andThen]
theorem exec_eqlText {o : Oper} {a : Act} {w : World} {x y : Tmp} {l m : Bs} (hop : o.op = .binOp .eql 9 (.tmp x) (.tmp y) 9) (hx : a.tmps[x]?.getD undef = .string ⟨l.toArray⟩) (hy : a.tmps[y]?.getD undef = .string ⟨m.toArray⟩) : (execOp a.eval o).run Try.prog w = .ok (.value (.bool (decide (l = m)))) w := by
  have e : ((⟨l.toArray⟩ : ByteArray) == ⟨m.toArray⟩) = decide (l = m) := by
    rw [beq_toListBytes, ByteArray.toList_eq, ByteArray.toList_eq, Bool.eq_iff_iff]
    simp
  simp [execOp, hop, hx, hy, go_sem, Result.andThen, e]
  rw [Bool.eq_iff_iff]
  simp

end Go.Proofs.Ytgplolfkfhhddaa
