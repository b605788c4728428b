/- Layer 4 (codec): changes as arguments; what the laws' walks share. -/
import Derived.Test.YtgplolfkfhhddaaLV
import Derived.Test.YtgplolfkfhhddaaOpen1
import Derived.Test.YtgplolfkfhhddaaW4
namespace Go.Proofs.Ytgplolfkfhhddaa
open Go.RowKit
set_option linter.unusedVariables false
set_option linter.unusedSimpArgs false
open Go.ChangeShapes Go.WideShapes Go.ChangeAt

theorem run_loadVar_ev (c : Ev) (b : Nat) (w : World) (h : ∀ k, w.cell? ⟨b, k, none⟩ = (cellsEv c)[k]?) : (loadVar 39 ⟨b, 0, none⟩).run Try.prog w = .ok (.agg (cellsEv c)) w := by
  have := load_cells (P := Try.prog) h 22 0 #[] (by simp [cellsEv]) (by simp)
  have h1 : (isAgg 39).run Try.prog w = .ok true w := by kernel_rfl
  have h2 : (sizeOf 39).run Try.prog w = .ok 22 w := by kernel_rfl
  simp only [loadVar, Sem.run_bind, h1, h2, Result.andThen, loadCells, this, if_true, Sem.run_pure]
theorem wpList_loadEv {ops : Array Oper} {Q : Exit → Act → World → Prop} {o : Oper} {rest : List Oper} {a : Act} {w : World} (hg : o.guard = none) (x : Operand) (hop : o.op = .load 39 x) (b : Nat) (hx : a.eval x = .pointer (some ⟨b, 0, none⟩))
    (c : Ev) (h : EvBox w b c) (hK : wpList Try.prog ops Q rest (a.put o.dst (.agg (cellsEv c))) w) : wpList Try.prog ops Q (o :: rest) a w :=
  wpList_plain hg fun K hK' => by
    unfold Oper.wp
    have := run_loadVar_ev c b w (cells_all h.heap)
    have e : (execOp a.eval o).run Try.prog w = .ok (.value (.agg (cellsEv c))) w := by simp [execOp, hop, hx, Instr.loadAt, run_sureAddr, this, Result.andThen]
    rw [e]
    exact hK' _ _ hK

theorem Obj.Wf.typed {o : Obj} (h : o.Wf) : o.Typed := by
  obtain ⟨h1, h2, h3, h4, h5, h6, h7, h8, h9⟩ := h
  simp [Lit.wf, IntKind.min, IntKind.max, IntKind.signed, IntKind.bits] at h1 h2 h3 h6 h7 h8 h9
  exact ⟨by omega, by omega, by omega, by omega, by omega, by omega, by omega⟩

theorem cells_ev : Try.prog.cellsOf 39 = 22 := by kernel_rfl
set_option maxRecDepth 100000 in
set_option maxHeartbeats 4000000 in
theorem open_ev {H : Type} {enc : TypeId × Value → H} {w : World} {base : Nat} {sp : Nat → Bool} {held : Bool} {fuel : Nat} {cs : List Value} {x : DataW H × List MemPlace}
    (h : DataW.trod enc Try.prog w base sp held fuel 39 cs = some x) : ∃ c : Ev, cs = (cellsEv c).toList ∧ c.obj.Fits ∧ c.Typed := by
  obtain ⟨hl, n, xs, hm⟩ := trod_struct Try.underlying39 h
  rw [cells_ev] at hl
  obtain ⟨y0, h0⟩ := mapM_at hm 0 (by simp)
  obtain ⟨y1, h1⟩ := mapM_at hm 1 (by simp)
  obtain ⟨y2, h2⟩ := mapM_at hm 2 (by simp)
  match cs, hl with
  | a :: b :: r, hl =>
    simp at hl
    simp [cells_tU64, cells_tBool, cells_obj] at h0 h1 h2
    obtain ⟨v, e0, _, w0⟩ := DataW.trod_int Try.underlying23 h0
    obtain ⟨g, e1, _⟩ := DataW.trod_bool Try.underlying4 h1
    rw [List.take_of_length_le (by omega)] at h2
    obtain ⟨o, e2, hf, hw⟩ := open_obj h2
    simp at e0 e1
    simp [Lit.wf, IntKind.min, IntKind.max, IntKind.signed, IntKind.bits] at w0
    exact ⟨⟨v, g, o⟩, by rw [e0, e1, e2]; simp [cellsEv], hf, ⟨by show 0 ≤ v ∧ v < 18446744073709551616; omega, hw.typed⟩⟩

end Go.Proofs.Ytgplolfkfhhddaa
