/- Layer 4 (codec): changes told apart. -/
import Derived.Test.YtgplolfkfhhddaaLV
import Derived.Test.YtgplolfkfhhddaaOpen1
import Derived.Test.YtgplolfkfhhddaaW4
import Derived.Test.YtgplolfkfhhddaaO4
import Derived.Test.YtgplolfkfhhddaaLaw
import Derived.Deep.Slices
import Derived.Test.YtgplolfkfhhddaaR7
import Derived.ChangeKeysEq
namespace Go.Proofs.Ytgplolfkfhhddaa
open Go.RowKit
set_option linter.unusedVariables false
set_option linter.unusedSimpArgs false
open Go.ChangeShapes Go.WideShapes Go.ChangeAt

theorem run_loadVar_ev (c : Ev) (b : Nat) (w : World) (h : ∀ k, w.cell? ⟨b, k, none⟩ = (cellsEv c)[k]?) : (loadVar 39 ⟨b, 0, none⟩).run Try.prog w = .ok (.agg (cellsEv c)) w := by
  have := load_cells (P := Try.prog) h 22 0 #[] (by simp [cellsEv]) (by simp)
  have h1 : (isAgg 39).run Try.prog w = .ok true w := by kernel_rfl
  have h2 : (sizeOf 39).run Try.prog w = .ok 22 w := by kernel_rfl
  simp only [loadVar, Sem.run_bind, h1, h2, Result.andThen, loadCells, this, if_true, Sem.run_pure]
theorem wpList_loadEv {ops : Array Oper} {Q : Exit → Act → World → Prop} {o : Oper} {rest : List Oper} {a : Act} {w : World} (hg : o.guard = none) (x : Operand) (hop : o.op = .load 39 x) (b : Nat) (hx : a.eval x = .pointer (some ⟨b, 0, none⟩))
    (c : Ev) (h : EvBox w b c) (hK : wpList Try.prog ops Q rest (a.put o.dst (.agg (cellsEv c))) w) : wpList Try.prog ops Q (o :: rest) a w :=
  wpList_plain hg fun K hK' => by
    unfold Oper.wp
    have := run_loadVar_ev c b w (cells_all h.heap)
    have e : (execOp a.eval o).run Try.prog w = .ok (.value (.agg (cellsEv c))) w := by simp [execOp, hop, hx, Instr.loadAt, run_sureAddr, this, Result.andThen]
    rw [e]
    exact hK' _ _ hK

theorem Obj.Wf.typed {o : Obj} (h : o.Wf) : o.Typed := by
  obtain ⟨h1, h2, h3, h4, h5, h6, h7, h8, h9⟩ := h
  simp [Lit.wf, IntKind.min, IntKind.max, IntKind.signed, IntKind.bits] at h1 h2 h3 h6 h7 h8 h9
  exact ⟨by omega, by omega, by omega, by omega, by omega, by omega, by omega⟩

theorem cells_ev : Try.prog.cellsOf 39 = 22 := by kernel_rfl
set_option maxRecDepth 100000 in
set_option maxHeartbeats 4000000 in
theorem open_ev {H : Type} {enc : TypeId × Value → H} {w : World} {base : Nat} {sp : Nat → Bool} {held : Bool} {fuel : Nat} {cs : List Value} {x : DataW H × List MemPlace}
    (h : DataW.trod enc Try.prog w base sp held fuel 39 cs = some x) : ∃ c : Ev, cs = (cellsEv c).toList ∧ c.obj.Fits ∧ c.Typed := by
  obtain ⟨hl, n, xs, hm⟩ := trod_struct Try.underlying39 h
  rw [cells_ev] at hl
  obtain ⟨y0, h0⟩ := mapM_at hm 0 (by simp)
  obtain ⟨y1, h1⟩ := mapM_at hm 1 (by simp)
  obtain ⟨y2, h2⟩ := mapM_at hm 2 (by simp)
  match cs, hl with
  | a :: b :: r, hl =>
    simp at hl
    simp [cells_tU64, cells_tBool, cells_obj] at h0 h1 h2
    obtain ⟨v, e0, _, w0⟩ := DataW.trod_int Try.underlying23 h0
    obtain ⟨g, e1, _⟩ := DataW.trod_bool Try.underlying4 h1
    rw [List.take_of_length_le (by omega)] at h2
    obtain ⟨o, e2, hf, hw⟩ := open_obj h2
    simp at e0 e1
    simp [Lit.wf, IntKind.min, IntKind.max, IntKind.signed, IntKind.bits] at w0
    exact ⟨⟨v, g, o⟩, by rw [e0, e1, e2]; simp [cellsEv], hf, ⟨by show 0 ≤ v ∧ v < 18446744073709551616; omega, hw.typed⟩⟩


/-- bytes that stay readable while blocks are only added -/
theorem OwnB.later {w w' : World} {B : Nat} {v : Value} {l : Bs} (h : OwnB w B v l) (hb : Below w.heap.size w w') : OwnB w' B v l := h.kept fun k hk => hb.block k (h.tb hk).2.1
theorem wpList_loadObjG {ops : Array Oper} {Q : Exit → Act → World → Prop} {o : Oper} {rest : List Oper} {a : Act} {w : World} (hw : Region.wanted o (yielded ops a.tmps) = true) (x : Operand) (hop : o.op = .load 27 x) (b : Nat) (hx : a.eval x = .pointer (some ⟨b, 0, none⟩))
    (p : Obj) (h : ∀ k, w.cell? ⟨b, k, none⟩ = (cellsO p)[k]?) (hK : wpList Try.prog ops Q rest (a.put o.dst (.agg (cellsO p))) w) : wpList Try.prog ops Q (o :: rest) a w :=
  BigFrame.wpList_want hw fun K hK' => by
    unfold Oper.wp
    rw [exec_loadObj p hop hx h]
    exact hK' _ _ hK
theorem wpList_neqObjG {ops : Array Oper} {Q : Exit → Act → World → Prop} {o : Oper} {rest : List Oper} {a : Act} {w : World} (hw : Region.wanted o (yielded ops a.tmps) = true) (x y : Operand) (t' : TypeId) (hop : o.op = .binOp .neq 27 x y t') (p q : Obj) (hx : a.eval x = .agg (cellsO p)) (hy : a.eval y = .agg (cellsO q))
    (hK : wpList Try.prog ops Q rest (a.put o.dst (.bool (!decide (p = q)))) w) : wpList Try.prog ops Q (o :: rest) a w :=
  BigFrame.wpList_want hw fun K hK' => by
    unfold Oper.wp
    rw [exec_neqObj p q hop hx hy]
    exact hK' _ _ hK
theorem wpList_eqlObjG {ops : Array Oper} {Q : Exit → Act → World → Prop} {o : Oper} {rest : List Oper} {a : Act} {w : World} (hw : Region.wanted o (yielded ops a.tmps) = true) (x y : Operand) (t' : TypeId) (hop : o.op = .binOp .eql 27 x y t') (p q : Obj) (hx : a.eval x = .agg (cellsO p)) (hy : a.eval y = .agg (cellsO q))
    (hK : wpList Try.prog ops Q rest (a.put o.dst (.bool (decide (p = q)))) w) : wpList Try.prog ops Q (o :: rest) a w :=
  BigFrame.wpList_want hw fun K hK' => by
    unfold Oper.wp
    rw [exec_eqlObj p q hop hx hy]
    exact hK' _ _ hK
theorem exec_textG {o : Oper} {a : Act} {w : World} {x : Operand} {v : Value} {l : Bs} (hop : o.op = .convert 28 9 x) (hx : a.eval x = v) (h : IsB w v l) : (execOp a.eval o).run Try.prog w = .ok (.value (.string ⟨l.toArray⟩)) w := by
  simp [execOp, hop, hx, run_text h, Result.andThen]
theorem exec_eqlText {o : Oper} {a : Act} {w : World} {x y : Tmp} {l m : Bs} (hop : o.op = .binOp .eql 9 (.tmp x) (.tmp y) 9) (hx : a.tmps[x]?.getD undef = .string ⟨l.toArray⟩) (hy : a.tmps[y]?.getD undef = .string ⟨m.toArray⟩) : (execOp a.eval o).run Try.prog w = .ok (.value (.bool (decide (l = m)))) w := by
  have e : ((⟨l.toArray⟩ : ByteArray) == ⟨m.toArray⟩) = decide (l = m) := by
    rw [beq_toListBytes, ByteArray.toList_eq, ByteArray.toList_eq, Bool.eq_iff_iff]
    simp
  simp [execOp, hop, hx, hy, go_sem, Result.andThen, e]
  rw [Bool.eq_iff_iff]
  simp


/-- an argument's box, kept; nothing below it has changed -/
structure BK (w W : World) (bx : Go.Obj) : Prop where
  box : W.heap[w.heap.size]? = some bx
  below : Below w.heap.size w W
theorem BK.start (w : World) (bx : Go.Obj) : BK w (w.alloc bx) bx := ⟨heap_alloc_eq, (Below.refl _ _).alloc (Nat.le_refl _) _⟩
theorem BK.next {w W W' : World} {bx : Go.Obj} (h : BK w W bx) (hb : Below W.heap.size W W') : BK w W' bx := ⟨(hb.block _ (heap_lt h.box)).trans h.box, h.below.trans (hb.mono h.below.size)⟩
theorem below_new (W : World) (x z : Go.Obj) : Below W.heap.size W (Wset (W.alloc x) W.heap.size z) := belowWs ((Below.refl _ _).alloc (Nat.le_refl _) x) (Nat.le_refl _)
theorem BK.src {w W : World} {bx : Go.Obj} {v : Value} {l : Bs} (h : BK w W bx) (hs : SrcB w w.heap.size v l) : SrcB W W.heap.size v l := hs.start h.below h.below.size
theorem SrcB.text {w : World} {B : Nat} {v : Value} {l : Bs} (h : SrcB w B v l) : (convert 28 9 v).run Try.prog w = .ok (.string ⟨l.toArray⟩) w := by
  rcases h with ⟨h, _⟩ | ⟨rfl, a, c, rfl, _⟩
  · exact run_text h
  · exact run_text0 w a c
theorem OwnB.srcAt {w : World} {B : Nat} {v : Value} {l : Bs} (h : OwnB w B v l) : SrcB w w.heap.size v l := h.src (Nat.le_refl _)
theorem new_box (W : World) (x : Go.Obj) (cs : Array Value) (t : TypeId) : (Wset (W.alloc x) W.heap.size (.cells cs t (0, 0))).heap[W.heap.size]? = some (.cells cs t (0, 0)) := Wset_same (by simp)
theorem right_fits {o : Obj} (h : rightB o = true) : o.Fits := by
  obtain ⟨hn, hx⟩ := right_texts h
  exact ⟨by unfold maxLen; omega, fun s hs => by have := hx s hs; unfold maxLen; omega⟩

open Go.ChangeShapes Go.WideShapes Go.ChangeAt
theorem cellsb : Try.prog.cellsOf 5 = 1 := by kernel_rfl
theorem add_flat {a : Addr} (h : a.spot = none) (i : Nat) : a.add i = ⟨a.block, a.off + i, none⟩ := by
  obtain ⟨b, o, s⟩ := a
  simp only at h
  subst h
  unfold Addr.add
  split
  · rename_i h; subst h; rfl
  · rfl
theorem open_bytes {H : Type} {enc : TypeId × Value → H} {w : World} {held : Bool} {fuel : Nat} {cs : List Value} {x : DataW H × List MemPlace}
    (h : DataW.trod enc Try.prog w 0 (fun _ => true) held fuel 28 cs = some x) : ∃ v l, cs = [v] ∧ SrcB w w.heap.size v l := by
  rcases open_ints und_B und_b cellsb h with ⟨rfl, _⟩ | ⟨a, len, cap, zs, rfl, _, hlc, hcm, hz, _, hcell, hwf⟩
  · exact ⟨_, [], rfl, .inr ⟨rfl, none, 0, rfl, Nat.zero_le _⟩⟩
  · simp only [if_true] at hz
    have hbd : ∀ z ∈ zs, 0 ≤ z ∧ z ≤ 255 := fun z hm => by
      have := hwf z hm
      simp [Lit.wf, IntKind.min, IntKind.max, IntKind.signed, IntKind.bits] at this
      omega
    by_cases h0 : 0 < len
    · have hs : a.spot = none := by
        have := hcell 0 (by omega)
        simpa [Addr.add] using World.cell?_spot this
      have hb := World.block_lt_of_cell? w _ (hcell 0 (by omega))
      rw [add_flat hs] at hb
      have hll : ((zs.take len).map fun z => z.toNat.toUInt8).length = len := by rw [List.length_map, List.length_take]; omega
      obtain ⟨b, o, s⟩ := a
      simp only at hs
      subst hs
      refine ⟨_, (zs.take len).map fun z => z.toNat.toUInt8, rfl, .inl ⟨.inr ⟨b, o, cap, by rw [hll], by rw [hll]; exact hlc, hcm, fun k hk => ?_⟩, fun b' e => by simp [blk] at e; subst e; exact hb⟩⟩
      rw [hll] at hk
      have h2 := hcell k (by omega)
      rw [add_flat rfl] at h2
      rw [h2]
      have hget : zs.getD k 0 = zs[k]'(by omega) := by simp [List.getD, show k < zs.length by omega]
      have h3 := hbd (zs[k]'(by omega)) (List.getElem_mem _)
      rw [hget]
      simp only [List.getElem_map, List.getElem_take]
      have h4 : ((zs[k]'(by omega)).toNat.toUInt8).toNat = (zs[k]'(by omega)).toNat := by
        simp
        omega
      rw [h4]
      congr 2
      omega
    · obtain rfl : len = 0 := by omega
      exact ⟨_, [], rfl, .inr ⟨rfl, _, _, rfl, hcm⟩⟩


set_option maxRecDepth 100000 in
theorem equal_objD (d : Nat) (p q : Obj) (w : World) : (Op.equalIn (d + 2) 27 (.agg (cellsO p)) (.agg (cellsO q))).run Try.prog w = .ok (decide (p = q)) w := by
  rw [run_equalIn_agg w (d + 1) 27 _ _ (by kernel_rfl) (by kernel_rfl)]
  have key : (Op.eqFields (d + 1) (cellsO p) (cellsO q) (Try.prog.fieldsOf 27).toList).run Try.prog w = .ok (decide (
    p.kind = q.kind ∧ p.name = q.name ∧ p.version = q.version ∧ p.born = q.born ∧ p.deleting = q.deleting ∧ p.hold = q.hold ∧ p.cls = q.cls ∧ p.size = q.size ∧ p.got = q.got ∧ p.mode = q.mode ∧ p.keep = q.keep ∧ p.wait = q.wait ∧ p.zone = q.zone ∧ p.node = q.node ∧ p.claim = q.claim ∧ p.volume = q.volume ∧ p.source = q.source ∧ p.phase = q.phase ∧ p.num = q.num ∧ p.tag = q.tag ∧ True)) w := by
    simp only [Program.fieldsOf, Try.underlying27]
    refine eqF_step (by decide) (by kernel_rfl) (cellsO_get0 p) (cellsO_get0 q) (eqI_int Try.underlying22) ?_
    refine eqF_step (by decide) (by kernel_rfl) (cellsO_get1 p) (cellsO_get1 q) (eqI_str Try.underlying9) ?_
    refine eqF_step (by decide) (by kernel_rfl) (cellsO_get2 p) (cellsO_get2 q) (eqI_int Try.underlying23) ?_
    refine eqF_step (by decide) (by kernel_rfl) (cellsO_get3 p) (cellsO_get3 q) (eqI_int Try.underlying23) ?_
    refine eqF_step (by decide) (by kernel_rfl) (cellsO_get4 p) (cellsO_get4 q) (eqI_bool Try.underlying4) ?_
    refine eqF_step (by decide) (by kernel_rfl) (cellsO_get5 p) (cellsO_get5 q) (eqI_bool Try.underlying4) ?_
    refine eqF_step (by decide) (by kernel_rfl) (cellsO_get6 p) (cellsO_get6 q) (eqI_str Try.underlying9) ?_
    refine eqF_step (by decide) (by kernel_rfl) (cellsO_get7 p) (cellsO_get7 q) (eqI_int Try.underlying2) ?_
    refine eqF_step (by decide) (by kernel_rfl) (cellsO_get8 p) (cellsO_get8 q) (eqI_int Try.underlying2) ?_
    refine eqF_step (by decide) (by kernel_rfl) (cellsO_get9 p) (cellsO_get9 q) (eqI_int Try.underlying24) ?_
    refine eqF_step (by decide) (by kernel_rfl) (cellsO_get10 p) (cellsO_get10 q) (eqI_bool Try.underlying4) ?_
    refine eqF_step (by decide) (by kernel_rfl) (cellsO_get11 p) (cellsO_get11 q) (eqI_bool Try.underlying4) ?_
    refine eqF_step (by decide) (by kernel_rfl) (cellsO_get12 p) (cellsO_get12 q) (eqI_str Try.underlying9) ?_
    refine eqF_step (by decide) (by kernel_rfl) (cellsO_get13 p) (cellsO_get13 q) (eqI_str Try.underlying9) ?_
    refine eqF_step (by decide) (by kernel_rfl) (cellsO_get14 p) (cellsO_get14 q) (eqI_str Try.underlying9) ?_
    refine eqF_step (by decide) (by kernel_rfl) (cellsO_get15 p) (cellsO_get15 q) (eqI_str Try.underlying9) ?_
    refine eqF_step (by decide) (by kernel_rfl) (cellsO_get16 p) (cellsO_get16 q) (eqI_str Try.underlying9) ?_
    refine eqF_step (by decide) (by kernel_rfl) (cellsO_get17 p) (cellsO_get17 q) (eqI_int Try.underlying25) ?_
    refine eqF_step (by decide) (by kernel_rfl) (cellsO_get18 p) (cellsO_get18 q) (eqI_int Try.underlying23) ?_
    refine eqF_step (by decide) (by kernel_rfl) (cellsO_get19 p) (cellsO_get19 q) (eqI_int Try.underlying23) ?_
    exact eqF_nil
  rw [key]
  congr 2
  apply propext
  cases p; cases q
  simp


theorem eqF_stepA {P : Program} {xs ys : Array Value} {d : Nat} {w : World} {f : Field} {fs : List Field} {x y : Value} {C Q : Prop} [Decidable C] [Decidable Q] (hn : f.name ≠ "_") (hx : (part f.type xs f.offset).run P w = .ok x w) (hy : (part f.type ys f.offset).run P w = .ok y w)
    (he : (Op.equalIn d f.type x y).run P w = .ok (decide C) w) (h : (Op.eqFields d xs ys fs).run P w = .ok (decide Q) w) : (Op.eqFields d xs ys (f :: fs)).run P w = .ok (decide (C ∧ Q)) w := by
  simp only [Op.eqFields, hn, ne_eq, not_false_eq_true, if_true, Sem.run_bind, hx, hy, Result.andThen, he]
  by_cases hc : C
  · simp [hc, h]
  · simp [hc]
theorem part_obj (c : Ev) (w : World) : (part 27 (cellsEv c) 2).run Try.prog w = .ok (.agg (cellsO c.obj)) w := by
  have h1 : (isAgg 27).run Try.prog w = .ok true w := by kernel_rfl
  have h2 : (sizeOf 27).run Try.prog w = .ok 20 w := by kernel_rfl
  have e : (cellsEv c).extract 2 (2 + 20) = cellsO c.obj := by simp [cellsEv, cellsO]
  simp only [part, Sem.run_bind, h1, h2, Result.andThen, if_true, Sem.run_pure, e]

theorem equal_obj9 (p q : Obj) (w : World) : (Op.equalIn 9999 27 (.agg (cellsO p)) (.agg (cellsO q))).run Try.prog w = .ok (decide (p = q)) w := equal_objD 9997 p q w

set_option maxRecDepth 100000 in
set_option maxHeartbeats 2000000 in
theorem equal_ev (p q : Ev) (w : World) : (Op.equalIn 10000 39 (.agg (cellsEv p)) (.agg (cellsEv q))).run Try.prog w = .ok (decide (p = q)) w := by
  rw [run_equalIn_agg w 9999 39 _ _ (by kernel_rfl) (by kernel_rfl)]
  have key : (Op.eqFields 9999 (cellsEv p) (cellsEv q) (Try.prog.fieldsOf 39).toList).run Try.prog w = .ok (decide (p.version = q.version ∧ p.gone = q.gone ∧ p.obj = q.obj ∧ True)) w := by
    simp only [Program.fieldsOf, Try.underlying39]
    refine eqF_step (by decide) (by kernel_rfl) (cellsEv_0 p) (cellsEv_0 q) (eqI_int Try.underlying23) ?_
    refine eqF_step (by decide) (by kernel_rfl) (cellsEv_1 p) (cellsEv_1 q) (eqI_bool Try.underlying4) ?_
    refine eqF_stepA (by decide) (part_obj p w) (part_obj q w) (equal_obj9 p.obj q.obj w) ?_
    exact eqF_nil
  rw [key]
  have e : (p.version = q.version ∧ p.gone = q.gone ∧ p.obj = q.obj ∧ True) ↔ p = q := by
    obtain ⟨v1, g1, o1⟩ := p
    obtain ⟨v2, g2, o2⟩ := q
    constructor
    · rintro ⟨h1, h2, h3, _⟩
      simp only at h1 h2 h3
      rw [h1, h2, h3]
    · intro h
      rw [h]
      exact ⟨rfl, rfl, rfl, trivial⟩
  exact congrArg (fun b => Result.ok b w) (decide_eq_decide.2 e)
theorem exec_neqEv {o : Oper} {a : Act} {w : World} {x y : Operand} {t' : TypeId} (p q : Ev) (hop : o.op = .binOp .neq 39 x y t') (hx : a.eval x = .agg (cellsEv p)) (hy : a.eval y = .agg (cellsEv q)) :
    (execOp a.eval o).run Try.prog w = .ok (.value (.bool (!decide (p = q)))) w := by
  have h1 := equal_ev p q w
  have h2 : (eqGuard .neq 39 x y (.agg (cellsEv p)) (.agg (cellsEv q))).run Try.prog w = .ok () w := run_eqGuard_agg w .neq 39 x y _ _ (by kernel_rfl)
  have h3 : (binOp .neq 39 (.agg (cellsEv p)) (.agg (cellsEv q))).run Try.prog w = .ok (.bool (!decide (p = q))) w := by
    rw [run_neq_struct, h1]; rfl
  simp only [execOp, hop, hx, hy, Sem.run_bind, h2, h3, Result.andThen, Sem.run_pure]
theorem exec_eqlEv {o : Oper} {a : Act} {w : World} {x y : Operand} {t' : TypeId} (p q : Ev) (hop : o.op = .binOp .eql 39 x y t') (hx : a.eval x = .agg (cellsEv p)) (hy : a.eval y = .agg (cellsEv q)) :
    (execOp a.eval o).run Try.prog w = .ok (.value (.bool (decide (p = q)))) w := by
  have h1 := equal_ev p q w
  have h2 : (eqGuard .eql 39 x y (.agg (cellsEv p)) (.agg (cellsEv q))).run Try.prog w = .ok () w := run_eqGuard_agg w .eql 39 x y _ _ (by kernel_rfl)
  have h3 : (binOp .eql 39 (.agg (cellsEv p)) (.agg (cellsEv q))).run Try.prog w = .ok (.bool (decide (p = q))) w := by
    rw [run_eql_struct, h1]; rfl
  simp only [execOp, hop, hx, hy, Sem.run_bind, h2, h3, Result.andThen, Sem.run_pure]
theorem exec_loadEv {o : Oper} {a : Act} {w : World} {x : Operand} {b : Nat} (c : Ev) (hop : o.op = .load 39 x) (hx : a.eval x = .pointer (some ⟨b, 0, none⟩)) (h : ∀ k, w.cell? ⟨b, k, none⟩ = (cellsEv c)[k]?) :
    (execOp a.eval o).run Try.prog w = .ok (.value (.agg (cellsEv c))) w := by
  have := run_loadVar_ev0 c b w h
  simp [execOp, hop, hx, Instr.loadAt, run_sureAddr, this, Result.andThen]
theorem wpList_loadEvG {ops : Array Oper} {Q : Exit → Act → World → Prop} {o : Oper} {rest : List Oper} {a : Act} {w : World} (hw : Region.wanted o (yielded ops a.tmps) = true) (x : Operand) (hop : o.op = .load 39 x) (b : Nat) (hx : a.eval x = .pointer (some ⟨b, 0, none⟩))
    (c : Ev) (h : ∀ k, w.cell? ⟨b, k, none⟩ = (cellsEv c)[k]?) (hK : wpList Try.prog ops Q rest (a.put o.dst (.agg (cellsEv c))) w) : wpList Try.prog ops Q (o :: rest) a w :=
  BigFrame.wpList_want hw fun K hK' => by
    unfold Oper.wp
    rw [exec_loadEv c hop hx h]
    exact hK' _ _ hK
theorem wpList_neqEvG {ops : Array Oper} {Q : Exit → Act → World → Prop} {o : Oper} {rest : List Oper} {a : Act} {w : World} (hw : Region.wanted o (yielded ops a.tmps) = true) (x y : Operand) (t' : TypeId) (hop : o.op = .binOp .neq 39 x y t') (p q : Ev) (hx : a.eval x = .agg (cellsEv p)) (hy : a.eval y = .agg (cellsEv q))
    (hK : wpList Try.prog ops Q rest (a.put o.dst (.bool (!decide (p = q)))) w) : wpList Try.prog ops Q (o :: rest) a w :=
  BigFrame.wpList_want hw fun K hK' => by
    unfold Oper.wp
    rw [exec_neqEv p q hop hx hy]
    exact hK' _ _ hK
theorem wpList_eqlEvG {ops : Array Oper} {Q : Exit → Act → World → Prop} {o : Oper} {rest : List Oper} {a : Act} {w : World} (hw : Region.wanted o (yielded ops a.tmps) = true) (x y : Operand) (t' : TypeId) (hop : o.op = .binOp .eql 39 x y t') (p q : Ev) (hx : a.eval x = .agg (cellsEv p)) (hy : a.eval y = .agg (cellsEv q))
    (hK : wpList Try.prog ops Q rest (a.put o.dst (.bool (decide (p = q)))) w) : wpList Try.prog ops Q (o :: rest) a w :=
  BigFrame.wpList_want hw fun K hK' => by
    unfold Oper.wp
    rw [exec_eqlEv p q hop hx hy]
    exact hK' _ _ hK

end Go.Proofs.Ytgplolfkfhhddaa
