/- Maps of objects by their keys; rows of events and of keys. -/
import Derived.Test.YtobpohjhhelljaaR7
import Derived.Test.YtobpohjhhelljaaO4
import Derived.ChangeKeysEq
import Derived.Test.YtobpohjhhelljaaBase
import Derived.Test.YtobpohjhhelljaaB4
import Derived.Test.YtobpohjhhelljaaReg
import Derived.Laws.AppendOwn
import Derived.Great.BuildSlice
namespace Go.Proofs.Ytobpohjhhelljaa
open Go.RowKit
set_option linter.unusedVariables false
set_option linter.unusedSimpArgs false


theorem results_os {fn : Func} {tmps : Array Value} {w : World} {b : Nat} {t u : Tmp} {x : Value} (p : Obj) (hr : fn.results = #[.cell t 31, .tmp u]) (ht : tmps[t]?.getD undef = .pointer (some ⟨b, 0, none⟩)) (hu : tmps[u]?.getD undef = x) (h : ∀ k, w.cell? ⟨b, k, none⟩ = (cellsO p)[k]?) :
    (results fn tmps).run Try.prog w = .ok (.tuple #[.agg (cellsO p), x]) w := by
  have h0 := run_loadVar_obj p b w h
  simp [results, hr, ht, hu, asAddr, h0, Result.andThen]
theorem results_es {fn : Func} {tmps : Array Value} {w : World} {b : Nat} {t u : Tmp} {x : Value} (p : Ev) (hr : fn.results = #[.cell t 69, .tmp u]) (ht : tmps[t]?.getD undef = .pointer (some ⟨b, 0, none⟩)) (hu : tmps[u]?.getD undef = x) (h : ∀ k, w.cell? ⟨b, k, none⟩ = (cellsEv p)[k]?) :
    (results fn tmps).run Try.prog w = .ok (.tuple #[.agg (cellsEv p), x]) w := by
  have h0 := run_loadVar_ev0 p b w h
  simp [results, hr, ht, hu, asAddr, h0, Result.andThen]

/-- bytes that stay readable while blocks are only added -/
theorem OwnB.later {w w' : World} {B : Nat} {v : Value} {l : Bs} (h : OwnB w B v l) (hb : Below w.heap.size w w') : OwnB w' B v l := h.kept fun k hk => hb.block k (h.tb hk).2.1
theorem wpList_loadObjG {ops : Array Oper} {Q : Exit → Act → World → Prop} {o : Oper} {rest : List Oper} {a : Act} {w : World} (hw : Region.wanted o (yielded ops a.tmps) = true) (x : Operand) (hop : o.op = .load 31 x) (b : Nat) (hx : a.eval x = .pointer (some ⟨b, 0, none⟩))
    (p : Obj) (h : ∀ k, w.cell? ⟨b, k, none⟩ = (cellsO p)[k]?) (hK : wpList Try.prog ops Q rest (a.put o.dst (.agg (cellsO p))) w) : wpList Try.prog ops Q (o :: rest) a w :=
  BigFrame.wpList_want hw fun K hK' => by
    unfold Oper.wp
    rw [exec_loadObj p hop hx h]
    exact hK' _ _ hK
theorem wpList_neqObjG {ops : Array Oper} {Q : Exit → Act → World → Prop} {o : Oper} {rest : List Oper} {a : Act} {w : World} (hw : Region.wanted o (yielded ops a.tmps) = true) (x y : Operand) (t' : TypeId) (hop : o.op = .binOp .neq 31 x y t') (p q : Obj) (hx : a.eval x = .agg (cellsO p)) (hy : a.eval y = .agg (cellsO q))
    (hK : wpList Try.prog ops Q rest (a.put o.dst (.bool (!decide (p = q)))) w) : wpList Try.prog ops Q (o :: rest) a w :=
  BigFrame.wpList_want hw fun K hK' => by
    unfold Oper.wp
    rw [exec_neqObj p q hop hx hy]
    exact hK' _ _ hK
theorem wpList_eqlObjG {ops : Array Oper} {Q : Exit → Act → World → Prop} {o : Oper} {rest : List Oper} {a : Act} {w : World} (hw : Region.wanted o (yielded ops a.tmps) = true) (x y : Operand) (t' : TypeId) (hop : o.op = .binOp .eql 31 x y t') (p q : Obj) (hx : a.eval x = .agg (cellsO p)) (hy : a.eval y = .agg (cellsO q))
    (hK : wpList Try.prog ops Q rest (a.put o.dst (.bool (decide (p = q)))) w) : wpList Try.prog ops Q (o :: rest) a w :=
  BigFrame.wpList_want hw fun K hK' => by
    unfold Oper.wp
    rw [exec_eqlObj p q hop hx hy]
    exact hK' _ _ hK
theorem exec_textG {o : Oper} {a : Act} {w : World} {x : Operand} {v : Value} {l : Bs} (hop : o.op = .convert 41 9 x) (hx : a.eval x = v) (h : IsB w v l) : (execOp a.eval o).run Try.prog w = .ok (.value (.string ⟨l.toArray⟩)) w := by
  simp [execOp, hop, hx, run_text h, Result.andThen]
theorem exec_eqlText {o : Oper} {a : Act} {w : World} {x y : Tmp} {l m : Bs} (hop : o.op = .binOp .eql 9 (.tmp x) (.tmp y) 9) (hx : a.tmps[x]?.getD undef = .string ⟨l.toArray⟩) (hy : a.tmps[y]?.getD undef = .string ⟨m.toArray⟩) : (execOp a.eval o).run Try.prog w = .ok (.value (.bool (decide (l = m)))) w := by
  have e : ((⟨l.toArray⟩ : ByteArray) == ⟨m.toArray⟩) = decide (l = m) := by
    rw [beq_toListBytes, ByteArray.toList_eq, ByteArray.toList_eq, Bool.eq_iff_iff]
    simp
  simp [execOp, hop, hx, hy, go_sem, Result.andThen, e]
  rw [Bool.eq_iff_iff]
  simp

set_option maxRecDepth 100000 in
theorem equal_objD (d : Nat) (p q : Obj) (w : World) : (Op.equalIn (d + 2) 31 (.agg (cellsO p)) (.agg (cellsO q))).run Try.prog w = .ok (decide (p = q)) w := by
  rw [run_equalIn_agg w (d + 1) 31 _ _ (by kernel_rfl) (by kernel_rfl)]
  have key : (Op.eqFields (d + 1) (cellsO p) (cellsO q) (Try.prog.fieldsOf 31).toList).run Try.prog w = .ok (decide (
    p.kind = q.kind ∧ p.name = q.name ∧ p.version = q.version ∧ p.born = q.born ∧ p.deleting = q.deleting ∧ p.hold = q.hold ∧ p.cls = q.cls ∧ p.size = q.size ∧ p.got = q.got ∧ p.mode = q.mode ∧ p.keep = q.keep ∧ p.wait = q.wait ∧ p.zone = q.zone ∧ p.node = q.node ∧ p.claim = q.claim ∧ p.volume = q.volume ∧ p.source = q.source ∧ p.phase = q.phase ∧ p.num = q.num ∧ p.tag = q.tag ∧ True)) w := by
    simp only [Program.fieldsOf, Try.underlying31]
    refine eqF_step (by decide) (by kernel_rfl) (cellsO_get0 p) (cellsO_get0 q) (eqI_int Try.underlying26) ?_
    refine eqF_step (by decide) (by kernel_rfl) (cellsO_get1 p) (cellsO_get1 q) (eqI_str Try.underlying9) ?_
    refine eqF_step (by decide) (by kernel_rfl) (cellsO_get2 p) (cellsO_get2 q) (eqI_int Try.underlying27) ?_
    refine eqF_step (by decide) (by kernel_rfl) (cellsO_get3 p) (cellsO_get3 q) (eqI_int Try.underlying27) ?_
    refine eqF_step (by decide) (by kernel_rfl) (cellsO_get4 p) (cellsO_get4 q) (eqI_bool Try.underlying4) ?_
    refine eqF_step (by decide) (by kernel_rfl) (cellsO_get5 p) (cellsO_get5 q) (eqI_bool Try.underlying4) ?_
    refine eqF_step (by decide) (by kernel_rfl) (cellsO_get6 p) (cellsO_get6 q) (eqI_str Try.underlying9) ?_
    refine eqF_step (by decide) (by kernel_rfl) (cellsO_get7 p) (cellsO_get7 q) (eqI_int Try.underlying2) ?_
    refine eqF_step (by decide) (by kernel_rfl) (cellsO_get8 p) (cellsO_get8 q) (eqI_int Try.underlying2) ?_
    refine eqF_step (by decide) (by kernel_rfl) (cellsO_get9 p) (cellsO_get9 q) (eqI_int Try.underlying28) ?_
    refine eqF_step (by decide) (by kernel_rfl) (cellsO_get10 p) (cellsO_get10 q) (eqI_bool Try.underlying4) ?_
    refine eqF_step (by decide) (by kernel_rfl) (cellsO_get11 p) (cellsO_get11 q) (eqI_bool Try.underlying4) ?_
    refine eqF_step (by decide) (by kernel_rfl) (cellsO_get12 p) (cellsO_get12 q) (eqI_str Try.underlying9) ?_
    refine eqF_step (by decide) (by kernel_rfl) (cellsO_get13 p) (cellsO_get13 q) (eqI_str Try.underlying9) ?_
    refine eqF_step (by decide) (by kernel_rfl) (cellsO_get14 p) (cellsO_get14 q) (eqI_str Try.underlying9) ?_
    refine eqF_step (by decide) (by kernel_rfl) (cellsO_get15 p) (cellsO_get15 q) (eqI_str Try.underlying9) ?_
    refine eqF_step (by decide) (by kernel_rfl) (cellsO_get16 p) (cellsO_get16 q) (eqI_str Try.underlying9) ?_
    refine eqF_step (by decide) (by kernel_rfl) (cellsO_get17 p) (cellsO_get17 q) (eqI_int Try.underlying29) ?_
    refine eqF_step (by decide) (by kernel_rfl) (cellsO_get18 p) (cellsO_get18 q) (eqI_int Try.underlying27) ?_
    refine eqF_step (by decide) (by kernel_rfl) (cellsO_get19 p) (cellsO_get19 q) (eqI_int Try.underlying27) ?_
    exact eqF_nil
  rw [key]
  congr 2
  apply propext
  cases p; cases q
  simp


theorem eqF_stepA {P : Program} {xs ys : Array Value} {d : Nat} {w : World} {f : Field} {fs : List Field} {x y : Value} {C Q : Prop} [Decidable C] [Decidable Q] (hn : f.name ≠ "_") (hx : (part f.type xs f.offset).run P w = .ok x w) (hy : (part f.type ys f.offset).run P w = .ok y w)
    (he : (Op.equalIn d f.type x y).run P w = .ok (decide C) w) (h : (Op.eqFields d xs ys fs).run P w = .ok (decide Q) w) : (Op.eqFields d xs ys (f :: fs)).run P w = .ok (decide (C ∧ Q)) w := by
  simp only [Op.eqFields, hn, ne_eq, not_false_eq_true, if_true, Sem.run_bind, hx, hy, Result.andThen, he]
  by_cases hc : C
  · simp [hc, h]
  · simp [hc]
theorem part_obj (c : Ev) (w : World) : (part 31 (cellsEv c) 2).run Try.prog w = .ok (.agg (cellsO c.obj)) w := by
  have h1 : (isAgg 31).run Try.prog w = .ok true w := by kernel_rfl
  have h2 : (sizeOf 31).run Try.prog w = .ok 20 w := by kernel_rfl
  have e : (cellsEv c).extract 2 (2 + 20) = cellsO c.obj := by simp [cellsEv, cellsO]
  simp only [part, Sem.run_bind, h1, h2, Result.andThen, if_true, Sem.run_pure, e]

theorem equal_obj9 (p q : Obj) (w : World) : (Op.equalIn 9999 31 (.agg (cellsO p)) (.agg (cellsO q))).run Try.prog w = .ok (decide (p = q)) w := equal_objD 9997 p q w

set_option maxRecDepth 100000 in
set_option maxHeartbeats 2000000 in
theorem equal_ev (p q : Ev) (w : World) : (Op.equalIn 10000 69 (.agg (cellsEv p)) (.agg (cellsEv q))).run Try.prog w = .ok (decide (p = q)) w := by
  rw [run_equalIn_agg w 9999 69 _ _ (by kernel_rfl) (by kernel_rfl)]
  have key : (Op.eqFields 9999 (cellsEv p) (cellsEv q) (Try.prog.fieldsOf 69).toList).run Try.prog w = .ok (decide (p.version = q.version ∧ p.gone = q.gone ∧ p.obj = q.obj ∧ True)) w := by
    simp only [Program.fieldsOf, Try.underlying69]
    refine eqF_step (by decide) (by kernel_rfl) (cellsEv_0 p) (cellsEv_0 q) (eqI_int Try.underlying27) ?_
    refine eqF_step (by decide) (by kernel_rfl) (cellsEv_1 p) (cellsEv_1 q) (eqI_bool Try.underlying4) ?_
    refine eqF_stepA (by decide) (part_obj p w) (part_obj q w) (equal_obj9 p.obj q.obj w) ?_
    exact eqF_nil
  rw [key]
  have e : (p.version = q.version ∧ p.gone = q.gone ∧ p.obj = q.obj ∧ True) ↔ p = q := by
    obtain ⟨v1, g1, o1⟩ := p
    obtain ⟨v2, g2, o2⟩ := q
    constructor
    · rintro ⟨h1, h2, h3, _⟩
      simp only at h1 h2 h3
      rw [h1, h2, h3]
    · intro h
      rw [h]
      exact ⟨rfl, rfl, rfl, trivial⟩
  exact congrArg (fun b => Result.ok b w) (decide_eq_decide.2 e)
theorem exec_neqEv {o : Oper} {a : Act} {w : World} {x y : Operand} {t' : TypeId} (p q : Ev) (hop : o.op = .binOp .neq 69 x y t') (hx : a.eval x = .agg (cellsEv p)) (hy : a.eval y = .agg (cellsEv q)) :
    (execOp a.eval o).run Try.prog w = .ok (.value (.bool (!decide (p = q)))) w := by
  have h1 := equal_ev p q w
  have h2 : (eqGuard .neq 69 x y (.agg (cellsEv p)) (.agg (cellsEv q))).run Try.prog w = .ok () w := run_eqGuard_agg w .neq 69 x y _ _ (by kernel_rfl)
  have h3 : (binOp .neq 69 (.agg (cellsEv p)) (.agg (cellsEv q))).run Try.prog w = .ok (.bool (!decide (p = q))) w := by
    rw [run_neq_struct, h1]; rfl
  simp only [execOp, hop, hx, hy, Sem.run_bind, h2, h3, Result.andThen, Sem.run_pure]
theorem exec_eqlEv {o : Oper} {a : Act} {w : World} {x y : Operand} {t' : TypeId} (p q : Ev) (hop : o.op = .binOp .eql 69 x y t') (hx : a.eval x = .agg (cellsEv p)) (hy : a.eval y = .agg (cellsEv q)) :
    (execOp a.eval o).run Try.prog w = .ok (.value (.bool (decide (p = q)))) w := by
  have h1 := equal_ev p q w
  have h2 : (eqGuard .eql 69 x y (.agg (cellsEv p)) (.agg (cellsEv q))).run Try.prog w = .ok () w := run_eqGuard_agg w .eql 69 x y _ _ (by kernel_rfl)
  have h3 : (binOp .eql 69 (.agg (cellsEv p)) (.agg (cellsEv q))).run Try.prog w = .ok (.bool (decide (p = q))) w := by
    rw [run_eql_struct, h1]; rfl
  simp only [execOp, hop, hx, hy, Sem.run_bind, h2, h3, Result.andThen, Sem.run_pure]
theorem exec_loadEv {o : Oper} {a : Act} {w : World} {x : Operand} {b : Nat} (c : Ev) (hop : o.op = .load 69 x) (hx : a.eval x = .pointer (some ⟨b, 0, none⟩)) (h : ∀ k, w.cell? ⟨b, k, none⟩ = (cellsEv c)[k]?) :
    (execOp a.eval o).run Try.prog w = .ok (.value (.agg (cellsEv c))) w := by
  have := run_loadVar_ev0 c b w h
  simp [execOp, hop, hx, Instr.loadAt, run_sureAddr, this, Result.andThen]
theorem wpList_loadEvG {ops : Array Oper} {Q : Exit → Act → World → Prop} {o : Oper} {rest : List Oper} {a : Act} {w : World} (hw : Region.wanted o (yielded ops a.tmps) = true) (x : Operand) (hop : o.op = .load 69 x) (b : Nat) (hx : a.eval x = .pointer (some ⟨b, 0, none⟩))
    (c : Ev) (h : ∀ k, w.cell? ⟨b, k, none⟩ = (cellsEv c)[k]?) (hK : wpList Try.prog ops Q rest (a.put o.dst (.agg (cellsEv c))) w) : wpList Try.prog ops Q (o :: rest) a w :=
  BigFrame.wpList_want hw fun K hK' => by
    unfold Oper.wp
    rw [exec_loadEv c hop hx h]
    exact hK' _ _ hK
theorem wpList_neqEvG {ops : Array Oper} {Q : Exit → Act → World → Prop} {o : Oper} {rest : List Oper} {a : Act} {w : World} (hw : Region.wanted o (yielded ops a.tmps) = true) (x y : Operand) (t' : TypeId) (hop : o.op = .binOp .neq 69 x y t') (p q : Ev) (hx : a.eval x = .agg (cellsEv p)) (hy : a.eval y = .agg (cellsEv q))
    (hK : wpList Try.prog ops Q rest (a.put o.dst (.bool (!decide (p = q)))) w) : wpList Try.prog ops Q (o :: rest) a w :=
  BigFrame.wpList_want hw fun K hK' => by
    unfold Oper.wp
    rw [exec_neqEv p q hop hx hy]
    exact hK' _ _ hK
theorem wpList_eqlEvG {ops : Array Oper} {Q : Exit → Act → World → Prop} {o : Oper} {rest : List Oper} {a : Act} {w : World} (hw : Region.wanted o (yielded ops a.tmps) = true) (x y : Operand) (t' : TypeId) (hop : o.op = .binOp .eql 69 x y t') (p q : Ev) (hx : a.eval x = .agg (cellsEv p)) (hy : a.eval y = .agg (cellsEv q))
    (hK : wpList Try.prog ops Q rest (a.put o.dst (.bool (decide (p = q)))) w) : wpList Try.prog ops Q (o :: rest) a w :=
  BigFrame.wpList_want hw fun K hK' => by
    unfold Oper.wp
    rw [exec_eqlEv p q hop hx hy]
    exact hK' _ _ hK



open Go.Maps
theorem key_ext {a b : GKey} : a = b ↔ a.kind = b.kind ∧ a.name.toList = b.name.toList := by
  constructor
  · rintro rfl; exact ⟨rfl, rfl⟩
  · rintro ⟨h1, h2⟩
    cases a; cases b
    simp only [ByteArray.toList_eq] at h2
    simp at h1
    subst h1
    congr 1
    rename_i x y
    obtain ⟨⟨x⟩⟩ := x
    obtain ⟨⟨y⟩⟩ := y
    simp at h2; rw [h2]

theorem keyOK : KeyOK Try.prog 45 where
  und := ⟨Try.prog.fieldsOf 45, by kernel_rfl⟩
  chk k b w := by
    have : ∀ n, (Instr.checkKey b (n + 1 + 1) 45 (encKey k)).run Try.prog w = .ok () w := by
      intro n
      simp [Instr.checkKey, run_underlying Try.underlying45, run_underlying Try.underlying26, run_underlying Try.underlying9, go_sem, Result.andThen]
    exact this 9998
  eq k k' w := by
    unfold Op.equal Op.maxDepth
    rw [run_equalIn_agg w 9999 45 _ _ (by kernel_rfl) (by kernel_rfl)]
    simp [Program.fieldsOf, Try.underlying45, Op.eqFields, go_sem]
    by_cases h : k = k'
    · subst h; simp
    · have : ¬ (k.kind = k'.kind ∧ k.name.toList = k'.name.toList) := fun hh => h (key_ext.2 hh)
      simp [h]
      intro h1
      by_cases h2 : k.name.toList = k'.name.toList
      · exact absurd ⟨h1, h2⟩ this
      · simp [h2]

/-- an object as a map's value -/
abbrev encO (o : Obj) : Value := .agg (cellsO o)
def keyO (o : Obj) : GKey := ⟨o.kind, o.name⟩
theorem zeroObj (w : World) : (zeroValue 31).run Try.prog w = .ok (encO objZ) w := by kernel_rfl
theorem undMap : Try.prog.underlying 73 = some (.map 45 31) := by kernel_rfl

set_option maxRecDepth 100000 in
set_option maxHeartbeats 4000000 in
theorem key_any (o : Obj) (w : World) :
    Calls Try.prog 46 #[.agg (cellsO o)] w fun e w' => e = .returned (.agg #[.int .u8 o.kind, .string o.name]) ∧ Below w.heap.size w w' := by
  have hS0 : ∀ k, (w.alloc (.cells (cellsO o) 31)).cell? ⟨w.heap.size, k, none⟩ = (cellsO o)[k]? := cells_all heap_alloc_eq
  go_enter Try.func46, Try.ntmps46
  go_wp2
  refine bodyPost_ret (v := .agg #[.int .u8 o.kind, .string o.name]) ?_ rfl ⟨rfl, (((Below.refl _ _).alloc (Nat.le_refl _) _).alloc (by simp) _)⟩
  simp [results, show Try.func46.results = #[.cell 2 45] from rfl, asAddr]
  go_simp

/-! ### rows of cells -/
theorem flatN {α : Type} (N : Nat) (f : α → List Value) (hf : ∀ a, (f a).length = N) : ∀ (l : List α) (i j : Nat), j < N → (l.flatMap f)[i * N + j]? = (l[i]?).bind fun a => (f a)[j]?
  | [], i, j, _ => by simp
  | a :: l, 0, j, hj => by
    simp only [List.flatMap_cons, Nat.zero_mul, Nat.zero_add, List.getElem?_cons_zero, Option.bind_some]
    rw [List.getElem?_append_left (by rw [hf]; exact hj)]
  | a :: l, i + 1, j, hj => by
    simp only [List.flatMap_cons, List.getElem?_cons_succ]
    rw [List.getElem?_append_right (by rw [hf, Nat.add_mul]; omega), hf, show (i + 1) * N + j - N = i * N + j by rw [Nat.add_mul]; omega, flatN N f hf l i j hj]
theorem flatLen {α : Type} (N : Nat) (f : α → List Value) (hf : ∀ a, (f a).length = N) (l : List α) : (l.flatMap f).length = l.length * N := by
  induction l with
  | nil => simp
  | cons a l ih => rw [List.flatMap_cons, List.length_append, ih, hf, List.length_cons, Nat.add_mul]; omega
def cellsK (k : GKey) : List Value := [.int .u8 k.kind, .string k.name]
def cellsE (e : Ev) : List Value := (cellsEv e).toList
theorem cellsE_len (e : Ev) : (cellsE e).length = 22 := by simp [cellsE, cellsEv, cellsO]
theorem cellsK_len (k : GKey) : (cellsK k).length = 2 := rfl
abbrev OwnE (w : World) (B : Nat) (v : Value) (l : List Ev) : Prop := w.ownsRow B 69 22 v l.length (l.flatMap cellsE)
abbrev OwnK (w : World) (B : Nat) (v : Value) (l : List GKey) : Prop := w.ownsRow B 45 2 v l.length (l.flatMap cellsK)
theorem und_evs : Try.prog.underlying 46 = some (.slice 69) := by kernel_rfl
theorem info_ev : (Try.prog.info? 69).map (fun i => (i.zero, i.size, i.bytes)) = some (some (.agg (cellsEv evZ)), 22, 208) := by kernel_rfl
theorem und_keys : Try.prog.underlying 57 = some (.slice 45) := by kernel_rfl
theorem info_key : (Try.prog.info? 45).map (fun i => (i.zero, i.size, i.bytes)) = some (some (.agg #[.int .u8 0, .string ByteArray.empty]), 2, 24) := by kernel_rfl

theorem wpList_app_cells {ops : Array Oper} {rest : List Oper} {o : Oper} {a : Act} {w : World} {Q : Exit → Act → World → Prop} (hgd : o.guard = none) (s x : Operand) (t e : TypeId)
    (ho : o.op = .call { callee := .builtin .append, args := #[s, x], argTypes := #[t, t] }) {z : Value} {size bytes : Nat} (ht : Try.prog.underlying t = some (.slice e)) (hi : (Try.prog.info? e).map (fun i => (i.zero, i.size, i.bytes)) = some (some z, size, bytes)) (hzs : z.cells.size = size) (hsz : 0 < size)
    (B : Nat) (v : Value) (n : Nat) (xs : List Value) (hs : a.eval s = v) (hown : w.ownsRow B e size v n xs) (ad : Addr) (m c : Nat) (news : List Value) (hx : a.eval x = .slice (some ad) m c) (hl : news.length = m * size)
    (hcell : ∀ j u, news[j]? = some u → w.cell? (ad.add j) = some u) (h1 : ∀ u ∈ news, u.oneCell' = true) (h63 : n + m ≤ maxLen) (hby : (n + m) * bytes ≤ 140737488355328) (hB : B ≤ w.heap.size)
    (h : ∀ v' w', w'.ownsRow B e size v' (n + m) (xs ++ news) → w.grownBy w' v.ownBlock → wpList Try.prog ops Q rest (a.put o.dst v') w') : wpList Try.prog ops Q (o :: rest) a w := by
  refine wpList_plain hgd fun K hK => ?_
  obtain ⟨i0, hi0, hz0, hz1, hz2⟩ := info_parts hi
  obtain ⟨v', w', hr, h3, h4, _⟩ := run_append_own (w := w) B t o.type e i0 z size bytes ht hi0 hz0 hz1 hz2 hzs hsz v n xs hown ad m c news hl hcell h1 h63 hby hB
  unfold Oper.wp
  simp [execOp, ho, resolve, invoke, builtin, hs, hx, hr, Result.andThen]
  exact hK _ _ (h v' w' h3 h4)

theorem cellsE_one (e : Ev) : ∀ u ∈ cellsE e, u.oneCell' = true := by
  intro u hu
  have h := oneV_ev e u hu
  revert h
  cases u <;> simp [oneV, Value.oneCell']
theorem cellsK_one (k : GKey) : ∀ u ∈ cellsK k, u.oneCell' = true := by
  intro u hu
  simp [cellsK] at hu
  rcases hu with rfl | rfl <;> rfl
theorem cells_box {w : World} {b : Nat} {cs : Array Value} {t : TypeId} (h : w.heap[b]? = some (.cells cs t (0, 0))) : ∀ j u, cs.toList[j]? = some u → w.cell? ((⟨b, 0, none⟩ : Addr).add j) = some u := by
  intro j u hu
  rw [Addr.add_lit, Nat.zero_add]
  simp only [World.cell?, h]
  simpa using hu
theorem wpList_app_ev {ops : Array Oper} {rest : List Oper} {o : Oper} {a : Act} {w : World} {Q : Exit → Act → World → Prop} (hgd : o.guard = none) (s x : Operand)
    (ho : o.op = .call { callee := .builtin .append, args := #[s, x], argTypes := #[46, 46] }) (B : Nat) (v : Value) (l : List Ev) (hs : a.eval s = v) (hown : OwnE w B v l) (b : Nat) (e : Ev) (hx : a.eval x = .slice (some ⟨b, 0, none⟩) 1 1)
    (hb : w.heap[b]? = some (.cells (cellsEv e) 69 (0, 0))) (hl : l.length ≤ 1000000) (hB : B ≤ w.heap.size)
    (h : ∀ v' w', OwnE w' B v' (l ++ [e]) → w.grownBy w' v.ownBlock → wpList Try.prog ops Q rest (a.put o.dst v') w') : wpList Try.prog ops Q (o :: rest) a w := by
  refine wpList_app_cells hgd s x _ _ ho und_evs info_ev (by simp [Value.cells, cellsEv, cellsO]) (by decide) B v _ _ hs hown _ 1 1 (cellsE e) hx (by rw [cellsE_len]) (cells_box hb) (cellsE_one e) (by unfold maxLen; omega) (by omega) hB fun v' w' h1 h2 => h v' w' ?_ h2
  rw [OwnE, List.length_append, List.flatMap_append]
  simpa using h1
theorem wpList_app_key {ops : Array Oper} {rest : List Oper} {o : Oper} {a : Act} {w : World} {Q : Exit → Act → World → Prop} (hgd : o.guard = none) (s x : Operand)
    (ho : o.op = .call { callee := .builtin .append, args := #[s, x], argTypes := #[57, 57] }) (B : Nat) (v : Value) (l : List GKey) (hs : a.eval s = v) (hown : OwnK w B v l) (b : Nat) (k : GKey) (hx : a.eval x = .slice (some ⟨b, 0, none⟩) 1 1)
    (hb : w.heap[b]? = some (.cells #[.int .u8 k.kind, .string k.name] 45 (0, 0))) (hl : l.length ≤ 1000000) (hB : B ≤ w.heap.size)
    (h : ∀ v' w', OwnK w' B v' (l ++ [k]) → w.grownBy w' v.ownBlock → wpList Try.prog ops Q rest (a.put o.dst v') w') : wpList Try.prog ops Q (o :: rest) a w := by
  refine wpList_app_cells hgd s x _ _ ho und_keys info_key rfl (by decide) B v _ _ hs hown _ 1 1 (cellsK k) hx rfl (cells_box hb) (cellsK_one k) (by unfold maxLen; omega) (by omega) hB fun v' w' h1 h2 => h v' w' ?_ h2
  rw [OwnK, List.length_append, List.flatMap_append]
  simpa using h1

/-- events that a walk reads -/
def EvsAt (w : World) (a : Option Addr) (l : List Ev) : Prop := l = [] ∨ ∃ b o, a = some ⟨b, o, none⟩ ∧ ∀ i e, l[i]? = some e → ∀ k, k < 22 → w.cell? ⟨b, o + i * 22 + k, none⟩ = (cellsEv e)[k]?
theorem OwnE.evs {w : World} {B : Nat} {v : Value} {l : List Ev} (h : OwnE w B v l) : ∃ a c, v = .slice a l.length c ∧ EvsAt w a l ∧ l.length ≤ c ∧ c ≤ maxLen := by
  have h' := h
  obtain ⟨_, ⟨rfl, h0⟩ | ⟨g, c, cur, rfl, _, _, h1, h2, _⟩⟩ := h
  · exact ⟨none, 0, by rw [h0], .inl (List.eq_nil_of_length_eq_zero h0), by omega, by unfold maxLen; omega⟩
  · refine ⟨_, c, rfl, .inr ⟨g, 0, rfl, fun i e hi k hk => ?_⟩, h1, h2⟩
    have hil := (List.getElem?_eq_some_iff.1 hi).1
    have := World.ownsRow.cellAt h' (i * 22 + k) (by have := flatLen 22 cellsE cellsE_len l; omega)
    rw [Nat.zero_add, this, flatN 22 cellsE cellsE_len l i k hk, hi]
    simp [cellsE]
theorem run_loadVar_evAt (e : Ev) (b k : Nat) (w : World) (h : ∀ i, i < 22 → w.cell? ⟨b, k + i, none⟩ = (cellsEv e)[i]?) : (loadVar 69 ⟨b, k, none⟩).run Try.prog w = .ok (.agg (cellsEv e)) w := by
  have := load_cells_at (P := Try.prog) (b := b) (o := k) (cs := cellsEv e) (w := w) (fun i hi => h i (by rw [cellsEv_size] at hi; exact hi)) 22 0 #[] (by simp [cellsEv_size]) (by simp)
  have h1 : (isAgg 69).run Try.prog w = .ok true w := by kernel_rfl
  have h2 : (sizeOf 69).run Try.prog w = .ok 22 w := by kernel_rfl
  simp only [loadVar, Sem.run_bind, h1, h2, Result.andThen, loadCells, this, if_true, Sem.run_pure]
theorem wpList_loadEvAt {ops : Array Oper} {Q : Exit → Act → World → Prop} {o : Oper} {rest : List Oper} {a : Act} {w : World} (hg : o.guard = none) (x : Operand) (hop : o.op = .load 69 x) (b k : Nat) (hx : a.eval x = .pointer (some ⟨b, k, none⟩))
    (p : Ev) (h : ∀ i, i < 22 → w.cell? ⟨b, k + i, none⟩ = (cellsEv p)[i]?) (hK : wpList Try.prog ops Q rest (a.put o.dst (.agg (cellsEv p))) w) : wpList Try.prog ops Q (o :: rest) a w :=
  wpList_plain hg fun K hK' => by
    unfold Oper.wp
    have := run_loadVar_evAt p b k w h
    have e : (execOp a.eval o).run Try.prog w = .ok (.value (.agg (cellsEv p))) w := by simp [execOp, hop, hx, Instr.loadAt, run_sureAddr, this, Result.andThen]
    rw [e]
    exact hK' _ _ hK
theorem exec_loadObjAt {o : Oper} {a : Act} {w : World} {x : Operand} {b k : Nat} (p : Obj) (hop : o.op = .load 31 x) (hx : a.eval x = .pointer (some ⟨b, k, none⟩)) (h : ∀ i, w.cell? ⟨b, k + i, none⟩ = (cellsO p)[i]?) :
    (execOp a.eval o).run Try.prog w = .ok (.value (.agg (cellsO p))) w := by
  have := run_loadVar_objAt p b k w h
  simp [execOp, hop, hx, Instr.loadAt, run_sureAddr, this, Result.andThen]
theorem below_new (W : World) (x z : Go.Obj) : Below W.heap.size W (Wset (W.alloc x) W.heap.size z) := belowWs ((Below.refl _ _).alloc (Nat.le_refl _) x) (Nat.le_refl _)
theorem new_box (W : World) (x : Go.Obj) (cs : Array Value) (t : TypeId) : (Wset (W.alloc x) W.heap.size (.cells cs t (0, 0))).heap[W.heap.size]? = some (.cells cs t (0, 0)) := Wset_same (by simp)
theorem wpStill_val {P : Program} {ops : Array Oper} {w : World} {Q : Act → Prop} {a : Act} {o : Oper} {rest : List Oper} {v : Value} (hw : Region.wanted o (yielded ops a.tmps) = true) (h : (execOp a.eval o).run P w = .ok (.value v) w) (hK : wpStill P ops w Q rest (a.put o.dst v)) : wpStill P ops w Q (o :: rest) a := by
  unfold wpStill
  rw [if_pos hw]
  unfold Oper.still
  rw [h, Oper.stillUpon_value]
  exact hK
theorem wpList_upd {P : Program} {ops : Array Oper} {rest : List Oper} {o : Oper} {a : Act} {w w' : World} {Q : Exit → Act → World → Prop} (hgd : o.guard = none) (x y z : Operand) (t : TypeId) (ho : o.op = .mapUpdate t x y z) (m : Option Nat) (ky vz : Value)
    (hx : a.eval x = .map m) (hy : a.eval y = ky) (hz : a.eval z = vz) (hr : (Instr.mapUpdate t (.map m) ky vz).run P w = .ok () w') (hK : wpList P ops Q rest (a.put o.dst undef) w') : wpList P ops Q (o :: rest) a w := by
  refine wpList_plain hgd fun K hK' => ?_
  unfold Oper.wp
  have e : (execOp a.eval o).run P w = .ok .skip w' := by simp [execOp, ho, hx, hy, hz, hr, Result.andThen]
  rw [e]
  exact hK' _ _ hK
theorem wpList_del {P : Program} {ops : Array Oper} {rest : List Oper} {o : Oper} {a : Act} {w w' : World} {Q : Exit → Act → World → Prop} (hgd : o.guard = none) (x y : Operand) (t k : TypeId) (ho : o.op = .call { callee := .builtin .delete, args := #[x, y], argTypes := #[t, k] }) (m : Option Nat) (ky : Value)
    (hx : a.eval x = .map m) (hy : a.eval y = ky) (hr : (Builtin.delete_ #[t, k] o.type #[.map m, ky]).run P w = .ok (.tuple #[]) w') (hK : wpList P ops Q rest (a.put o.dst (.tuple #[])) w') : wpList P ops Q (o :: rest) a w := by
  refine wpList_plain hgd fun K hK' => ?_
  unfold Oper.wp
  simp [execOp, ho, resolve, invoke, builtin, hx, hy, hr, Result.andThen]
  exact hK' _ _ hK
theorem ownsRow_cells {w : World} {B : Nat} {e : TypeId} {s : Nat} {v : Value} {n : Nat} {xs : List Value} (h : w.ownsRow B e s v n xs) {k : Nat} (hk : v.ownBlock = some k) : ∃ cs fr, w.heap[k]? = some (.cells cs e fr) := by
  obtain ⟨_, ⟨rfl, _⟩ | ⟨g, c, cur, rfl, _, hg, _⟩⟩ := h
  · simp [Value.ownBlock] at hk
  · simp [Value.ownBlock] at hk
    subst hk
    exact ⟨_, _, hg⟩
theorem fold_set : ∀ (l : List Value) (k : Nat) (base : Array Value), base.size = k + l.length → (l.zipIdx k).foldl (fun (b : Array Value) x => b.setIfInBounds x.2 x.1) base = (base.toList.take k ++ l).toArray
  | [], k, base, h => by
    apply Array.toList_inj.1
    simp only [List.zipIdx_nil, List.foldl_nil, List.append_nil]
    rw [List.take_of_length_le (by simp at h ⊢; omega)]
  | a :: l, k, base, h => by
    simp only [List.zipIdx_cons, List.foldl_cons]
    rw [fold_set l (k + 1) (base.setIfInBounds k a) (by simp at h ⊢; omega)]
    congr 1
    have hk : k < base.toList.length := by simp at h ⊢; omega
    rw [Array.toList_setIfInBounds, List.take_add_one, List.take_set_of_le (Nat.le_refl k), List.getElem?_set_self hk]
    simp
theorem fill_all {N : Nat} (cs base : Array Value) (hc : cs.size = N) (hb : base.size = N) : Instr.fill (fun i => some (i * N, N)) base [(0, .agg cs)] = some cs := by
  have h := fold_set cs.toList 0 base (by simp; omega)
  have h2 : Array.foldl (fun (b : Array Value) x => b.setIfInBounds x.2 x.1) base cs.zipIdx = cs := by
    rw [← Array.foldl_toList, Array.toList_zipIdx, h]
    simp
  simp [Instr.fill, Value.cells, hc, hb]
  have h3 : cs.zipIdx.size = N := by simp [hc]
  rw [← h3]
  exact h2
theorem wpList_slice1 {ops : Array Oper} {rest : List Oper} {o : Oper} {a : Act} {w : World} {Q : Exit → Act → World → Prop} (hg : o.guard = none) {t e : TypeId} {z : Value} {size bytes : Nat} (x : Operand) (ho : o.op = .buildSlice t 1 #[(0, x)]) (cs : Array Value) (hx : a.eval x = .agg cs)
    (hu : Try.prog.underlying t = some (.slice e)) (hi : (Try.prog.info? e).map (fun i => (i.zero, i.size, i.bytes)) = some (some z, size, bytes)) (hcs : cs.size = size) (hsmall : size ≤ 1000) (hpos : 0 < size)
    (h : wpList Try.prog ops Q rest (a.put o.dst (.slice (some ⟨w.heap.size, 0, none⟩) 1 1)) (w.alloc (.cells cs e))) : wpList Try.prog ops Q (o :: rest) a w := by
  obtain ⟨i0, hi0, hz0, hz1, _⟩ := info_parts hi
  refine Go.wpList_buildSlice hg t e 1 #[(0, x)] ho cs i0 z hu hi0 hz0 (by rw [hz1]; omega) (by rw [hz1]; omega) ?_ h
  rw [hz1]
  simp only [List.map_toArray, List.map_cons, List.map_nil, hx]
  exact fill_all cs _ hcs (by simp)
theorem wpList_sliceEv {ops : Array Oper} {rest : List Oper} {o : Oper} {a : Act} {w : World} {Q : Exit → Act → World → Prop} (hg : o.guard = none) (x : Operand) (ho : o.op = .buildSlice 46 1 #[(0, x)]) (e : Ev) (hx : a.eval x = .agg (cellsEv e))
    (h : wpList Try.prog ops Q rest (a.put o.dst (.slice (some ⟨w.heap.size, 0, none⟩) 1 1)) (w.alloc (.cells (cellsEv e) 69))) : wpList Try.prog ops Q (o :: rest) a w :=
  wpList_slice1 hg x ho (cellsEv e) hx und_evs info_ev (cellsEv_size e) (by decide) (by decide) h
set_option maxRecDepth 100000 in
theorem run_buildEv (v : Int) (o : Obj) (w : World) : (Instr.build 69 #[(0, .int .u64 v), (2, .agg (cellsO o))]).run Try.prog w = .ok (.agg (cellsEv ⟨v, false, o⟩)) w := by kernel_rfl
theorem wpList_buildEv {ops : Array Oper} {rest : List Oper} {o : Oper} {a : Act} {w : World} {Q : Exit → Act → World → Prop} (hg : o.guard = none) (x y : Operand) (ho : o.op = .build 69 #[(0, x), (2, y)]) (v : Int) (p : Obj) (hx : a.eval x = .int .u64 v) (hy : a.eval y = .agg (cellsO p))
    (hK : wpList Try.prog ops Q rest (a.put o.dst (.agg (cellsEv ⟨v, false, p⟩))) w) : wpList Try.prog ops Q (o :: rest) a w :=
  wpList_plain hg fun K hK' => by
    unfold Oper.wp
    have e : (execOp a.eval o).run Try.prog w = .ok (.value (.agg (cellsEv ⟨v, false, p⟩))) w := by simp [execOp, ho, hx, hy, run_buildEv, Result.andThen]
    rw [e]
    exact hK' _ _ hK
theorem setO2 (o : Obj) (x : Int) : (cellsO o).setIfInBounds 2 (.int .u64 x) = cellsO { o with version := x } := by simp [cellsO]
theorem setO3 (o : Obj) (x : Int) : (cellsO o).setIfInBounds 3 (.int .u64 x) = cellsO { o with born := x } := by simp [cellsO]
theorem setO4 (o : Obj) (x : Bool) : (cellsO o).setIfInBounds 4 (.bool x) = cellsO { o with deleting := x } := by simp [cellsO]
theorem belowSC {w w' : World} {B : Nat} {p : Addr} {u : Value} (h : Below B w w') (hp : B ≤ p.block) : Below B w (w'.setCell p u) :=
  ⟨h.os, h.tape, h.output, by have := h.size; simp [World.setCell]; omega, fun k hk => (heap_setCell_ne (by omega)).trans (h.block k hk)⟩

end Go.Proofs.Ytobpohjhhelljaa
