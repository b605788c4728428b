/- Layer 3 (object): equality of objects; the small functions. -/
import Derived.Test.YtobpohjhhelljaaO3
import Derived.ChangeKeysEq
namespace Go.Proofs.Ytobpohjhhelljaa
open Go.RowKit
set_option linter.unusedVariables false
set_option linter.unusedSimpArgs false


theorem toList_eq_iff {a b : ByteArray} : a.toList = b.toList ↔ a = b := by
  constructor
  · intro h
    simp only [ByteArray.toList_eq] at h
    obtain ⟨⟨x⟩⟩ := a
    obtain ⟨⟨y⟩⟩ := b
    simp at h
    rw [h]
  · rintro rfl; rfl

theorem eqF_nil {P : Program} {xs ys : Array Value} {d : Nat} {w : World} : (Op.eqFields d xs ys []).run P w = .ok (decide True) w := by simp [Op.eqFields]
theorem eqF_step {P : Program} {xs ys : Array Value} {d : Nat} {w : World} {f : Field} {fs : List Field} {x y : Value} {C Q : Prop} [Decidable C] [Decidable Q] (hn : f.name ≠ "_") (hp : P.plainKey f.type = true) (hx : xs[f.offset]? = some x) (hy : ys[f.offset]? = some y)
    (he : (Op.equalIn d f.type x y).run P w = .ok (decide C) w) (h : (Op.eqFields d xs ys fs).run P w = .ok (decide Q) w) : (Op.eqFields d xs ys (f :: fs)).run P w = .ok (decide (C ∧ Q)) w := by
  simp only [Op.eqFields, hn, ne_eq, not_false_eq_true, if_true, Sem.run_bind, run_part_plain w hp hx, run_part_plain w hp hy, Result.andThen, he]
  by_cases hc : C
  · simp [hc, h]
  · simp [hc]
theorem eqI_int {P : Program} {w : World} {d : Nat} {t : TypeId} {k : IntKind} {a b : Int} (h : P.underlying t = some (.int k)) : (Op.equalIn (d + 1) t (.int k a) (.int k b)).run P w = .ok (decide (a = b)) w := by
  rw [run_equalIn_int w d t k k a b h]; rfl
theorem eqI_bool {P : Program} {w : World} {d : Nat} {t : TypeId} {a b : Bool} (h : P.underlying t = some .bool) : (Op.equalIn (d + 1) t (.bool a) (.bool b)).run P w = .ok (decide (a = b)) w := by
  rw [run_equalIn_bool w d t a b h]; cases a <;> cases b <;> rfl
theorem eqI_str {P : Program} {w : World} {d : Nat} {t : TypeId} {a b : ByteArray} (h : P.underlying t = some .string) : (Op.equalIn (d + 1) t (.string a) (.string b)).run P w = .ok (decide (a = b)) w := by
  rw [run_equalIn_string w d t a b h]
  by_cases hc : a = b
  · subst hc; simp
  · have : ¬ a.toList = b.toList := fun h => hc (toList_eq_iff.1 h)
    simp [hc, this]

set_option maxRecDepth 100000 in
theorem equal_obj (p q : Obj) (w : World) : (Op.equalIn 10000 31 (.agg (cellsO p)) (.agg (cellsO q))).run Try.prog w = .ok (decide (p = q)) w := by
  rw [run_equalIn_agg w 9999 31 _ _ (by kernel_rfl) (by kernel_rfl)]
  have key : (Op.eqFields 9999 (cellsO p) (cellsO q) (Try.prog.fieldsOf 31).toList).run Try.prog w = .ok (decide (
    p.kind = q.kind ∧ p.name = q.name ∧ p.version = q.version ∧ p.born = q.born ∧ p.deleting = q.deleting ∧ p.hold = q.hold ∧ p.cls = q.cls ∧ p.size = q.size ∧ p.got = q.got ∧ p.mode = q.mode ∧ p.keep = q.keep ∧ p.wait = q.wait ∧ p.zone = q.zone ∧ p.node = q.node ∧ p.claim = q.claim ∧ p.volume = q.volume ∧ p.source = q.source ∧ p.phase = q.phase ∧ p.num = q.num ∧ p.tag = q.tag ∧ True)) w := by
    simp only [Program.fieldsOf, Try.underlying31]
    refine eqF_step (by decide) (by kernel_rfl) (cellsO_get0 p) (cellsO_get0 q) (eqI_int Try.underlying26) ?_
    refine eqF_step (by decide) (by kernel_rfl) (cellsO_get1 p) (cellsO_get1 q) (eqI_str Try.underlying9) ?_
    refine eqF_step (by decide) (by kernel_rfl) (cellsO_get2 p) (cellsO_get2 q) (eqI_int Try.underlying27) ?_
    refine eqF_step (by decide) (by kernel_rfl) (cellsO_get3 p) (cellsO_get3 q) (eqI_int Try.underlying27) ?_
    refine eqF_step (by decide) (by kernel_rfl) (cellsO_get4 p) (cellsO_get4 q) (eqI_bool Try.underlying4) ?_
    refine eqF_step (by decide) (by kernel_rfl) (cellsO_get5 p) (cellsO_get5 q) (eqI_bool Try.underlying4) ?_
    refine eqF_step (by decide) (by kernel_rfl) (cellsO_get6 p) (cellsO_get6 q) (eqI_str Try.underlying9) ?_
    refine eqF_step (by decide) (by kernel_rfl) (cellsO_get7 p) (cellsO_get7 q) (eqI_int Try.underlying2) ?_
    refine eqF_step (by decide) (by kernel_rfl) (cellsO_get8 p) (cellsO_get8 q) (eqI_int Try.underlying2) ?_
    refine eqF_step (by decide) (by kernel_rfl) (cellsO_get9 p) (cellsO_get9 q) (eqI_int Try.underlying28) ?_
    refine eqF_step (by decide) (by kernel_rfl) (cellsO_get10 p) (cellsO_get10 q) (eqI_bool Try.underlying4) ?_
    refine eqF_step (by decide) (by kernel_rfl) (cellsO_get11 p) (cellsO_get11 q) (eqI_bool Try.underlying4) ?_
    refine eqF_step (by decide) (by kernel_rfl) (cellsO_get12 p) (cellsO_get12 q) (eqI_str Try.underlying9) ?_
    refine eqF_step (by decide) (by kernel_rfl) (cellsO_get13 p) (cellsO_get13 q) (eqI_str Try.underlying9) ?_
    refine eqF_step (by decide) (by kernel_rfl) (cellsO_get14 p) (cellsO_get14 q) (eqI_str Try.underlying9) ?_
    refine eqF_step (by decide) (by kernel_rfl) (cellsO_get15 p) (cellsO_get15 q) (eqI_str Try.underlying9) ?_
    refine eqF_step (by decide) (by kernel_rfl) (cellsO_get16 p) (cellsO_get16 q) (eqI_str Try.underlying9) ?_
    refine eqF_step (by decide) (by kernel_rfl) (cellsO_get17 p) (cellsO_get17 q) (eqI_int Try.underlying29) ?_
    refine eqF_step (by decide) (by kernel_rfl) (cellsO_get18 p) (cellsO_get18 q) (eqI_int Try.underlying27) ?_
    refine eqF_step (by decide) (by kernel_rfl) (cellsO_get19 p) (cellsO_get19 q) (eqI_int Try.underlying27) ?_
    exact eqF_nil
  rw [key]
  congr 2
  apply propext
  cases p; cases q
  simp

theorem exec_neqObj {o : Oper} {a : Act} {w : World} {x y : Operand} {t' : TypeId} (p q : Obj) (hop : o.op = .binOp .neq 31 x y t') (hx : a.eval x = .agg (cellsO p)) (hy : a.eval y = .agg (cellsO q)) :
    (execOp a.eval o).run Try.prog w = .ok (.value (.bool (!decide (p = q)))) w := by
  have h1 := equal_obj p q w
  have h2 : (eqGuard .neq 31 x y (.agg (cellsO p)) (.agg (cellsO q))).run Try.prog w = .ok () w := run_eqGuard_agg w .neq 31 x y _ _ (by kernel_rfl)
  have h3 : (binOp .neq 31 (.agg (cellsO p)) (.agg (cellsO q))).run Try.prog w = .ok (.bool (!decide (p = q))) w := by
    rw [run_neq_struct, h1]; rfl
  simp only [execOp, hop, hx, hy, Sem.run_bind, h2, h3, Result.andThen, Sem.run_pure]
theorem exec_eqlObj {o : Oper} {a : Act} {w : World} {x y : Operand} {t' : TypeId} (p q : Obj) (hop : o.op = .binOp .eql 31 x y t') (hx : a.eval x = .agg (cellsO p)) (hy : a.eval y = .agg (cellsO q)) :
    (execOp a.eval o).run Try.prog w = .ok (.value (.bool (decide (p = q)))) w := by
  have h1 := equal_obj p q w
  have h2 : (eqGuard .eql 31 x y (.agg (cellsO p)) (.agg (cellsO q))).run Try.prog w = .ok () w := run_eqGuard_agg w .eql 31 x y _ _ (by kernel_rfl)
  have h3 : (binOp .eql 31 (.agg (cellsO p)) (.agg (cellsO q))).run Try.prog w = .ok (.bool (decide (p = q))) w := by
    rw [run_eql_struct, h1]; rfl
  simp only [execOp, hop, hx, hy, Sem.run_bind, h2, h3, Result.andThen, Sem.run_pure]

def sizeB (n : Int) : Bool := decide (0 ≤ n) && decide (n ≤ 1125899906842624)
theorem size_any (n : Int) (w : World) : Calls Try.prog 89 #[.int .i64 n] w fun e w' => e = .returned (.bool (sizeB n)) ∧ w' = w := by
  by_cases h : 0 ≤ n
  · by_cases h2 : n ≤ 1125899906842624
    iterate 2
     · go_enter Try.func89, Try.ntmps89
       go_wp2
       go_ret
       exact ⟨ret_bool (by simp [sizeB, h, h2]), rfl⟩
  · go_enter Try.func89, Try.ntmps89
    go_wp2
    go_ret
    exact ⟨ret_bool (by simp [sizeB]; omega), rfl⟩

def attachN (v n : ByteArray) : ByteArray := ⟨(v.data.toList ++ 47 :: n.data.toList).toArray⟩

theorem attach_any (v n : ByteArray) (w : World) (hs : v.size + n.size + 1 ≤ 140737488355328) : Calls Try.prog 95 #[.string v, .string n] w fun e w' => e = .returned (.string (attachN v n)) ∧ Below w.heap.size w w' := by
  have hj : Lib.join ([v, n].map (·.data.toList)) (⟨#[47]⟩ : ByteArray).data.toList = v.data.toList ++ 47 :: n.data.toList := by simp [Lib.join, List.intercalate]
  have HS := Lib.hid hs
  have HJ := Lib.hid hj
  clear hs hj
  go_enter Try.func95, Try.ntmps95
  go_wp2_with fail
  refine (Try.strings_Join w.heap.size 0 2 [v, n] ⟨#[47]⟩ _ ?_ (by simp) (by simp) (by simp) ?_).mono ?_
  · intro j x hx
    match j, hx with
    | 0, hx => simp at hx; subst hx; simp
    | 1, hx => simp at hx; subst hx; simp
  · rw [HJ.out]
    have := HS.out
    simp
    have e1 : v.data.size = v.size := rfl
    have e2 : n.data.size = n.size := rfl
    omega
  · rintro e w' ⟨rfl, hb⟩
    rw [HJ.out]
    go_wp2
    go_ret
    exact ⟨rfl, ((Below.refl _ _).alloc (Nat.le_refl _) _).trans (hb.mono (by simp))⟩

theorem names_le {l : List ByteArray} (h : namesB l = true) : ∀ s ∈ l, s.size ≤ 40 := by
  intro s hs
  have := (List.all_eq_true.1 h) s hs
  rw [Bool.or_eq_true] at this
  rcases this with h0 | h0
  · have := of_decide_eq_true h0
    omega
  · unfold nameB at h0
    rw [Bool.and_eq_true] at h0
    have := of_decide_eq_true h0.2
    omega

end Go.Proofs.Ytobpohjhhelljaa
