/- Layer 4 (codec): what the program reads as a change. -/
import Derived.Test.YtobpohjhhelljaaR5
import Derived.Test.YtobpohjhhelljaaW3
namespace Go.Proofs.Ytobpohjhhelljaa
open Go.RowKit
set_option linter.unusedVariables false
set_option linter.unusedSimpArgs false


def evZ : Ev := ⟨0, false, objZ⟩
theorem evZ_cells : cellsEv evZ = #[.int .u64 0, .bool false, .int .u8 0, .string noText, .int .u64 0, .int .u64 0, .bool false, .bool false, .string noText, .int .i64 0, .int .i64 0, .int .u8 0, .bool false, .bool false, .string noText, .string noText, .string noText, .string noText, .string noText, .int .u8 0, .int .u64 0, .int .u64 0] := by simp [cellsEv, evZ, objZ_cells]

/-! ### a change's box, written -/
theorem Wset_id {w : World} {b : Nat} {o : Go.Obj} (h : w.heap[b]? = some o) : Wset w b o = w := by
  unfold Wset
  have hb := (Array.getElem?_eq_some_iff.1 h)
  congr 1
  apply Array.ext_getElem?
  intro k
  by_cases hk : b = k
  · subst hk; simp [hb.1, hb.2]
  · simp [Array.getElem?_setIfInBounds_ne hk]
def setAll (cs : Array Value) (off : Nat) : Nat → List Value → Array Value
  | _, [] => cs
  | i, v :: vs => setAll (cs.setIfInBounds (off + i) v) off (i + 1) vs
theorem store_cells_at {P : Program} {b off : Nat} {t : TypeId} : ∀ (vs : List Value) (i : Nat) (cs : Array Value) (w : World), w.heap[b]? = some (.cells cs t (0, 0)) → (∀ v ∈ vs, oneV v = true) → off + i + vs.length ≤ cs.size →
    (storeCells ⟨b, off, none⟩ vs i).run P w = .ok () (Wset w b (.cells (setAll cs off i vs) t (0, 0)))
  | [], i, cs, w, h, _, _ => by
    simp only [storeCells, setAll, Sem.run_pure]
    rw [Wset_id h]
  | v :: vs, i, cs, w, h, hone, hl => by
    simp only [List.length_cons] at hl
    have hc : ∃ u, w.cell? ⟨b, off + i, none⟩ = some u := ⟨cs[off + i]'(by omega), by simp [World.cell?, h, show off + i < cs.size by omega]⟩
    obtain ⟨u, hc⟩ := hc
    have hf : w.frozen? ⟨b, off + i, none⟩ = false := by simp [World.frozen?, h]
    have hv1 : oneV v = true := hone v (by simp)
    have hst : (store ⟨b, off + i, none⟩ v).run P w = .ok () (w.setCell ⟨b, off + i, none⟩ v) := by
      unfold store
      cases v <;> simp [oneV] at hv1 <;> simp [Sem.run, hc, hf]
    simp only [storeCells, Sem.run_bind, Addr.add_lit, hst, Result.andThen]
    rw [setCell_block h v]
    have hb := (Array.getElem?_eq_some_iff.1 h).1
    rw [store_cells_at vs (i + 1) (cs.setIfInBounds (off + i) v) _ (Wset_same hb) (fun x hx => hone x (List.mem_cons_of_mem _ hx)) (by simp; omega), Wset_twice]
    rfl
theorem oneV_ev (c : Ev) : ∀ v ∈ (cellsEv c).toList, oneV v = true := by
  intro v hv
  simp [cellsEv, cellsO] at hv
  rcases hv with h | h | h | h | h | h | h | h | h | h | h | h | h | h | h | h | h | h | h | h | h | h <;> subst h <;> rfl
theorem oneV_obj (o : Obj) : ∀ v ∈ (cellsO o).toList, oneV v = true := by
  intro v hv
  simp [cellsO] at hv
  rcases hv with h | h | h | h | h | h | h | h | h | h | h | h | h | h | h | h | h | h | h | h <;> subst h <;> rfl
set_option maxHeartbeats 4000000 in
set_option maxRecDepth 100000 in
theorem setAll_obj (c : Ev) (o : Obj) : setAll (cellsEv c) 2 0 (cellsO o).toList = cellsEv { c with obj := o } := by
  simp [cellsEv, cellsO, setAll]
set_option maxHeartbeats 4000000 in
set_option maxRecDepth 100000 in
theorem setAll_ev (c e : Ev) : setAll (cellsEv c) 0 0 (cellsEv e).toList = cellsEv e := by
  simp [cellsEv, cellsO, setAll]
theorem setVersion (c : Ev) (x : Int) : (cellsEv c).setIfInBounds 0 (.int .u64 x) = cellsEv { c with version := x } := by simp [cellsEv, cellsO]
theorem setGone (c : Ev) (g : Bool) : (cellsEv c).setIfInBounds 1 (.bool g) = cellsEv { c with gone := g } := by simp [cellsEv, cellsO]

theorem wpList_storeEv {ops : Array Oper} {Q : Exit → Act → World → Prop} {o : Oper} {rest : List Oper} {a : Act} {w : World} (hg : o.guard = none) (x y : Operand) (hop : o.op = .store 69 x y) (b : Nat) (hx : a.eval x = .pointer (some ⟨b, 0, none⟩))
    (e c : Ev) (hy : a.eval y = .agg (cellsEv e)) (h : w.heap[b]? = some (.cells (cellsEv c) 69 (0, 0))) (hK : wpList Try.prog ops Q rest (a.put o.dst undef) (Wset w b (.cells (cellsEv e) 69 (0, 0)))) :
    wpList Try.prog ops Q (o :: rest) a w :=
  wpList_plain hg fun K hK' => by
    unfold Oper.wp
    have h2 : (sizeOf 69).run Try.prog w = .ok 22 w := by kernel_rfl
    have h3 := store_cells_at (P := Try.prog) (off := 0) (cellsEv e).toList 0 (cellsEv c) w h (oneV_ev e) (by simp [cellsEv])
    rw [setAll_ev] at h3
    have h4 : (storeVar 69 ⟨b, 0, none⟩ (.agg (cellsEv e))).run Try.prog w = .ok () (Wset w b (.cells (cellsEv e) 69 (0, 0))) := by
      simp only [storeVar, Sem.run_bind, h2, Result.andThen, Value.cells, cellsEv_size]
      simpa using h3
    have e1 : (execOp a.eval o).run Try.prog w = .ok .skip (Wset w b (.cells (cellsEv e) 69 (0, 0))) := by simp [execOp, hop, hx, hy, Instr.storeAt, run_sureAddr, h4, Result.andThen]
    rw [e1]
    exact hK' _ _ hK
theorem wpList_storeObjAt {ops : Array Oper} {Q : Exit → Act → World → Prop} {o : Oper} {rest : List Oper} {a : Act} {w : World} (hg : o.guard = none) (x y : Operand) (hop : o.op = .store 31 x y) (b : Nat) (hx : a.eval x = .pointer (some ⟨b, 2, none⟩))
    (p : Obj) (c : Ev) (hy : a.eval y = .agg (cellsO p)) (h : w.heap[b]? = some (.cells (cellsEv c) 69 (0, 0))) (hK : wpList Try.prog ops Q rest (a.put o.dst undef) (Wset w b (.cells (cellsEv { c with obj := p }) 69 (0, 0)))) :
    wpList Try.prog ops Q (o :: rest) a w :=
  wpList_plain hg fun K hK' => by
    unfold Oper.wp
    have h2 : (sizeOf 31).run Try.prog w = .ok 20 w := by kernel_rfl
    have h3 := store_cells_at (P := Try.prog) (off := 2) (cellsO p).toList 0 (cellsEv c) w h (oneV_obj p) (by simp [cellsEv])
    rw [setAll_obj] at h3
    have h4 : (storeVar 31 ⟨b, 2, none⟩ (.agg (cellsO p))).run Try.prog w = .ok () (Wset w b (.cells (cellsEv { c with obj := p }) 69 (0, 0))) := by
      simp only [storeVar, Sem.run_bind, h2, Result.andThen, Value.cells, cellsO_size]
      simpa using h3
    have e1 : (execOp a.eval o).run Try.prog w = .ok .skip (Wset w b (.cells (cellsEv { c with obj := p }) 69 (0, 0))) := by simp [execOp, hop, hx, hy, Instr.storeAt, run_sureAddr, h4, Result.andThen]
    rw [e1]
    exact hK' _ _ hK
theorem run_loadVar_ev0 (c : Ev) (b : Nat) (w : World) (h : ∀ k, w.cell? ⟨b, k, none⟩ = (cellsEv c)[k]?) : (loadVar 69 ⟨b, 0, none⟩).run Try.prog w = .ok (.agg (cellsEv c)) w := by
  have := load_cells (P := Try.prog) h 22 0 #[] (by simp [cellsEv]) (by simp)
  have h1 : (isAgg 69).run Try.prog w = .ok true w := by kernel_rfl
  have h2 : (sizeOf 69).run Try.prog w = .ok 22 w := by kernel_rfl
  simp only [loadVar, Sem.run_bind, h1, h2, Result.andThen, loadCells, this, if_true, Sem.run_pure]
theorem wpList_loadEv0 {ops : Array Oper} {Q : Exit → Act → World → Prop} {o : Oper} {rest : List Oper} {a : Act} {w : World} (hg : o.guard = none) (x : Operand) (hop : o.op = .load 69 x) (b : Nat) (hx : a.eval x = .pointer (some ⟨b, 0, none⟩))
    (c : Ev) (h : ∀ k, w.cell? ⟨b, k, none⟩ = (cellsEv c)[k]?) (hK : wpList Try.prog ops Q rest (a.put o.dst (.agg (cellsEv c))) w) : wpList Try.prog ops Q (o :: rest) a w :=
  wpList_plain hg fun K hK' => by
    unfold Oper.wp
    have := run_loadVar_ev0 c b w h
    have e : (execOp a.eval o).run Try.prog w = .ok (.value (.agg (cellsEv c))) w := by simp [execOp, hop, hx, Instr.loadAt, run_sureAddr, this, Result.andThen]
    rw [e]
    exact hK' _ _ hK
theorem results_ee {fn : Func} {tmps : Array Value} {w : World} {b c : Nat} {t u : Tmp} {x : Int} (p : Ev) (hr : fn.results = #[.cell t 69, .cell u 32]) (ht : tmps[t]?.getD undef = .pointer (some ⟨b, 0, none⟩)) (hu : tmps[u]?.getD undef = .pointer (some ⟨c, 0, none⟩)) (h : ∀ k, w.cell? ⟨b, k, none⟩ = (cellsEv p)[k]?) (hc : w.cell? ⟨c, 0, none⟩ = some (.int .i64 x)) :
    (results fn tmps).run Try.prog w = .ok (.tuple #[.agg (cellsEv p), .int .i64 x]) w := by
  have h0 := run_loadVar_ev0 p b w h
  have h1 : (loadVar 32 ⟨c, 0, none⟩).run Try.prog w = .ok (.int .i64 x) w := by
    have h1 : (isAgg 32).run Try.prog w = .ok false w := by kernel_rfl
    simp [loadVar, h1, hc, load, Result.andThen, go_sem]
    simp only [Sem.run, hc]
  simp [results, hr, ht, hu, asAddr, h0, h1, Result.andThen]

theorem readC1_idle (q r : Nat) (w : World) :
    CallsD Try.prog 82 #[.pointer (some ⟨q, 0, none⟩), .pointer (some ⟨r, 0, none⟩)] .returning w fun e u' w' => e = .returned (.tuple #[]) ∧ u' = .returning ∧ w' = w := by
  refine callsD_of_wpS Try.func82 rfl fun c₀ cs hu => ?_
  apply wpS_seq
  apply wpS_region
  simp [wpOpsS, go_sem, recoverD, hu, Try.ntmps82, Exit.thenS]
  refine (caught_nil w).mono ?_
  rintro e w2 ⟨rfl, rfl⟩
  refine wpS_cond (t := false) (by simp [Act.eval, Array.replicate]) ?_
  simp only [Bool.false_eq_true, if_false]
  refine wpS_of_wp (wp_skip ?_)
  cases c₀
  simp_all [bodyPostS, results, Try.results82]
theorem readC1_panicking (q r : Nat) (c : Ev) (x : Int) (w : World) (hq : w.heap[q]? = some (.cells (cellsEv c) 69 (0, 0))) (hr : w.heap[r]? = some (.cells #[.int .i64 x] 32 (0, 0))) (hqr : r ≠ q) :
    CallsD Try.prog 82 #[.pointer (some ⟨q, 0, none⟩), .pointer (some ⟨r, 0, none⟩)] (.panicking bad) w fun e u' w' =>
      e = .returned (.tuple #[]) ∧ u' = .panicking [{ v := .iface 175 (.agg #[]), recovered := true }] ∧ w' = (Wset w q (.cells (cellsEv evZ) 69 (0, 0))).setCell ⟨r, 0, none⟩ (.int .i64 2) := by
  refine callsD_of_wpS Try.func82 rfl fun c₀ cs hu => ?_
  apply wpS_seq
  apply wpS_region
  simp [wpOpsS, go_sem, recoverD, hu, Try.ntmps82, Exit.thenS, bad]
  refine (caught_fault w).mono ?_
  rintro e w2 ⟨rfl, rfl⟩
  refine wpS_cond (t := true) (by simp [Act.eval, Array.replicate]) ?_
  simp only [if_true]
  refine wpS_of_wp ?_
  obtain ⟨c1, f1⟩ := cells_of_block ((Wset_ne (w := w2) (o := .cells (cellsEv evZ) 69 (0, 0)) hqr).trans hr) 0 (.int .i64 x) rfl
  go_wp2_with (refine wpList_storeEv rfl _ _ rfl q rfl evZ c rfl hq ?_)
  exact ⟨rfl, _, rfl, _, results_none rfl _ _ _, rfl, rfl, rfl⟩



/-- a change that is being read -/
structure ES (w W : World) (c : Ev) (bs : Bs) : Prop where
  hq : W.heap[w.heap.size]? = some (.cells (cellsEv c) 69 (0, 0))
  hr : W.heap[w.heap.size + 1]? = some (.cells #[.int .i64 0] 32 (0, 0))
  cur : RCur W w.heap.size (w.heap.size + 1 + 1) bs
  below : Below w.heap.size w W
theorem ES.step {w W W2 : World} {c : Ev} {bs r : Bs} (h : ES w W c bs) (hk : KeepP (w.heap.size + 1 + 1) W W2) (hc : RCur W2 w.heap.size (w.heap.size + 1 + 1) r) : ES w W2 c r :=
  ⟨(hk.block _ (heap_lt h.hq) (by omega)).trans h.hq, (hk.block _ (heap_lt h.hr) (by omega)).trans h.hr, hc, h.below.trans (hk.belowP (by omega) h.below.size)⟩
/-- given up: what has been written stands -/
structure EP (w W : World) (c : Ev) : Prop where
  hq : W.heap[w.heap.size]? = some (.cells (cellsEv c) 69 (0, 0))
  hr : W.heap[w.heap.size + 1]? = some (.cells #[.int .i64 0] 32 (0, 0))
  below : Below w.heap.size w W
theorem ES.bad {w W W2 : World} {c : Ev} {bs : Bs} (h : ES w W c bs) (hk : KeepP (w.heap.size + 1 + 1) W W2) : EP w W2 c :=
  ⟨(hk.block _ (heap_lt h.hq) (by omega)).trans h.hq, (hk.block _ (heap_lt h.hr) (by omega)).trans h.hr, h.below.trans (hk.belowP (by omega) h.below.size)⟩
theorem ES.ep {w W : World} {c : Ev} {bs : Bs} (h : ES w W c bs) : EP w W c := ⟨h.hq, h.hr, h.below⟩
theorem ES.setAt {w W : World} {c c2 : Ev} {bs : Bs} (h : ES w W c bs) (k : Nat) (v : Value) (e : (cellsEv c).setIfInBounds k v = cellsEv c2) : ES w (W.setCell ⟨w.heap.size, k, none⟩ v) c2 bs :=
  ⟨by rw [heap_setCell_same h.hq, e], (heap_setCell_ne (by simp)).trans h.hr, h.cur.keep2 (fun j hj => heap_setCell_ne (by simp; omega)), h.below.setCell (p := ⟨w.heap.size, k, none⟩) (Nat.le_refl _) v⟩
theorem ES.setBox {w W : World} {c c2 : Ev} {bs : Bs} (h : ES w W c bs) : ES w (Wset W w.heap.size (.cells (cellsEv c2) 69 (0, 0))) c2 bs :=
  ⟨Wset_same (heap_lt h.hq), (Wset_ne (by omega)).trans h.hr, h.cur.keep2 (fun j hj => Wset_ne (by omega)), belowWs h.below (Nat.le_refl _)⟩
def ReadCR (w w' : World) (e : Ending) (d : Option Ev) : Prop := e = .returned (.tuple #[.agg (cellsEv (d.getD evZ)), .int .i64 (if d.isSome then 0 else 2)]) ∧ Below w.heap.size w w'

theorem readC_no {bs : Bs} (h : chD 40 bs = none) : readC bs = none := by unfold readC; rw [h]
theorem ch_n {bs : Bs} (h : numD 0 bs = none) : readC bs = none := readC_no (by unfold chD; rw [h])
theorem ch_b {bs b1 : Bs} {n : Nat} (h : numD 0 bs = some (n, b1)) (h1 : byteD b1 = none) : readC bs = none := readC_no (by
  unfold chD; rw [h]
  cases b1 with
  | nil => rfl
  | cons c r => simp [byteD] at h1)
theorem goneD_of {b1 b2 : Bs} {c : UInt8} (h1 : byteD b1 = some (c, b2)) (hc : c.toNat < 2) : goneD b1 = some (c.toNat == 1, b2) := by
  rw [byteD_some h1]; unfold goneD; simp only [if_pos hc]
theorem ch_c {bs b1 b2 : Bs} {n : Nat} {c : UInt8} (h : numD 0 bs = some (n, b1)) (h1 : byteD b1 = some (c, b2)) (hc : ¬ c.toNat < 2) : readC bs = none := readC_no (by
  unfold chD; rw [h, byteD_some h1]; simp only [wd, goneD, if_neg hc])
theorem ch_o {bs b1 b2 : Bs} {n : Nat} {c : UInt8} (h : numD 0 bs = some (n, b1)) (h1 : byteD b1 = some (c, b2)) (hc : c.toNat < 2) (ho : objD 40 b2 = none) : readC bs = none := readC_no (by
  unfold chD; rw [h]; simp only [wd]; rw [goneD_of h1 hc]; simp only [wd]; rw [ho])
theorem ch_yes {bs b1 b2 b3 : Bs} {n : Nat} {c : UInt8} {o : Obj} (h : numD 0 bs = some (n, b1)) (h1 : byteD b1 = some (c, b2)) (hc : c.toNat < 2) (ho : objD 40 b2 = some (o, b3)) : chD 40 bs = some (⟨(n : Int), c.toNat == 1, o⟩, b3) := by
  unfold chD; rw [h]; simp only [wd]; rw [goneD_of h1 hc]; simp only [wd]; rw [ho]
theorem ch_more {bs b3 : Bs} {e : Ev} (h : chD 40 bs = some (e, b3)) (hr : b3 ≠ []) : readC bs = none := by unfold readC; rw [h]; simp only [wd, if_neg hr]
theorem ch_all {bs : Bs} {e : Ev} (h : chD 40 bs = some (e, [])) : readC bs = some e := by unfold readC; rw [h]; simp only [wd, if_pos]

theorem one_bit {k : Nat} (h : k < 2) : ((k : Int) == 1) = (k == 1) := by
  have : k = 0 ∨ k = 1 := by omega
  rcases this with rfl | rfl <;> rfl

set_option maxRecDepth 100000 in
set_option maxHeartbeats 4000000 in
theorem readC_any (v : Value) (bs : Bs) (w : World) (h : SrcB w w.heap.size v bs) : Calls Try.prog 53 #[v] w fun e w' => ReadCR w w' e (readC bs) := by
  obtain ⟨a, c, rfl⟩ := h.rd
  have HS := Lib.hid h
  clear h
  have hmf : ∀ (fn : Fn) (first cap : Array Value) (w : World), (Instr.makeFunc fn first cap).run Try.prog w = .ok (.func fn first cap) w := fun _ _ _ _ => rfl
  have hZ := evZ_cells
  simp only [noText] at hZ
  have HZ := Lib.hid hZ
  clear hZ
  obtain ⟨W, hW⟩ : ∃ W, W = ((w.alloc (.cells (cellsEv evZ) 69)).alloc (.cells #[.int .i64 0] 32)).alloc (.cells #[.slice a bs.length c] 144) := ⟨_, rfl⟩
  have hq : W.heap[w.heap.size]? = some (.cells (cellsEv evZ) 69 (0, 0)) := by
    rw [hW]; exact (heap_alloc_lt (by simp only [World.alloc, Array.size_push]; omega)).trans ((heap_alloc_lt (by simp only [World.alloc, Array.size_push]; omega)).trans heap_alloc_eq)
  have hr : W.heap[w.heap.size + 1]? = some (.cells #[.int .i64 0] 32 (0, 0)) := by
    rw [hW]
    refine (heap_alloc_lt (by simp)).trans ?_
    have := heap_alloc_eq (w := w.alloc (.cells (cellsEv evZ) 69)) (o := .cells #[.int .i64 0] 32)
    simpa using this
  have hp : W.heap[w.heap.size + 1 + 1]? = some (.cells #[.slice a bs.length c] 144 (0, 0)) := by
    rw [hW]
    have := heap_alloc_eq (w := (w.alloc (.cells (cellsEv evZ) 69)).alloc (.cells #[.int .i64 0] 32)) (o := .cells #[.slice a bs.length c] 144)
    simpa using this
  have hb : Below w.heap.size w W := by
    rw [hW]
    exact (((Below.refl w.heap.size w).alloc (Nat.le_refl _) _).alloc (by simp) _).alloc (by simp; omega) _
  have HW := Lib.hid hW
  have HE := Lib.hid (show ES w W evZ bs from ⟨hq, hr, ⟨_, hp, HS.out.start hb (Nat.le_refl _), by omega⟩, hb⟩)
  clear hW hq hr hb hp
  go_enter_defers Try.func53, Try.ntmps53
  go_wp2_with fail
  rw [← HZ.out, ← HW.out]
  cases hn : numD 0 bs with
  | none =>
    have HN := Lib.hid hn
    refine (rdnum_any _ _ bs HE.out.cur).mono ?_
    intro e w2 hx
    obtain ⟨rfl, hk⟩ := hx.no hn
    have HP := Lib.hid (HE.out.bad hk)
    clear hx hk hn
    go_wp2
    refine leaves_cons (f := 82) (args := #[.pointer (some ⟨w.heap.size, 0, none⟩), .pointer (some ⟨w.heap.size + 1, 0, none⟩)]) (by simp) (by simp [go_sem]) ?_
    refine (readC1_panicking _ _ _ 0 _ HP.out.hq HP.out.hr (by omega)).mono ?_
    rintro e u' w3 ⟨rfl, rfl, rfl⟩
    refine ⟨_, results_ee evZ rfl rfl rfl (cells_all ((heap_setCell_ne (by simp)).trans (Wset_same (heap_lt HP.out.hq)))) (cell_set_same ((Wset_ne (by omega)).trans HP.out.hr)), ?_⟩
    exact ⟨by rw [ch_n HN.out]; rfl, (belowWs HP.out.below (Nat.le_refl _)).setCell (p := ⟨w.heap.size + 1, 0, none⟩) (Nat.le_succ _) _⟩
  | some x =>
    obtain ⟨n, b1⟩ := x
    have HN := Lib.hid hn
    refine (rdnum_any _ _ bs HE.out.cur).mono ?_
    intro e w2 hx
    obtain ⟨rfl, hc, hk⟩ := hx.yes hn
    have hE2 := HE.out.step hk hc
    have hE3 := hE2.setAt 0 (.int .u64 (n : Int)) (setVersion _ _)
    have c2 := cells_all hE2.hq 0
    have f2 := frozen_all hE2.hq 0
    rw [cellsEv_0] at c2
    have HE := Lib.hid hE3
    clear hx hk hn hc hE2 hE3
    go_wp2_with fail
    cases hb : byteD b1 with
    | none =>
      have HB := Lib.hid hb
      refine (rdbyte_any _ _ b1 HE.out.cur).mono ?_
      intro e w4 hx
      obtain ⟨rfl, hk⟩ := hx.no hb
      have HP := Lib.hid (HE.out.bad hk)
      clear hx hk hb
      go_wp2
      refine leaves_cons (f := 82) (args := #[.pointer (some ⟨w.heap.size, 0, none⟩), .pointer (some ⟨w.heap.size + 1, 0, none⟩)]) (by simp) (by simp [go_sem]) ?_
      refine (readC1_panicking _ _ _ 0 _ HP.out.hq HP.out.hr (by omega)).mono ?_
      rintro e u' w3 ⟨rfl, rfl, rfl⟩
      refine ⟨_, results_ee evZ rfl rfl rfl (cells_all ((heap_setCell_ne (by simp)).trans (Wset_same (heap_lt HP.out.hq)))) (cell_set_same ((Wset_ne (by omega)).trans HP.out.hr)), ?_⟩
      exact ⟨by rw [ch_b HN.out HB.out]; rfl, (belowWs HP.out.below (Nat.le_refl _)).setCell (p := ⟨w.heap.size + 1, 0, none⟩) (Nat.le_succ _) _⟩
    | some x =>
      obtain ⟨k, b2⟩ := x
      have HB := Lib.hid hb
      refine (rdbyte_any _ _ b1 HE.out.cur).mono ?_
      intro e w4 hx
      obtain ⟨rfl, hc, hk⟩ := hx.yes hb
      have hE4 := HE.out.step hk hc
      have HE := Lib.hid hE4
      clear hx hk hb hc hE4 c2 f2
      go_wp2_with fail
      by_cases hk2 : k.toNat < 2
      · refine (must_any _ _).mono ?_
        rintro e w5 ⟨hw, h1, h2⟩
        subst hw
        have e2 := h1 (decide_eq_true (by omega))
        subst e2
        have HK := Lib.hid hk2
        have g1 := one_bit hk2
        clear h1 h2 hk2
        go_wp2_with fail
        cases ho : objD 40 b2 with
        | none =>
          have HO := Lib.hid ho
          refine (rdobj_any _ _ b2 HE.out.cur).mono ?_
          intro e w6 hx
          obtain ⟨rfl, hk⟩ := hx.no ho
          have HP := Lib.hid (HE.out.bad hk)
          clear hx hk ho
          go_wp2
          refine leaves_cons (f := 82) (args := #[.pointer (some ⟨w.heap.size, 0, none⟩), .pointer (some ⟨w.heap.size + 1, 0, none⟩)]) (by simp) (by simp [go_sem]) ?_
          refine (readC1_panicking _ _ _ 0 _ HP.out.hq HP.out.hr (by omega)).mono ?_
          rintro e u' w3 ⟨rfl, rfl, rfl⟩
          refine ⟨_, results_ee evZ rfl rfl rfl (cells_all ((heap_setCell_ne (by simp)).trans (Wset_same (heap_lt HP.out.hq)))) (cell_set_same ((Wset_ne (by omega)).trans HP.out.hr)), ?_⟩
          exact ⟨by rw [ch_o HN.out HB.out HK.out HO.out]; rfl, (belowWs HP.out.below (Nat.le_refl _)).setCell (p := ⟨w.heap.size + 1, 0, none⟩) (Nat.le_succ _) _⟩
        | some x =>
          obtain ⟨o, b3⟩ := x
          have HC := Lib.hid (ch_yes HN.out HB.out HK.out ho)
          refine (rdobj_any _ _ b2 HE.out.cur).mono ?_
          intro e w6 hx
          obtain ⟨rfl, hc, hk⟩ := hx.yes ho
          have hE6 := HE.out.step hk hc
          have c6 := cells_all hE6.hq 1
          have f6 := frozen_all hE6.hq 1
          rw [cellsEv_1] at c6
          have hE7 := hE6.setAt 1 (.bool (k.toNat == 1)) (setGone _ _)
          have HE7 := Lib.hid hE7
          have hE8 := hE7.setBox (c2 := ⟨(n : Int), k.toNat == 1, o⟩)
          have HE := Lib.hid hE8
          clear hx hk ho hc hE6 hE7 hE8
          cases b3 with
          | cons x t =>
            go_wp2_with (first
              | refine wpList_storeObjAt rfl _ _ rfl w.heap.size rfl o _ rfl HE7.out.hq ?_
              | (go_at_call 88; refine (rdend_any _ _ (x :: t) HE.out.cur.cell).mono ?_; rintro e w8 ⟨hw, _, h2⟩; have e2 := h2 (by simp); subst e2; subst hw; have HP := Lib.hid HE.out.ep))
            refine leaves_cons (f := 82) (args := #[.pointer (some ⟨w.heap.size, 0, none⟩), .pointer (some ⟨w.heap.size + 1, 0, none⟩)]) (by simp) (by simp [go_sem]) ?_
            refine (readC1_panicking _ _ _ 0 _ HP.out.hq HP.out.hr (by omega)).mono ?_
            rintro e u' w3 ⟨rfl, rfl, rfl⟩
            refine ⟨_, results_ee evZ rfl rfl rfl (cells_all ((heap_setCell_ne (by simp)).trans (Wset_same (heap_lt HP.out.hq)))) (cell_set_same ((Wset_ne (by omega)).trans HP.out.hr)), ?_⟩
            exact ⟨by rw [ch_more HC.out (by simp)]; rfl, (belowWs HP.out.below (Nat.le_refl _)).setCell (p := ⟨w.heap.size + 1, 0, none⟩) (Nat.le_succ _) _⟩
          | nil =>
            have hE9 := HE.out.setBox (c2 := ⟨(n : Int), k.toNat == 1, o⟩)
            have c9 := cells_all hE9.hr 0
            have f9 := frozen_all hE9.hr 0
            have HE9 := Lib.hid hE9
            clear hE9
            go_wp2_with (first
              | (refine wpList_loadEv0 rfl _ rfl w.heap.size rfl ⟨(n : Int), k.toNat == 1, o⟩ (cells_all HE.out.hq) ?_; refine wpList_storeEv rfl _ _ rfl w.heap.size rfl ⟨(n : Int), k.toNat == 1, o⟩ _ rfl HE.out.hq ?_)
              | refine wpList_storeObjAt rfl _ _ rfl w.heap.size rfl o _ rfl HE7.out.hq ?_
              | (go_at_call 88; refine (rdend_any _ _ [] HE.out.cur.cell).mono ?_; rintro e w8 ⟨hw, h1, _⟩; have e2 := h1 rfl; subst e2; subst hw))
            refine leaves_cons (f := 82) (args := #[.pointer (some ⟨w.heap.size, 0, none⟩), .pointer (some ⟨w.heap.size + 1, 0, none⟩)]) (by simp) (by simp [go_sem]) ?_
            refine (readC1_idle _ _ _).mono ?_
            rintro e u' w3 ⟨rfl, rfl, rfl⟩
            refine ⟨_, results_ee ⟨(n : Int), k.toNat == 1, o⟩ rfl rfl rfl (cells_all ((heap_setCell_ne (by simp)).trans HE9.out.hq)) (cell_set_same HE9.out.hr), ?_⟩
            exact ⟨by rw [ch_all HC.out]; rfl, HE9.out.below.setCell (p := ⟨w.heap.size + 1, 0, none⟩) (Nat.le_succ _) _⟩
      · refine (must_any _ _).mono ?_
        rintro e w5 ⟨hw, h1, h2⟩
        subst hw
        have e2 := h2 (decide_eq_false (by omega))
        subst e2
        have HK := Lib.hid hk2
        have HP := Lib.hid HE.out.ep
        clear h1 h2 hk2
        go_wp2
        refine leaves_cons (f := 82) (args := #[.pointer (some ⟨w.heap.size, 0, none⟩), .pointer (some ⟨w.heap.size + 1, 0, none⟩)]) (by simp) (by simp [go_sem]) ?_
        refine (readC1_panicking _ _ _ 0 _ HP.out.hq HP.out.hr (by omega)).mono ?_
        rintro e u' w3 ⟨rfl, rfl, rfl⟩
        refine ⟨_, results_ee evZ rfl rfl rfl (cells_all ((heap_setCell_ne (by simp)).trans (Wset_same (heap_lt HP.out.hq)))) (cell_set_same ((Wset_ne (by omega)).trans HP.out.hr)), ?_⟩
        exact ⟨by rw [ch_c HN.out HB.out HK.out]; rfl, (belowWs HP.out.below (Nat.le_refl _)).setCell (p := ⟨w.heap.size + 1, 0, none⟩) (Nat.le_succ _) _⟩

end Go.Proofs.Ytobpohjhhelljaa
