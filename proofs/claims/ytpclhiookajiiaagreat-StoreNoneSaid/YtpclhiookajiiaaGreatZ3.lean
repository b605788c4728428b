/- Layer 6 (store): StoreNone: the walk; its argument opened. -/
import Derived.Test.YtpclhiookajiiaaGreatZ2
import Derived.Test.YtpclhiookajiiaaGreatOpen
import Derived.Test.YtpclhiookajiiaaGreatOpen1
namespace Go.Proofs.YtpclhiookajiiaaGreat
open Go.RowKit
set_option linter.unusedVariables false
set_option linter.unusedSimpArgs false

open Go.ChangeShapes Go.WideShapes Go.ChangeAt

def cellsD (kind : Int) (fits : Bool) (o : Obj) (keep torn : Int) : Array Value := #[.int .i64 kind, .bool fits] ++ cellsO o ++ #[.int .i64 keep, .int .i64 torn]
theorem cellsD_at (kind : Int) (fits : Bool) (o : Obj) (keep torn : Int) (i : Nat) (hi : i < 20) : (cellsD kind fits o keep torn)[2 + i]? = (cellsO o)[i]? := by
  unfold cellsD
  rw [Array.getElem?_append_left (by simp; omega), Array.getElem?_append_right (by simp)]
  simp
theorem cellsD_k (kind : Int) (fits : Bool) (o : Obj) (keep torn : Int) : (cellsD kind fits o keep torn)[22]? = some (.int .i64 keep) := by
  simp [cellsD, cellsO]
theorem cellsD_t (kind : Int) (fits : Bool) (o : Obj) (keep torn : Int) : (cellsD kind fits o keep torn)[23]? = some (.int .i64 torn) := by
  simp [cellsD, cellsO]
theorem cellsD6 : Tryz.prog.cellsOf 64 = 24 := by kernel_rfl
theorem cellsI6 : Tryz.prog.cellsOf 3 = 1 := by kernel_rfl
theorem cellsB6 : Tryz.prog.cellsOf 4 = 1 := by kernel_rfl
set_option maxRecDepth 100000 in
theorem open_deed6 {H : Type} {enc : TypeId × Value → H} {w : World} {base : Nat} {sp : Nat → Bool} {held : Bool} {fuel : Nat} {cs : List Value} {x : DataW H × List MemPlace}
    (h : DataW.trod enc Tryz.prog w base sp held fuel 64 cs = some x) : ∃ (kind : Int) (fits : Bool) (o : Obj) (keep torn : Int), cs = (cellsD kind fits o keep torn).toList := by
  obtain ⟨hl, n, xs, hm⟩ := trod_struct Tryz.underlying64 h
  rw [cellsD6] at hl
  obtain ⟨y0, h0⟩ := mapM_at hm 0 (by simp)
  obtain ⟨y1, h1⟩ := mapM_at hm 1 (by simp)
  obtain ⟨y2, h2⟩ := mapM_at hm 2 (by simp)
  obtain ⟨y3, h3⟩ := mapM_at hm 3 (by simp)
  obtain ⟨y4, h4⟩ := mapM_at hm 4 (by simp)
  simp [cellsI6, cellsB6, cells_obj] at h0 h1 h2 h3 h4
  obtain ⟨i, e0, _, _⟩ := DataW.trod_int Tryz.underlying3 h0
  obtain ⟨g, e1, _⟩ := DataW.trod_bool Tryz.underlying4 h1
  obtain ⟨o, e2, _, _⟩ := open_obj h2
  obtain ⟨k, e3, _, _⟩ := DataW.trod_int Tryz.underlying3 h3
  obtain ⟨t, e4, _, _⟩ := DataW.trod_int Tryz.underlying3 h4
  refine ⟨i, g, o, k, t, ?_⟩
  have hsplit : cs = cs.take 1 ++ ((cs.drop 1).take 1 ++ ((cs.drop 2).take 20 ++ ((cs.drop 22).take 1 ++ (cs.drop 23).take 1))) := by
    have a4 : (cs.drop 23).take 1 = cs.drop 23 := List.take_of_length_le (by rw [List.length_drop]; omega)
    have a3 : cs.drop 22 = (cs.drop 22).take 1 ++ cs.drop 23 := by
      have := (List.take_append_drop 1 (cs.drop 22)).symm
      rwa [List.drop_drop] at this
    have a2 : cs.drop 2 = (cs.drop 2).take 20 ++ cs.drop 22 := by
      have := (List.take_append_drop 20 (cs.drop 2)).symm
      rwa [List.drop_drop] at this
    have a1 : cs.drop 1 = (cs.drop 1).take 1 ++ cs.drop 2 := by
      have := (List.take_append_drop 1 (cs.drop 1)).symm
      rwa [List.drop_drop] at this
    rw [a4, ← a3, ← a2, ← a1]
    exact (List.take_append_drop 1 cs).symm
  rw [hsplit, e0, List.drop_one, e1, e2, e3, e4]
  simp [cellsD]

theorem run_loadVar_objIn (o : Obj) (b k : Nat) (w : World) (h : ∀ i, i < 20 → w.cell? ⟨b, k + i, none⟩ = (cellsO o)[i]?) : (loadVar 28 ⟨b, k, none⟩).run Tryz.prog w = .ok (.agg (cellsO o)) w := by
  have := load_cells_at (P := Tryz.prog) (b := b) (o := k) (cs := cellsO o) (w := w) (fun i hi => h i (by simpa using hi)) 20 0 #[] (by simp) (by simp)
  have h1 : (isAgg 28).run Tryz.prog w = .ok true w := by kernel_rfl
  have h2 : (sizeOf 28).run Tryz.prog w = .ok 20 w := by kernel_rfl
  simp only [loadVar, Sem.run_bind, h1, h2, Result.andThen, loadCells, this, if_true, Sem.run_pure]
theorem wpList_loadObjInG {ops : Array Oper} {Q : Exit → Act → World → Prop} {o : Oper} {rest : List Oper} {a : Act} {w : World} (hw : Region.wanted o (yielded ops a.tmps) = true) (x : Operand) (hop : o.op = .load 28 x) (b k : Nat) (hx : a.eval x = .pointer (some ⟨b, k, none⟩))
    (p : Obj) (h : ∀ i, i < 20 → w.cell? ⟨b, k + i, none⟩ = (cellsO p)[i]?) (hK : wpList Tryz.prog ops Q rest (a.put o.dst (.agg (cellsO p))) w) : wpList Tryz.prog ops Q (o :: rest) a w :=
  BigFrame.wpList_want hw fun K hK' => by
    unfold Oper.wp
    have := run_loadVar_objIn p b k w h
    have e : (execOp a.eval o).run Tryz.prog w = .ok (.value (.agg (cellsO p))) w := by simp [execOp, hop, hx, Instr.loadAt, run_sureAddr, this, Result.andThen]
    rw [e]
    exact hK' _ _ hK

/-- the law's boxes -/
structure ZB (w W : World) (dv : Array Value) (o : Obj) (b6 : Nat) : Prop where
  d : W.heap[w.heap.size]? = some (.cells dv 64 (0, 0))
  k : W.heap[b6]? = some (.cells #[.int .u8 o.kind, .string o.name] 37 (0, 0))
  bl : Below w.heap.size w W
theorem ZB.next {w W W' : World} {dv : Array Value} {o : Obj} {b6 : Nat} (h : ZB w W dv o b6) (hb : Below W.heap.size W W') : ZB w W' dv o b6 :=
  ⟨(hb.block _ (heap_lt h.d)).trans h.d, (hb.block _ (heap_lt h.k)).trans h.k, h.bl.trans (hb.mono h.bl.size)⟩
theorem ZB.cells {w W : World} {kind : Int} {fits : Bool} {keep torn : Int} {o : Obj} {b6 : Nat} (h : ZB w W (cellsD kind fits o keep torn) o b6) :
    W.cell? ⟨b6, 0, none⟩ = some (.int .u8 o.kind) ∧ W.cell? ⟨b6, 1, none⟩ = some (.string o.name) ∧ W.cell? ⟨w.heap.size, 22, none⟩ = some (.int .i64 keep) ∧ W.cell? ⟨w.heap.size, 23, none⟩ = some (.int .i64 torn) :=
  ⟨(cells_of_block h.k 0 (.int .u8 o.kind) rfl).1, (cells_of_block h.k 1 (.string o.name) rfl).1, (cells_of_block h.d 22 _ (cellsD_k kind fits o keep torn)).1, (cells_of_block h.d 23 _ (cellsD_t kind fits o keep torn)).1⟩
theorem ZB.obj {w W : World} {kind : Int} {fits : Bool} {keep torn : Int} {o : Obj} {b6 : Nat} (h : ZB w W (cellsD kind fits o keep torn) o b6) : ∀ i, i < 20 → W.cell? ⟨w.heap.size, 2 + i, none⟩ = (cellsO o)[i]? := fun i hi => by rw [cells_all h.d, cellsD_at _ _ _ _ _ _ hi]

set_option maxRecDepth 100000 in
set_option maxHeartbeats 4000000 in
theorem none_walkA (kind : Int) (fits : Bool) (o : Obj) (keep torn n : Int) (hn : n < 1) (w : World) :
    Calls Tryz.prog 11 #[.agg (cellsD kind fits o keep torn), .int .i64 n] w fun e w' => e = .returned (.bool true) ∧ Below w.heap.size w w' := by
  have hZ := objZ_cells
  simp only [noText] at hZ
  have HZ := Lib.hid hZ
  clear hZ
  have hd0 : (w.alloc (.cells (cellsD kind fits o keep torn) 64)).heap[w.heap.size]? = some (.cells (cellsD kind fits o keep torn) 64 (0, 0)) := heap_alloc_eq
  have hb0 : Below w.heap.size w (w.alloc (.cells (cellsD kind fits o keep torn) 64)) := (Below.refl _ w).alloc (Nat.le_refl _) _
  obtain ⟨W0, hW0⟩ : ∃ W0, W0 = w.alloc (.cells (cellsD kind fits o keep torn) 64) := ⟨_, rfl⟩
  have hsz : W0.heap.size = w.heap.size + 1 := by rw [hW0]; simp
  rw [← hW0] at hd0 hb0
  have d2 : W0.cell? ⟨w.heap.size, 2, none⟩ = some (.int .u8 o.kind) := by rw [cells_all hd0, show (2 : Nat) = 2 + 0 from rfl, cellsD_at _ _ _ _ _ 0 (by decide)]; rfl
  have d3 : W0.cell? ⟨w.heap.size, 3, none⟩ = some (.string o.name) := by rw [cells_all hd0, show (3 : Nat) = 2 + 1 from rfl, cellsD_at _ _ _ _ _ 1 (by decide)]; rfl
  have hkb : (W0.alloc (.cells #[.int .u8 o.kind, .string o.name] 37)).heap[W0.heap.size]? = some (.cells #[.int .u8 o.kind, .string o.name] 37 (0, 0)) := heap_alloc_eq
  have hb1 : Below W0.heap.size W0 (W0.alloc (.cells #[.int .u8 o.kind, .string o.name] 37)) := (Below.refl _ _).alloc (Nat.le_refl _) _
  obtain ⟨W1, hW1⟩ : ∃ W1, W1 = W0.alloc (.cells #[.int .u8 o.kind, .string o.name] 37) := ⟨_, rfl⟩
  rw [← hW1] at hkb hb1
  rw [hsz] at hkb
  have hz1 : ZB w W1 (cellsD kind fits o keep torn) o (w.heap.size + 1) := ⟨(hb1.block _ (heap_lt hd0)).trans hd0, hkb, hb0.trans (hb1.mono hb0.size)⟩
  have HZ1 := Lib.hid hz1
  have HW0 := Lib.hid hW0
  have HW1 := Lib.hid hW1
  clear hd0 hb0 hkb hb1 hz1 hW0 hW1
  go_enter Tryz.func11, Tryz.ntmps11
  go_upto_region 2 with fail
  rw [← HW0.out]
  go_upto_region 3 with fail
  rw [← HW1.out]
  clear d2 d3
  go_wp2_with (first
    | refine wpList_loadObjInG (by first | rfl | (simp [Region.wanted, yielded]; done)) _ rfl w.heap.size 2 rfl o HZ1.out.obj ?_
    | fail)
  refine (zput_nil _ o).mono ?_
  rintro e w2 ⟨rfl, hb⟩
  have hz2 := HZ1.out.next hb
  clear hb
  obtain ⟨W7, hW7⟩ : ∃ W, W = Wset (w2.alloc (.cells (cellsO objZ) 28)) w2.heap.size (.cells (cellsO objZ) 28 (0, 0)) := ⟨_, rfl⟩
  have hbn := below_new w2 (.cells (cellsO objZ) 28) (.cells (cellsO objZ) 28 (0, 0))
  have hnb := new_box w2 (.cells (cellsO objZ) 28) (cellsO objZ) 28
  rw [← hW7] at hbn hnb
  have hq : (w2.alloc (.cells (cellsO objZ) 28)).heap[w2.heap.size]? = some (.cells (cellsO objZ) 28 (0, 0)) := heap_alloc_eq
  conv at hq => lhs; rw [HZ.out]
  have HQ7 := Lib.hid hq
  have HW7 := Lib.hid hW7
  have HX7 := Lib.hid hnb
  have hz3 := hz2.next hbn
  obtain ⟨kk0, kk1, dd2, dd3⟩ := hz3.cells
  have HZ3 := Lib.hid hz3
  clear hbn hnb hq hW7 hz2 hz3
  go_wp2_with (first
    | (refine wpList_storeObj rfl _ _ rfl w2.heap.size rfl objZ rfl _ HQ7.out rfl ?_; rw [← HZ.out, ← HW7.out])
    | fail)
  refine (zget_nil _ _ _).mono ?_
  rintro e w4 ⟨rfl, hb⟩
  have hz4 := HZ3.out.next hb
  have hx7 := (hb.block _ (heap_lt HX7.out)).trans HX7.out
  clear hb kk0 kk1 dd2 dd3
  obtain ⟨W9, hW9⟩ : ∃ W, W = Wset (w4.alloc (.cells (cellsO objZ) 28)) w4.heap.size (.cells (cellsO objZ) 28 (0, 0)) := ⟨_, rfl⟩
  have hbn := below_new w4 (.cells (cellsO objZ) 28) (.cells (cellsO objZ) 28 (0, 0))
  have hnb := new_box w4 (.cells (cellsO objZ) 28) (cellsO objZ) 28
  rw [← hW9] at hbn hnb
  have hq : (w4.alloc (.cells (cellsO objZ) 28)).heap[w4.heap.size]? = some (.cells (cellsO objZ) 28 (0, 0)) := heap_alloc_eq
  conv at hq => lhs; rw [HZ.out]
  have HQ9 := Lib.hid hq
  have HW9 := Lib.hid hW9
  have HX9 := Lib.hid hnb
  have hz5 := hz4.next hbn
  have HX7 := Lib.hid ((hbn.block _ (heap_lt hx7)).trans hx7)
  obtain ⟨kk0, kk1, dd2, dd3⟩ := hz5.cells
  have HZB := Lib.hid hz5
  clear hbn hnb hq hW9 hz4 hz5 hx7
  go_wp2_with (first
    | (refine wpList_storeObj rfl _ _ rfl w4.heap.size rfl objZ rfl _ HQ9.out rfl ?_; rw [← HZ.out, ← HW9.out])
    | fail)
  refine (zlive_any _).mono ?_
  rintro e w9 ⟨rfl, hb⟩
  have hz := HZB.out.next hb
  have hx7 := (hb.block _ (heap_lt HX7.out)).trans HX7.out
  have hx9 := (hb.block _ (heap_lt HX9.out)).trans HX9.out
  clear kk0 kk1 dd2 dd3
  obtain ⟨kk0, kk1, dd2, dd3⟩ := hz.cells
  have HZB := Lib.hid hz
  have HX7 := Lib.hid hx7
  have HX9 := Lib.hid hx9
  clear hb hz hx7 hx9
  simp only []
  rename_i K0 hK0
  refine hK0 _ _ ?_
  simp only [List.append_eq, List.cons_append, List.nil_append]
  go_wp2_with (first
    | refine wpList_loadObjG (by first | rfl | (simp [Region.wanted, yielded]; done)) _ rfl w2.heap.size rfl objZ (cells_all HX7.out) ?_
    | refine wpList_loadObjG (by first | rfl | (simp [Region.wanted, yielded]; done)) _ rfl w4.heap.size rfl objZ (cells_all HX9.out) ?_
    | refine wpList_loadObjInG (by first | rfl | (simp [Region.wanted, yielded]; done)) _ rfl w.heap.size 2 rfl o HZB.out.obj ?_
    | refine wpList_eqlObjG (by first | rfl | (simp [Region.wanted, yielded]; done)) _ _ _ rfl objZ objZ rfl (by first | rfl | exact congrArg Value.agg HZ.out.symm) ?_
    | (go_at_call 18; refine (zdelete_nil _ _ _).mono ?_; rintro e w9 ⟨rfl, hb⟩; have hz := HZB.out.next hb; have hx7 := (hb.block _ (heap_lt HX7.out)).trans HX7.out; have hx9 := (hb.block _ (heap_lt HX9.out)).trans HX9.out; clear kk0 kk1 dd2 dd3; obtain ⟨kk0, kk1, dd2, dd3⟩ := hz.cells; have HZB := Lib.hid hz; have HX7 := Lib.hid hx7; have HX9 := Lib.hid hx9; clear hb hz hx7 hx9)
    | (go_at_call 36; refine (zremove_nil _ _ _ _).mono ?_; rintro e w9 ⟨rfl, hb⟩; have hz := HZB.out.next hb; have hx7 := (hb.block _ (heap_lt HX7.out)).trans HX7.out; have hx9 := (hb.block _ (heap_lt HX9.out)).trans HX9.out; clear kk0 kk1 dd2 dd3; obtain ⟨kk0, kk1, dd2, dd3⟩ := hz.cells; have HZB := Lib.hid hz; have HX7 := Lib.hid hx7; have HX9 := Lib.hid hx9; clear hb hz hx7 hx9)
    | (go_at_call 37; refine (zlist_nil _ _).mono ?_; rintro e w9 ⟨rfl, hb⟩; have hz := HZB.out.next hb; have hx7 := (hb.block _ (heap_lt HX7.out)).trans HX7.out; have hx9 := (hb.block _ (heap_lt HX9.out)).trans HX9.out; clear kk0 kk1 dd2 dd3; obtain ⟨kk0, kk1, dd2, dd3⟩ := hz.cells; have HZB := Lib.hid hz; have HX7 := Lib.hid hx7; have HX9 := Lib.hid hx9; clear hb hz hx7 hx9)
    | (go_at_call 27; refine (zall_nil _).mono ?_; rintro e w9 ⟨rfl, rfl⟩)
    | (go_at_call 28; refine (zversion_nil _).mono ?_; rintro e w9 ⟨rfl, rfl⟩)
    | (go_at_call 26; refine (zsince_nil _ _).mono ?_; rintro e w9 ⟨rfl, rfl⟩)
    | (go_at_call 35; refine (zcrash_nil _ _ _ _).mono ?_; rintro e w9 ⟨rfl, hb⟩; have hz := HZB.out.next hb; have hx7 := (hb.block _ (heap_lt HX7.out)).trans HX7.out; have hx9 := (hb.block _ (heap_lt HX9.out)).trans HX9.out; clear kk0 kk1 dd2 dd3; obtain ⟨kk0, kk1, dd2, dd3⟩ := hz.cells; have HZB := Lib.hid hz; have HX7 := Lib.hid hx7; have HX9 := Lib.hid hx9; clear hb hz hx7 hx9)
    | (go_at_call 30; refine (zlog_nil _).mono ?_; rintro e w9 ⟨rfl, rfl⟩)
    | (go_at_call 34; refine (zfork_nil _).mono ?_; rintro e w9 ⟨rfl, rfl⟩)
    | (go_at_call 38; refine (snew_bad _ n (.inl hn)).mono ?_; rintro e w1 ⟨rfl, rfl⟩)
    | fail)
  go_ret
  exact ⟨rfl, HZB.out.bl⟩

set_option maxRecDepth 100000 in
set_option maxHeartbeats 4000000 in
theorem none_walkB (kind : Int) (fits : Bool) (o : Obj) (keep torn n : Int) (hn0 : ¬ n < 1) (hn : 4096 < n) (w : World) :
    Calls Tryz.prog 11 #[.agg (cellsD kind fits o keep torn), .int .i64 n] w fun e w' => e = .returned (.bool true) ∧ Below w.heap.size w w' := by
  have hZ := objZ_cells
  simp only [noText] at hZ
  have HZ := Lib.hid hZ
  clear hZ
  have hd0 : (w.alloc (.cells (cellsD kind fits o keep torn) 64)).heap[w.heap.size]? = some (.cells (cellsD kind fits o keep torn) 64 (0, 0)) := heap_alloc_eq
  have hb0 : Below w.heap.size w (w.alloc (.cells (cellsD kind fits o keep torn) 64)) := (Below.refl _ w).alloc (Nat.le_refl _) _
  obtain ⟨W0, hW0⟩ : ∃ W0, W0 = w.alloc (.cells (cellsD kind fits o keep torn) 64) := ⟨_, rfl⟩
  have hsz : W0.heap.size = w.heap.size + 1 := by rw [hW0]; simp
  rw [← hW0] at hd0 hb0
  have d2 : W0.cell? ⟨w.heap.size, 2, none⟩ = some (.int .u8 o.kind) := by rw [cells_all hd0, show (2 : Nat) = 2 + 0 from rfl, cellsD_at _ _ _ _ _ 0 (by decide)]; rfl
  have d3 : W0.cell? ⟨w.heap.size, 3, none⟩ = some (.string o.name) := by rw [cells_all hd0, show (3 : Nat) = 2 + 1 from rfl, cellsD_at _ _ _ _ _ 1 (by decide)]; rfl
  have hkb : (W0.alloc (.cells #[.int .u8 o.kind, .string o.name] 37)).heap[W0.heap.size]? = some (.cells #[.int .u8 o.kind, .string o.name] 37 (0, 0)) := heap_alloc_eq
  have hb1 : Below W0.heap.size W0 (W0.alloc (.cells #[.int .u8 o.kind, .string o.name] 37)) := (Below.refl _ _).alloc (Nat.le_refl _) _
  obtain ⟨W1, hW1⟩ : ∃ W1, W1 = W0.alloc (.cells #[.int .u8 o.kind, .string o.name] 37) := ⟨_, rfl⟩
  rw [← hW1] at hkb hb1
  rw [hsz] at hkb
  have hz1 : ZB w W1 (cellsD kind fits o keep torn) o (w.heap.size + 1) := ⟨(hb1.block _ (heap_lt hd0)).trans hd0, hkb, hb0.trans (hb1.mono hb0.size)⟩
  have HZ1 := Lib.hid hz1
  have HW0 := Lib.hid hW0
  have HW1 := Lib.hid hW1
  clear hd0 hb0 hkb hb1 hz1 hW0 hW1
  go_enter Tryz.func11, Tryz.ntmps11
  go_upto_region 2 with fail
  rw [← HW0.out]
  go_upto_region 3 with fail
  rw [← HW1.out]
  clear d2 d3
  go_wp2_with (first
    | refine wpList_loadObjInG (by first | rfl | (simp [Region.wanted, yielded]; done)) _ rfl w.heap.size 2 rfl o HZ1.out.obj ?_
    | fail)
  refine (zput_nil _ o).mono ?_
  rintro e w2 ⟨rfl, hb⟩
  have hz2 := HZ1.out.next hb
  clear hb
  obtain ⟨W7, hW7⟩ : ∃ W, W = Wset (w2.alloc (.cells (cellsO objZ) 28)) w2.heap.size (.cells (cellsO objZ) 28 (0, 0)) := ⟨_, rfl⟩
  have hbn := below_new w2 (.cells (cellsO objZ) 28) (.cells (cellsO objZ) 28 (0, 0))
  have hnb := new_box w2 (.cells (cellsO objZ) 28) (cellsO objZ) 28
  rw [← hW7] at hbn hnb
  have hq : (w2.alloc (.cells (cellsO objZ) 28)).heap[w2.heap.size]? = some (.cells (cellsO objZ) 28 (0, 0)) := heap_alloc_eq
  conv at hq => lhs; rw [HZ.out]
  have HQ7 := Lib.hid hq
  have HW7 := Lib.hid hW7
  have HX7 := Lib.hid hnb
  have hz3 := hz2.next hbn
  obtain ⟨kk0, kk1, dd2, dd3⟩ := hz3.cells
  have HZ3 := Lib.hid hz3
  clear hbn hnb hq hW7 hz2 hz3
  go_wp2_with (first
    | (refine wpList_storeObj rfl _ _ rfl w2.heap.size rfl objZ rfl _ HQ7.out rfl ?_; rw [← HZ.out, ← HW7.out])
    | fail)
  refine (zget_nil _ _ _).mono ?_
  rintro e w4 ⟨rfl, hb⟩
  have hz4 := HZ3.out.next hb
  have hx7 := (hb.block _ (heap_lt HX7.out)).trans HX7.out
  clear hb kk0 kk1 dd2 dd3
  obtain ⟨W9, hW9⟩ : ∃ W, W = Wset (w4.alloc (.cells (cellsO objZ) 28)) w4.heap.size (.cells (cellsO objZ) 28 (0, 0)) := ⟨_, rfl⟩
  have hbn := below_new w4 (.cells (cellsO objZ) 28) (.cells (cellsO objZ) 28 (0, 0))
  have hnb := new_box w4 (.cells (cellsO objZ) 28) (cellsO objZ) 28
  rw [← hW9] at hbn hnb
  have hq : (w4.alloc (.cells (cellsO objZ) 28)).heap[w4.heap.size]? = some (.cells (cellsO objZ) 28 (0, 0)) := heap_alloc_eq
  conv at hq => lhs; rw [HZ.out]
  have HQ9 := Lib.hid hq
  have HW9 := Lib.hid hW9
  have HX9 := Lib.hid hnb
  have hz5 := hz4.next hbn
  have HX7 := Lib.hid ((hbn.block _ (heap_lt hx7)).trans hx7)
  obtain ⟨kk0, kk1, dd2, dd3⟩ := hz5.cells
  have HZB := Lib.hid hz5
  clear hbn hnb hq hW9 hz4 hz5 hx7
  go_wp2_with (first
    | (refine wpList_storeObj rfl _ _ rfl w4.heap.size rfl objZ rfl _ HQ9.out rfl ?_; rw [← HZ.out, ← HW9.out])
    | fail)
  refine (zlive_any _).mono ?_
  rintro e w9 ⟨rfl, hb⟩
  have hz := HZB.out.next hb
  have hx7 := (hb.block _ (heap_lt HX7.out)).trans HX7.out
  have hx9 := (hb.block _ (heap_lt HX9.out)).trans HX9.out
  clear kk0 kk1 dd2 dd3
  obtain ⟨kk0, kk1, dd2, dd3⟩ := hz.cells
  have HZB := Lib.hid hz
  have HX7 := Lib.hid hx7
  have HX9 := Lib.hid hx9
  clear hb hz hx7 hx9
  simp only []
  rename_i K0 hK0
  refine hK0 _ _ ?_
  simp only [List.append_eq, List.cons_append, List.nil_append]
  go_wp2_with (first
    | refine wpList_loadObjG (by first | rfl | (simp [Region.wanted, yielded]; done)) _ rfl w2.heap.size rfl objZ (cells_all HX7.out) ?_
    | refine wpList_loadObjG (by first | rfl | (simp [Region.wanted, yielded]; done)) _ rfl w4.heap.size rfl objZ (cells_all HX9.out) ?_
    | refine wpList_loadObjInG (by first | rfl | (simp [Region.wanted, yielded]; done)) _ rfl w.heap.size 2 rfl o HZB.out.obj ?_
    | refine wpList_eqlObjG (by first | rfl | (simp [Region.wanted, yielded]; done)) _ _ _ rfl objZ objZ rfl (by first | rfl | exact congrArg Value.agg HZ.out.symm) ?_
    | (go_at_call 18; refine (zdelete_nil _ _ _).mono ?_; rintro e w9 ⟨rfl, hb⟩; have hz := HZB.out.next hb; have hx7 := (hb.block _ (heap_lt HX7.out)).trans HX7.out; have hx9 := (hb.block _ (heap_lt HX9.out)).trans HX9.out; clear kk0 kk1 dd2 dd3; obtain ⟨kk0, kk1, dd2, dd3⟩ := hz.cells; have HZB := Lib.hid hz; have HX7 := Lib.hid hx7; have HX9 := Lib.hid hx9; clear hb hz hx7 hx9)
    | (go_at_call 36; refine (zremove_nil _ _ _ _).mono ?_; rintro e w9 ⟨rfl, hb⟩; have hz := HZB.out.next hb; have hx7 := (hb.block _ (heap_lt HX7.out)).trans HX7.out; have hx9 := (hb.block _ (heap_lt HX9.out)).trans HX9.out; clear kk0 kk1 dd2 dd3; obtain ⟨kk0, kk1, dd2, dd3⟩ := hz.cells; have HZB := Lib.hid hz; have HX7 := Lib.hid hx7; have HX9 := Lib.hid hx9; clear hb hz hx7 hx9)
    | (go_at_call 37; refine (zlist_nil _ _).mono ?_; rintro e w9 ⟨rfl, hb⟩; have hz := HZB.out.next hb; have hx7 := (hb.block _ (heap_lt HX7.out)).trans HX7.out; have hx9 := (hb.block _ (heap_lt HX9.out)).trans HX9.out; clear kk0 kk1 dd2 dd3; obtain ⟨kk0, kk1, dd2, dd3⟩ := hz.cells; have HZB := Lib.hid hz; have HX7 := Lib.hid hx7; have HX9 := Lib.hid hx9; clear hb hz hx7 hx9)
    | (go_at_call 27; refine (zall_nil _).mono ?_; rintro e w9 ⟨rfl, rfl⟩)
    | (go_at_call 28; refine (zversion_nil _).mono ?_; rintro e w9 ⟨rfl, rfl⟩)
    | (go_at_call 26; refine (zsince_nil _ _).mono ?_; rintro e w9 ⟨rfl, rfl⟩)
    | (go_at_call 35; refine (zcrash_nil _ _ _ _).mono ?_; rintro e w9 ⟨rfl, hb⟩; have hz := HZB.out.next hb; have hx7 := (hb.block _ (heap_lt HX7.out)).trans HX7.out; have hx9 := (hb.block _ (heap_lt HX9.out)).trans HX9.out; clear kk0 kk1 dd2 dd3; obtain ⟨kk0, kk1, dd2, dd3⟩ := hz.cells; have HZB := Lib.hid hz; have HX7 := Lib.hid hx7; have HX9 := Lib.hid hx9; clear hb hz hx7 hx9)
    | (go_at_call 30; refine (zlog_nil _).mono ?_; rintro e w9 ⟨rfl, rfl⟩)
    | (go_at_call 34; refine (zfork_nil _).mono ?_; rintro e w9 ⟨rfl, rfl⟩)
    | (go_at_call 38; refine (snew_bad _ n (.inr hn)).mono ?_; rintro e w1 ⟨rfl, rfl⟩)
    | fail)
  go_ret
  exact ⟨rfl, HZB.out.bl⟩

set_option maxRecDepth 100000 in
set_option maxHeartbeats 4000000 in
theorem none_walkC (kind : Int) (fits : Bool) (o : Obj) (keep torn n : Int) (hn0 : ¬ n < 1) (hn : ¬ 4096 < n) (w : World) :
    Calls Tryz.prog 11 #[.agg (cellsD kind fits o keep torn), .int .i64 n] w fun e w' => e = .returned (.bool true) ∧ Below w.heap.size w w' := by
  have hZ := objZ_cells
  simp only [noText] at hZ
  have HZ := Lib.hid hZ
  clear hZ
  have hd0 : (w.alloc (.cells (cellsD kind fits o keep torn) 64)).heap[w.heap.size]? = some (.cells (cellsD kind fits o keep torn) 64 (0, 0)) := heap_alloc_eq
  have hb0 : Below w.heap.size w (w.alloc (.cells (cellsD kind fits o keep torn) 64)) := (Below.refl _ w).alloc (Nat.le_refl _) _
  obtain ⟨W0, hW0⟩ : ∃ W0, W0 = w.alloc (.cells (cellsD kind fits o keep torn) 64) := ⟨_, rfl⟩
  have hsz : W0.heap.size = w.heap.size + 1 := by rw [hW0]; simp
  rw [← hW0] at hd0 hb0
  have d2 : W0.cell? ⟨w.heap.size, 2, none⟩ = some (.int .u8 o.kind) := by rw [cells_all hd0, show (2 : Nat) = 2 + 0 from rfl, cellsD_at _ _ _ _ _ 0 (by decide)]; rfl
  have d3 : W0.cell? ⟨w.heap.size, 3, none⟩ = some (.string o.name) := by rw [cells_all hd0, show (3 : Nat) = 2 + 1 from rfl, cellsD_at _ _ _ _ _ 1 (by decide)]; rfl
  have hkb : (W0.alloc (.cells #[.int .u8 o.kind, .string o.name] 37)).heap[W0.heap.size]? = some (.cells #[.int .u8 o.kind, .string o.name] 37 (0, 0)) := heap_alloc_eq
  have hb1 : Below W0.heap.size W0 (W0.alloc (.cells #[.int .u8 o.kind, .string o.name] 37)) := (Below.refl _ _).alloc (Nat.le_refl _) _
  obtain ⟨W1, hW1⟩ : ∃ W1, W1 = W0.alloc (.cells #[.int .u8 o.kind, .string o.name] 37) := ⟨_, rfl⟩
  rw [← hW1] at hkb hb1
  rw [hsz] at hkb
  have hz1 : ZB w W1 (cellsD kind fits o keep torn) o (w.heap.size + 1) := ⟨(hb1.block _ (heap_lt hd0)).trans hd0, hkb, hb0.trans (hb1.mono hb0.size)⟩
  have HZ1 := Lib.hid hz1
  have HW0 := Lib.hid hW0
  have HW1 := Lib.hid hW1
  clear hd0 hb0 hkb hb1 hz1 hW0 hW1
  go_enter Tryz.func11, Tryz.ntmps11
  go_upto_region 2 with fail
  rw [← HW0.out]
  go_upto_region 3 with fail
  rw [← HW1.out]
  clear d2 d3
  go_wp2_with (first
    | refine wpList_loadObjInG (by first | rfl | (simp [Region.wanted, yielded]; done)) _ rfl w.heap.size 2 rfl o HZ1.out.obj ?_
    | fail)
  refine (zput_nil _ o).mono ?_
  rintro e w2 ⟨rfl, hb⟩
  have hz2 := HZ1.out.next hb
  clear hb
  obtain ⟨W7, hW7⟩ : ∃ W, W = Wset (w2.alloc (.cells (cellsO objZ) 28)) w2.heap.size (.cells (cellsO objZ) 28 (0, 0)) := ⟨_, rfl⟩
  have hbn := below_new w2 (.cells (cellsO objZ) 28) (.cells (cellsO objZ) 28 (0, 0))
  have hnb := new_box w2 (.cells (cellsO objZ) 28) (cellsO objZ) 28
  rw [← hW7] at hbn hnb
  have hq : (w2.alloc (.cells (cellsO objZ) 28)).heap[w2.heap.size]? = some (.cells (cellsO objZ) 28 (0, 0)) := heap_alloc_eq
  conv at hq => lhs; rw [HZ.out]
  have HQ7 := Lib.hid hq
  have HW7 := Lib.hid hW7
  have HX7 := Lib.hid hnb
  have hz3 := hz2.next hbn
  obtain ⟨kk0, kk1, dd2, dd3⟩ := hz3.cells
  have HZ3 := Lib.hid hz3
  clear hbn hnb hq hW7 hz2 hz3
  go_wp2_with (first
    | (refine wpList_storeObj rfl _ _ rfl w2.heap.size rfl objZ rfl _ HQ7.out rfl ?_; rw [← HZ.out, ← HW7.out])
    | fail)
  refine (zget_nil _ _ _).mono ?_
  rintro e w4 ⟨rfl, hb⟩
  have hz4 := HZ3.out.next hb
  have hx7 := (hb.block _ (heap_lt HX7.out)).trans HX7.out
  clear hb kk0 kk1 dd2 dd3
  obtain ⟨W9, hW9⟩ : ∃ W, W = Wset (w4.alloc (.cells (cellsO objZ) 28)) w4.heap.size (.cells (cellsO objZ) 28 (0, 0)) := ⟨_, rfl⟩
  have hbn := below_new w4 (.cells (cellsO objZ) 28) (.cells (cellsO objZ) 28 (0, 0))
  have hnb := new_box w4 (.cells (cellsO objZ) 28) (cellsO objZ) 28
  rw [← hW9] at hbn hnb
  have hq : (w4.alloc (.cells (cellsO objZ) 28)).heap[w4.heap.size]? = some (.cells (cellsO objZ) 28 (0, 0)) := heap_alloc_eq
  conv at hq => lhs; rw [HZ.out]
  have HQ9 := Lib.hid hq
  have HW9 := Lib.hid hW9
  have HX9 := Lib.hid hnb
  have hz5 := hz4.next hbn
  have HX7 := Lib.hid ((hbn.block _ (heap_lt hx7)).trans hx7)
  obtain ⟨kk0, kk1, dd2, dd3⟩ := hz5.cells
  have HZB := Lib.hid hz5
  clear hbn hnb hq hW9 hz4 hz5 hx7
  go_wp2_with (first
    | (refine wpList_storeObj rfl _ _ rfl w4.heap.size rfl objZ rfl _ HQ9.out rfl ?_; rw [← HZ.out, ← HW9.out])
    | fail)
  refine (zlive_any _).mono ?_
  rintro e w9 ⟨rfl, hb⟩
  have hz := HZB.out.next hb
  have hx7 := (hb.block _ (heap_lt HX7.out)).trans HX7.out
  have hx9 := (hb.block _ (heap_lt HX9.out)).trans HX9.out
  clear kk0 kk1 dd2 dd3
  obtain ⟨kk0, kk1, dd2, dd3⟩ := hz.cells
  have HZB := Lib.hid hz
  have HX7 := Lib.hid hx7
  have HX9 := Lib.hid hx9
  clear hb hz hx7 hx9
  simp only []
  rename_i K0 hK0
  refine hK0 _ _ ?_
  simp only [List.append_eq, List.cons_append, List.nil_append]
  go_wp2_with (first
    | refine wpList_loadObjG (by first | rfl | (simp [Region.wanted, yielded]; done)) _ rfl w2.heap.size rfl objZ (cells_all HX7.out) ?_
    | refine wpList_loadObjG (by first | rfl | (simp [Region.wanted, yielded]; done)) _ rfl w4.heap.size rfl objZ (cells_all HX9.out) ?_
    | refine wpList_loadObjInG (by first | rfl | (simp [Region.wanted, yielded]; done)) _ rfl w.heap.size 2 rfl o HZB.out.obj ?_
    | refine wpList_eqlObjG (by first | rfl | (simp [Region.wanted, yielded]; done)) _ _ _ rfl objZ objZ rfl (by first | rfl | exact congrArg Value.agg HZ.out.symm) ?_
    | (go_at_call 18; refine (zdelete_nil _ _ _).mono ?_; rintro e w9 ⟨rfl, hb⟩; have hz := HZB.out.next hb; have hx7 := (hb.block _ (heap_lt HX7.out)).trans HX7.out; have hx9 := (hb.block _ (heap_lt HX9.out)).trans HX9.out; clear kk0 kk1 dd2 dd3; obtain ⟨kk0, kk1, dd2, dd3⟩ := hz.cells; have HZB := Lib.hid hz; have HX7 := Lib.hid hx7; have HX9 := Lib.hid hx9; clear hb hz hx7 hx9)
    | (go_at_call 36; refine (zremove_nil _ _ _ _).mono ?_; rintro e w9 ⟨rfl, hb⟩; have hz := HZB.out.next hb; have hx7 := (hb.block _ (heap_lt HX7.out)).trans HX7.out; have hx9 := (hb.block _ (heap_lt HX9.out)).trans HX9.out; clear kk0 kk1 dd2 dd3; obtain ⟨kk0, kk1, dd2, dd3⟩ := hz.cells; have HZB := Lib.hid hz; have HX7 := Lib.hid hx7; have HX9 := Lib.hid hx9; clear hb hz hx7 hx9)
    | (go_at_call 37; refine (zlist_nil _ _).mono ?_; rintro e w9 ⟨rfl, hb⟩; have hz := HZB.out.next hb; have hx7 := (hb.block _ (heap_lt HX7.out)).trans HX7.out; have hx9 := (hb.block _ (heap_lt HX9.out)).trans HX9.out; clear kk0 kk1 dd2 dd3; obtain ⟨kk0, kk1, dd2, dd3⟩ := hz.cells; have HZB := Lib.hid hz; have HX7 := Lib.hid hx7; have HX9 := Lib.hid hx9; clear hb hz hx7 hx9)
    | (go_at_call 27; refine (zall_nil _).mono ?_; rintro e w9 ⟨rfl, rfl⟩)
    | (go_at_call 28; refine (zversion_nil _).mono ?_; rintro e w9 ⟨rfl, rfl⟩)
    | (go_at_call 26; refine (zsince_nil _ _).mono ?_; rintro e w9 ⟨rfl, rfl⟩)
    | (go_at_call 35; refine (zcrash_nil _ _ _ _).mono ?_; rintro e w9 ⟨rfl, hb⟩; have hz := HZB.out.next hb; have hx7 := (hb.block _ (heap_lt HX7.out)).trans HX7.out; have hx9 := (hb.block _ (heap_lt HX9.out)).trans HX9.out; clear kk0 kk1 dd2 dd3; obtain ⟨kk0, kk1, dd2, dd3⟩ := hz.cells; have HZB := Lib.hid hz; have HX7 := Lib.hid hx7; have HX9 := Lib.hid hx9; clear hb hz hx7 hx9)
    | (go_at_call 30; refine (zlog_nil _).mono ?_; rintro e w9 ⟨rfl, rfl⟩)
    | (go_at_call 34; refine (zfork_nil _).mono ?_; rintro e w9 ⟨rfl, rfl⟩)
    | (go_at_call 38; refine (snew_any _ n (by omega) (by omega)).mono ?_; rintro e w1 ⟨L, cv, lv, rfl, _, hb⟩; have hz := HZB.out.next hb; have hx7 := (hb.block _ (heap_lt HX7.out)).trans HX7.out; have hx9 := (hb.block _ (heap_lt HX9.out)).trans HX9.out; clear kk0 kk1 dd2 dd3; obtain ⟨kk0, kk1, dd2, dd3⟩ := hz.cells; have HZB := Lib.hid hz; have HX7 := Lib.hid hx7; have HX9 := Lib.hid hx9; clear hb hz hx7 hx9)
    | fail)
  go_ret
  exact ⟨ret_bool (by simp [hn0, hn]), HZB.out.bl⟩

theorem none_walk (kind : Int) (fits : Bool) (o : Obj) (keep torn n : Int) (w : World) :
    Calls Tryz.prog 11 #[.agg (cellsD kind fits o keep torn), .int .i64 n] w fun e w' => e = .returned (.bool true) ∧ Below w.heap.size w w' := by
  by_cases h1 : n < 1
  · exact none_walkA kind fits o keep torn n h1 w
  · by_cases h2 : 4096 < n
    · exact none_walkB kind fits o keep torn n h1 h2 w
    · exact none_walkC kind fits o keep torn n h1 h2 w

end Go.Proofs.YtpclhiookajiiaaGreat
