/- Layer 3 (object): what an object's kind does not name makes it wrong. -/
import Derived.Test.YtmhnccbjnlmjpaaO15
import Derived.Test.YtmhnccbjnlmjpaaTree
namespace Go.Proofs.Ytmhnccbjnlmjpaa
open Go.RowKit
set_option linter.unusedVariables false
set_option linter.unusedSimpArgs false

theorem rest_tag (o : Obj) (t : Int) : restO { o with tag := t } = if o.kind = 7 then restO o else { restO o with tag := t } := by
  unfold restO
  by_cases k1 : o.kind = 1
  · simp [k1]
  by_cases k2 : o.kind = 2
  · simp [k2]
  by_cases k3 : o.kind = 3
  · simp [k3]
  by_cases k4 : o.kind = 4
  · simp [k4]
  by_cases k5 : o.kind = 5
  · simp [k5]
  by_cases k6 : o.kind = 6
  · simp [k6]
  by_cases k7 : o.kind = 7
  · simp [k7]
  simp [k1, k2, k3, k4, k5, k6, k7]
theorem rest_wait (o : Obj) : restO { o with wait := true } = if o.kind = 1 then restO o else { restO o with wait := true } := by
  unfold restO
  by_cases k1 : o.kind = 1
  · simp [k1]
  by_cases k2 : o.kind = 2
  · simp [k2]
  by_cases k3 : o.kind = 3
  · simp [k3]
  by_cases k4 : o.kind = 4
  · simp [k4]
  by_cases k5 : o.kind = 5
  · simp [k5]
  by_cases k6 : o.kind = 6
  · simp [k6]
  by_cases k7 : o.kind = 7
  · simp [k7]
  simp [k1, k2, k3, k4, k5, k6, k7]
theorem right_split (o : Obj) : rightB o = (decide (restO o = bareO o.kind) && (nameB o.name && namesB (textsO o) && sizeB o.size && sizeB o.got && kindB o)) := by
  simp only [rightB, formB]
  cases nameB o.name <;> cases decide (restO o = bareO o.kind) <;> simp
theorem bare_tag {o : Obj} (t : Int) (h : rightB o = true) : rightB { o with tag := t } = (t == 0 || o.kind == 7) := by
  rw [right_split] at h ⊢
  simp only [Bool.and_eq_true, decide_eq_true_eq] at h
  obtain ⟨hr, hx⟩ := h
  have e : (nameB o.name && namesB (textsO { o with tag := t }) && sizeB o.size && sizeB o.got && kindB { o with tag := t }) = true := by
    simpa [textsO, kindB] using hx
  simp only at e ⊢
  rw [e, Bool.and_true, rest_tag]
  by_cases k7 : o.kind = 7
  · simp [k7]; rw [hr, k7]
  · rw [if_neg k7, hr]
    by_cases ht : t = 0
    · simp [ht, bareO]
    · simp [ht, k7, bareO]
theorem bare_wait {o : Obj} (h : rightB o = true) : rightB { o with wait := true } = (o.kind == 1) := by
  rw [right_split] at h ⊢
  simp only [Bool.and_eq_true, decide_eq_true_eq] at h
  obtain ⟨hr, hx⟩ := h
  have e : (nameB o.name && namesB (textsO { o with wait := true }) && sizeB o.size && sizeB o.got && kindB { o with wait := true }) = true := by
    simpa [textsO, kindB] using hx
  simp only at e ⊢
  rw [e, Bool.and_true, rest_wait]
  by_cases k1 : o.kind = 1
  · simp [k1]; rw [hr, k1]
  · rw [if_neg k1, hr]
    simp [k1, bareO]


theorem alloc_post {wn X : World} {o : Go.Obj} (h : wn = X.alloc o) : wn.heap[X.heap.size]? = some o := by rw [h]; exact heap_alloc_eq
theorem alloc_keep {wn X : World} {o o' : Go.Obj} {b : Nat} (h : wn = X.alloc o) (hb : X.heap[b]? = some o') : wn.heap[b]? = some o' := by rw [h]; exact (heap_alloc_lt (Array.getElem?_eq_some_iff.1 hb).1).trans hb
theorem alloc_ne {X : World} {o' : Go.Obj} {b : Nat} (hb : X.heap[b]? = some o') : b ≠ X.heap.size := Nat.ne_of_lt (Array.getElem?_eq_some_iff.1 hb).1
theorem alloc_below {wn X w : World} {o : Go.Obj} {B : Nat} (h : wn = X.alloc o) (hB : Below B w X) (hle : B ≤ X.heap.size) : Below B w wn := by rw [h]; exact hB.alloc hle _
theorem wset_below {X w : World} {o : Go.Obj} {B b : Nat} (hB : Below B w X) (hle : B ≤ b) : Below B w (Wset X b o) :=
  hB.trans ⟨rfl, rfl, rfl, by simp [Wset], fun k hk => Wset_ne (by omega)⟩
theorem wset_post {wn X : World} {b : Nat} {o : Go.Obj} (h : wn = Wset X b o) (hb : b < X.heap.size) : wn.heap[b]? = some o := by rw [h]; exact Wset_same hb
theorem wset_keep {wn X : World} {b c : Nat} {o o' : Go.Obj} (h : wn = Wset X b o) (hc : X.heap[c]? = some o') (hne : c ≠ b) : wn.heap[c]? = some o' := by rw [h]; exact (Wset_ne hne).trans hc
theorem heap_setCell_ne {w : World} {a : Addr} {v : Value} {b : Nat} (h : b ≠ a.block) : (w.setCell a v).heap[b]? = w.heap[b]? := Below.heap_setCell w a v b h
theorem heap_setCell_same {w : World} {b o : Nat} {v : Value} {cs : Array Value} {t : TypeId} {fr : Nat × Nat} (h : w.heap[b]? = some (.cells cs t fr)) :
    (w.setCell ⟨b, o, none⟩ v).heap[b]? = some (.cells (cs.setIfInBounds o v) t fr) := by
  simp [World.setCell, Array.getElem?_modify, h]
theorem tag_cells (o : Obj) (t : Int) : (cellsO o).setIfInBounds 19 (.int .u64 t) = cellsO { o with tag := t } := by simp [cellsO]
theorem wait_cells (o : Obj) (b : Bool) : (cellsO o).setIfInBounds 11 (.bool b) = cellsO { o with wait := b } := by simp [cellsO]

namespace objectBare
open Go.ChangeShapes Go.WideShapes Go.ChangeAt

/-- three boxes -/
structure B3 (w W : World) (P Q : Nat) (o x y : Obj) : Prop where
  o : ∀ k, W.cell? ⟨w.heap.size, k, none⟩ = (cellsO o)[k]?
  x : ∀ k, W.cell? ⟨P, k, none⟩ = (cellsO x)[k]?
  y : ∀ k, W.cell? ⟨Q, k, none⟩ = (cellsO y)[k]?
  lo : w.heap.size < W.heap.size
  lx : P < W.heap.size
  ly : Q < W.heap.size
  b : Below w.heap.size w W
theorem B3.next {w W W' : World} {P Q : Nat} {o x y : Obj} (h : B3 w W P Q o x y) (hb : Below W.heap.size W W') : B3 w W' P Q o x y :=
  ⟨fun k => (hb.cell (p := ⟨w.heap.size, k, none⟩) h.lo).trans (h.o k), fun k => (hb.cell (p := ⟨P, k, none⟩) h.lx).trans (h.x k), fun k => (hb.cell (p := ⟨Q, k, none⟩) h.ly).trans (h.y k),
    Nat.lt_of_lt_of_le h.lo hb.size, Nat.lt_of_lt_of_le h.lx hb.size, Nat.lt_of_lt_of_le h.ly hb.size, h.b.trans (hb.mono h.b.size)⟩
theorem B3.drew {w W : World} {P Q : Nat} {o x y : Obj} (h : B3 w W P Q o x y) : B3 w W.drew P Q o x y := ⟨h.o, h.x, h.y, h.lo, h.lx, h.ly, h.b.drew⟩
theorem B3.made {w W : World} {P Q : Nat} {o : Obj} {t : Int} (h0 : W.heap[w.heap.size]? = some (.cells (cellsO o) 27 (0, 0))) (hP : W.heap[P]? = some (.cells (cellsO o) 27 (0, 0))) (hQ : W.heap[Q]? = some (.cells (cellsO o) 27 (0, 0)))
    (hpq : P ≠ Q) (hp : w.heap.size ≠ P) (hq : w.heap.size ≠ Q) (hpB : w.heap.size ≤ P) (hqB : w.heap.size ≤ Q) (hB : Below w.heap.size w W) :
    B3 w ((W.setCell ⟨P, 19, none⟩ (.int .u64 t)).setCell ⟨Q, 11, none⟩ (.bool true)) P Q o { o with tag := t } { o with wait := true } := by
  have lt : ∀ {b : Nat} {o : Go.Obj}, W.heap[b]? = some o → b < W.heap.size := fun h => (Array.getElem?_eq_some_iff.1 h).1
  have sz : ((W.setCell ⟨P, 19, none⟩ (.int .u64 t)).setCell ⟨Q, 11, none⟩ (.bool true)).heap.size = W.heap.size := by simp
  refine ⟨cells_all ((heap_setCell_ne hq).trans ((heap_setCell_ne hp).trans h0)), cells_all (t := 27) (fr := (0, 0)) ?_, cells_all (t := 27) (fr := (0, 0)) ?_, by rw [sz]; exact lt h0, by rw [sz]; exact lt hP, by rw [sz]; exact lt hQ, (hB.setCell (by simpa using hpB) _).setCell (by simpa using hqB) _⟩
  · rw [heap_setCell_ne hpq, heap_setCell_same hP, tag_cells]
  · rw [heap_setCell_same ((heap_setCell_ne hpq.symm).trans hQ), wait_cells]

set_option maxRecDepth 100000 in
set_option maxHeartbeats 8000000 in
theorem walkF (o : Obj) (t : Int) (w : World) (hf : o.Fits) (hr : rightB o = false) : Calls Try.prog 6 #[.agg (cellsO o), .int .u64 t] w fun e w' => e = .returned (.bool true) ∧ Below w.heap.size w w' := by
  have HF := Lib.hid hf
  have HFX := Lib.hid (show ({ o with tag := t } : Obj).Fits from ⟨hf.1, hf.2⟩)
  have HFY := Lib.hid (show ({ o with wait := true } : Obj).Fits from ⟨hf.1, hf.2⟩)
  have HR := Lib.hid hr
  clear hr
  clear hf
  have h0 : (w.alloc (.cells (cellsO o) 27)).drew.heap[w.heap.size]? = some (.cells (cellsO o) 27) := heap_alloc_eq
  have hB := ((Below.refl w.heap.size w).alloc (Nat.le_refl _) (.cells (cellsO o) 27)).drew
  go_enter Try.func6, Try.ntmps6
  go_wp2
  refine wp_region_tree (fun w' => (∀ k, w'.cell? ⟨w.heap.size, k, none⟩ = (cellsO o)[k]?)) (.t 0 (.t 1 (.f 2 (.a 3 (.a 4 (.a 5 .nil))) 3 (.a 2 (.a 4 (.a 5 .nil)))))) (by kernel_rfl) (by kernel_rfl) (by kernel_rfl) ?_ ?_
  · exact (by exact cells_all h0)
  (generalize (w.alloc (.cells (cellsO o) 27)).drew = wn at *)
  refine wpT_takeK rfl (.agg (cellsO o)) (by first | rfl | (simp [Region.wanted, yielded]; done)) ?_ ?_
  · intro w' hS
    have s0 := hS
    exact exec_loadObj o rfl rfl s0
  intro K hK
  go_simp
  refine hK _ ?_
  clear hK K
  refine wpT_takeK rfl (.agg (cellsO o)) (by first | rfl | (simp [Region.wanted, yielded]; done)) ?_ ?_
  · intro w' hS
    have s0 := hS
    exact exec_loadObj o rfl rfl s0
  intro K hK
  go_simp
  refine hK _ ?_
  clear hK K
  refine wpT_fork rfl rfl ?_ ?_
  focus (obtain ⟨P, hPn⟩ : ∃ P, P = wn.heap.size := ⟨_, rfl⟩; go_wp2; rw [← hPn])
  refine QS_abs (fun wn hwn => ?_)
  (have hP := alloc_post hwn; rw [← hPn] at hP; have hp := alloc_ne h0; rw [← hPn] at hp; have hpB := hB.size; rw [← hPn] at hpB; (try (have hpq := (alloc_ne hQ).symm; rw [← hPn] at hpq; have hQ := alloc_keep hwn hQ)); have h0 := alloc_keep hwn h0; have hB := alloc_below hwn hB hB.size; clear hwn hPn)
  refine And.intro (by exact cells_all h0) ?_
  refine wpT_alone rfl ?_
  focus (obtain ⟨Q, hQn⟩ : ∃ Q, Q = wn.heap.size := ⟨_, rfl⟩; go_wp2; rw [← hQn])
  refine QS_abs (fun wn hwn => ?_)
  (have hQ := alloc_post hwn; rw [← hQn] at hQ; have hq := alloc_ne h0; rw [← hQn] at hq; have hqB := hB.size; rw [← hQn] at hqB; (try (have hpq := alloc_ne hP; rw [← hQn] at hpq; have hP := alloc_keep hwn hP)); have h0 := alloc_keep hwn h0; have hB := alloc_below hwn hB hB.size; clear hwn hQn)
  refine And.intro (by exact cells_all h0) ?_
  refine wpT_alone rfl ?_
  focus ((try simp only [List.getElem_toArray, List.getElem_cons_succ, List.getElem_cons_zero]); refine wpList_storeObj rfl _ _ rfl P rfl o rfl _ hP rfl ?_; go_wp2)
  refine QS_abs (fun wn hwn => ?_)
  (have hB := (show Below w.heap.size w wn by rw [hwn]; exact wset_below hB hpB); have h0 := wset_keep hwn h0 hp; have hQ := wset_keep hwn hQ hpq.symm; have hP := wset_post hwn (Array.getElem?_eq_some_iff.1 hP).1; clear hwn)
  refine And.intro (by exact cells_all h0) ?_
  refine wpT_alone rfl ?_
  focus ((try simp only [List.getElem_toArray, List.getElem_cons_succ, List.getElem_cons_zero]); refine wpList_storeObj rfl _ _ rfl Q rfl o rfl _ hQ rfl ?_; go_wp2)
  refine QS_abs (fun wn hwn => ?_)
  (have hB := (show Below w.heap.size w wn by rw [hwn]; exact wset_below hB hqB); have h0 := wset_keep hwn h0 hq; have hP := wset_keep hwn hP hpq; have hQ := wset_post hwn (Array.getElem?_eq_some_iff.1 hQ).1; clear hwn)
  refine And.intro (by exact cells_all h0) ?_
  refine wpT_end ?_
  rotate_left
  focus (obtain ⟨Q, hQn⟩ : ∃ Q, Q = wn.heap.size := ⟨_, rfl⟩; go_wp2; rw [← hQn])
  refine QS_abs (fun wn hwn => ?_)
  (have hQ := alloc_post hwn; rw [← hQn] at hQ; have hq := alloc_ne h0; rw [← hQn] at hq; have hqB := hB.size; rw [← hQn] at hqB; (try (have hpq := alloc_ne hP; rw [← hQn] at hpq; have hP := alloc_keep hwn hP)); have h0 := alloc_keep hwn h0; have hB := alloc_below hwn hB hB.size; clear hwn hQn)
  refine And.intro (by exact cells_all h0) ?_
  refine wpT_alone rfl ?_
  focus (obtain ⟨P, hPn⟩ : ∃ P, P = wn.heap.size := ⟨_, rfl⟩; go_wp2; rw [← hPn])
  refine QS_abs (fun wn hwn => ?_)
  (have hP := alloc_post hwn; rw [← hPn] at hP; have hp := alloc_ne h0; rw [← hPn] at hp; have hpB := hB.size; rw [← hPn] at hpB; (try (have hpq := (alloc_ne hQ).symm; rw [← hPn] at hpq; have hQ := alloc_keep hwn hQ)); have h0 := alloc_keep hwn h0; have hB := alloc_below hwn hB hB.size; clear hwn hPn)
  refine And.intro (by exact cells_all h0) ?_
  refine wpT_alone rfl ?_
  focus ((try simp only [List.getElem_toArray, List.getElem_cons_succ, List.getElem_cons_zero]); refine wpList_storeObj rfl _ _ rfl P rfl o rfl _ hP rfl ?_; go_wp2)
  refine QS_abs (fun wn hwn => ?_)
  (have hB := (show Below w.heap.size w wn by rw [hwn]; exact wset_below hB hpB); have h0 := wset_keep hwn h0 hp; have hQ := wset_keep hwn hQ hpq.symm; have hP := wset_post hwn (Array.getElem?_eq_some_iff.1 hP).1; clear hwn)
  refine And.intro (by exact cells_all h0) ?_
  refine wpT_alone rfl ?_
  focus ((try simp only [List.getElem_toArray, List.getElem_cons_succ, List.getElem_cons_zero]); refine wpList_storeObj rfl _ _ rfl Q rfl o rfl _ hQ rfl ?_; go_wp2)
  refine QS_abs (fun wn hwn => ?_)
  (have hB := (show Below w.heap.size w wn by rw [hwn]; exact wset_below hB hqB); have h0 := wset_keep hwn h0 hq; have hP := wset_keep hwn hP hpq; have hQ := wset_post hwn (Array.getElem?_eq_some_iff.1 hQ).1; clear hwn)
  refine And.intro (by exact cells_all h0) ?_
  refine wpT_end ?_
  rotate_left
  all_goals have x19 := (cells_all hP 19).trans (show (cellsO o)[19]? = some (.int .u64 o.tag) from rfl)
  all_goals have y19 := frozen_all hP 19
  all_goals have x11 := (cells_all hQ 11).trans (show (cellsO o)[11]? = some (.bool o.wait) from rfl)
  all_goals have y11 := frozen_all hQ 11
  all_goals go_upto_region 4 with fail
  all_goals have S0 := Lib.hid (B3.made (t := t) h0 hP hQ hpq hp hq hpB hqB hB)
  all_goals clear h0 hP hQ hpq hp hq hpB hqB hB x19 y19 x11 y11
  all_goals generalize (wn.setCell ⟨P, 19, none⟩ (.int .u64 t)).setCell ⟨Q, 11, none⟩ (.bool true) = W3 at *
  all_goals have s0 := S0.out.o
  all_goals go_wp2_with (refine wpList_loadObjG rfl _ rfl _ rfl o s0 ?_)
  all_goals refine (right_any o _ HF.out).mono ?_
  all_goals rintro e w1 ⟨rfl, hb1⟩
  all_goals have S1 := Lib.hid (S0.out.next hb1)
  all_goals clear hb1 s0 S0
  all_goals rw [HR.out]
  all_goals go_wp2_with fail
  all_goals refine (live_any _).mono ?_
  all_goals rintro e w2 ⟨rfl, hb2⟩
  all_goals have S2 := Lib.hid (S1.out.next hb2)
  all_goals clear hb2 S1
  all_goals go_wp2
  all_goals go_ret
  all_goals exact ⟨rfl, S2.out.b⟩

set_option maxRecDepth 100000 in
set_option maxHeartbeats 8000000 in
theorem walkZ (o : Obj) (t : Int) (w : World) (hf : o.Fits) (hr : rightB o = true) (ht : t = 0) : Calls Try.prog 6 #[.agg (cellsO o), .int .u64 t] w fun e w' => e = .returned (.bool true) ∧ Below w.heap.size w w' := by
  have HF := Lib.hid hf
  have HFX := Lib.hid (show ({ o with tag := t } : Obj).Fits from ⟨hf.1, hf.2⟩)
  have HFY := Lib.hid (show ({ o with wait := true } : Obj).Fits from ⟨hf.1, hf.2⟩)
  have HR := Lib.hid hr
  have HRX := Lib.hid (show rightB ({ o with tag := t } : Obj) = true by rw [bare_tag t hr]; simp [ht])
  have HRY := Lib.hid (bare_wait hr)
  have ht0 : (t == 0) = true := by simp [ht]
  clear hr ht
  clear hf
  have h0 : (w.alloc (.cells (cellsO o) 27)).drew.heap[w.heap.size]? = some (.cells (cellsO o) 27) := heap_alloc_eq
  have hB := ((Below.refl w.heap.size w).alloc (Nat.le_refl _) (.cells (cellsO o) 27)).drew
  go_enter Try.func6, Try.ntmps6
  go_wp2
  refine wp_region_tree (fun w' => (∀ k, w'.cell? ⟨w.heap.size, k, none⟩ = (cellsO o)[k]?)) (.t 0 (.t 1 (.f 2 (.a 3 (.a 4 (.a 5 .nil))) 3 (.a 2 (.a 4 (.a 5 .nil)))))) (by kernel_rfl) (by kernel_rfl) (by kernel_rfl) ?_ ?_
  · exact (by exact cells_all h0)
  (generalize (w.alloc (.cells (cellsO o) 27)).drew = wn at *)
  refine wpT_takeK rfl (.agg (cellsO o)) (by first | rfl | (simp [Region.wanted, yielded]; done)) ?_ ?_
  · intro w' hS
    have s0 := hS
    exact exec_loadObj o rfl rfl s0
  intro K hK
  go_simp
  refine hK _ ?_
  clear hK K
  refine wpT_takeK rfl (.agg (cellsO o)) (by first | rfl | (simp [Region.wanted, yielded]; done)) ?_ ?_
  · intro w' hS
    have s0 := hS
    exact exec_loadObj o rfl rfl s0
  intro K hK
  go_simp
  refine hK _ ?_
  clear hK K
  refine wpT_fork rfl rfl ?_ ?_
  focus (obtain ⟨P, hPn⟩ : ∃ P, P = wn.heap.size := ⟨_, rfl⟩; go_wp2; rw [← hPn])
  refine QS_abs (fun wn hwn => ?_)
  (have hP := alloc_post hwn; rw [← hPn] at hP; have hp := alloc_ne h0; rw [← hPn] at hp; have hpB := hB.size; rw [← hPn] at hpB; (try (have hpq := (alloc_ne hQ).symm; rw [← hPn] at hpq; have hQ := alloc_keep hwn hQ)); have h0 := alloc_keep hwn h0; have hB := alloc_below hwn hB hB.size; clear hwn hPn)
  refine And.intro (by exact cells_all h0) ?_
  refine wpT_alone rfl ?_
  focus (obtain ⟨Q, hQn⟩ : ∃ Q, Q = wn.heap.size := ⟨_, rfl⟩; go_wp2; rw [← hQn])
  refine QS_abs (fun wn hwn => ?_)
  (have hQ := alloc_post hwn; rw [← hQn] at hQ; have hq := alloc_ne h0; rw [← hQn] at hq; have hqB := hB.size; rw [← hQn] at hqB; (try (have hpq := alloc_ne hP; rw [← hQn] at hpq; have hP := alloc_keep hwn hP)); have h0 := alloc_keep hwn h0; have hB := alloc_below hwn hB hB.size; clear hwn hQn)
  refine And.intro (by exact cells_all h0) ?_
  refine wpT_alone rfl ?_
  focus ((try simp only [List.getElem_toArray, List.getElem_cons_succ, List.getElem_cons_zero]); refine wpList_storeObj rfl _ _ rfl P rfl o rfl _ hP rfl ?_; go_wp2)
  refine QS_abs (fun wn hwn => ?_)
  (have hB := (show Below w.heap.size w wn by rw [hwn]; exact wset_below hB hpB); have h0 := wset_keep hwn h0 hp; have hQ := wset_keep hwn hQ hpq.symm; have hP := wset_post hwn (Array.getElem?_eq_some_iff.1 hP).1; clear hwn)
  refine And.intro (by exact cells_all h0) ?_
  refine wpT_alone rfl ?_
  focus ((try simp only [List.getElem_toArray, List.getElem_cons_succ, List.getElem_cons_zero]); refine wpList_storeObj rfl _ _ rfl Q rfl o rfl _ hQ rfl ?_; go_wp2)
  refine QS_abs (fun wn hwn => ?_)
  (have hB := (show Below w.heap.size w wn by rw [hwn]; exact wset_below hB hqB); have h0 := wset_keep hwn h0 hq; have hP := wset_keep hwn hP hpq; have hQ := wset_post hwn (Array.getElem?_eq_some_iff.1 hQ).1; clear hwn)
  refine And.intro (by exact cells_all h0) ?_
  refine wpT_end ?_
  rotate_left
  focus (obtain ⟨Q, hQn⟩ : ∃ Q, Q = wn.heap.size := ⟨_, rfl⟩; go_wp2; rw [← hQn])
  refine QS_abs (fun wn hwn => ?_)
  (have hQ := alloc_post hwn; rw [← hQn] at hQ; have hq := alloc_ne h0; rw [← hQn] at hq; have hqB := hB.size; rw [← hQn] at hqB; (try (have hpq := alloc_ne hP; rw [← hQn] at hpq; have hP := alloc_keep hwn hP)); have h0 := alloc_keep hwn h0; have hB := alloc_below hwn hB hB.size; clear hwn hQn)
  refine And.intro (by exact cells_all h0) ?_
  refine wpT_alone rfl ?_
  focus (obtain ⟨P, hPn⟩ : ∃ P, P = wn.heap.size := ⟨_, rfl⟩; go_wp2; rw [← hPn])
  refine QS_abs (fun wn hwn => ?_)
  (have hP := alloc_post hwn; rw [← hPn] at hP; have hp := alloc_ne h0; rw [← hPn] at hp; have hpB := hB.size; rw [← hPn] at hpB; (try (have hpq := (alloc_ne hQ).symm; rw [← hPn] at hpq; have hQ := alloc_keep hwn hQ)); have h0 := alloc_keep hwn h0; have hB := alloc_below hwn hB hB.size; clear hwn hPn)
  refine And.intro (by exact cells_all h0) ?_
  refine wpT_alone rfl ?_
  focus ((try simp only [List.getElem_toArray, List.getElem_cons_succ, List.getElem_cons_zero]); refine wpList_storeObj rfl _ _ rfl P rfl o rfl _ hP rfl ?_; go_wp2)
  refine QS_abs (fun wn hwn => ?_)
  (have hB := (show Below w.heap.size w wn by rw [hwn]; exact wset_below hB hpB); have h0 := wset_keep hwn h0 hp; have hQ := wset_keep hwn hQ hpq.symm; have hP := wset_post hwn (Array.getElem?_eq_some_iff.1 hP).1; clear hwn)
  refine And.intro (by exact cells_all h0) ?_
  refine wpT_alone rfl ?_
  focus ((try simp only [List.getElem_toArray, List.getElem_cons_succ, List.getElem_cons_zero]); refine wpList_storeObj rfl _ _ rfl Q rfl o rfl _ hQ rfl ?_; go_wp2)
  refine QS_abs (fun wn hwn => ?_)
  (have hB := (show Below w.heap.size w wn by rw [hwn]; exact wset_below hB hqB); have h0 := wset_keep hwn h0 hq; have hP := wset_keep hwn hP hpq; have hQ := wset_post hwn (Array.getElem?_eq_some_iff.1 hQ).1; clear hwn)
  refine And.intro (by exact cells_all h0) ?_
  refine wpT_end ?_
  rotate_left
  all_goals have x19 := (cells_all hP 19).trans (show (cellsO o)[19]? = some (.int .u64 o.tag) from rfl)
  all_goals have y19 := frozen_all hP 19
  all_goals have x11 := (cells_all hQ 11).trans (show (cellsO o)[11]? = some (.bool o.wait) from rfl)
  all_goals have y11 := frozen_all hQ 11
  all_goals go_upto_region 4 with fail
  all_goals have S0 := Lib.hid (B3.made (t := t) h0 hP hQ hpq hp hq hpB hqB hB)
  all_goals clear h0 hP hQ hpq hp hq hpB hqB hB x19 y19 x11 y11
  all_goals generalize (wn.setCell ⟨P, 19, none⟩ (.int .u64 t)).setCell ⟨Q, 11, none⟩ (.bool true) = W3 at *
  all_goals have s0 := S0.out.o
  all_goals go_wp2_with (refine wpList_loadObjG rfl _ rfl _ rfl o s0 ?_)
  all_goals refine (right_any o _ HF.out).mono ?_
  all_goals rintro e w1 ⟨rfl, hb1⟩
  all_goals have S1 := Lib.hid (S0.out.next hb1)
  all_goals clear hb1 s0 S0
  all_goals rw [HR.out]
  all_goals go_upto_region 6 with fail
  all_goals have hcur := S1.out.drew
  all_goals have hk0 : (cellsO o)[0]? = some (.int .u8 o.kind) := rfl
  all_goals clear S1
  · skip
    refine wp_region_tree (fun w' => (∀ k, w'.cell? ⟨P, k, none⟩ = (cellsO ({ o with tag := t } : Obj))[k]?) ∧ (∀ k, w'.cell? ⟨Q, k, none⟩ = (cellsO ({ o with wait := true } : Obj))[k]?) ∧ (w'.cell? ⟨w.heap.size, 0, none⟩ = some (.int .u8 o.kind))) (.a 0 (.t 1 (.t 2 (.t 4 (.t 5 (.a 3 (.t 6 (.t 7 (.t 8 (.t 9 (.t 10 (.t 11 (.t 12 (.t 13 (.t 14 (.t 16 (.t 17 (.t 18 (.a 15 (.t 19 (.t 20 (.t 21 .nil)))))))))))))))))))))) (by kernel_rfl) (by kernel_rfl) (by kernel_rfl) ?_ ?_
    · exact ⟨by first | exact hcur.x | exact hcur.y | exact (hcur.o 0).trans hk0, by first | exact hcur.x | exact hcur.y | exact (hcur.o 0).trans hk0, by first | exact hcur.x | exact hcur.y | exact (hcur.o 0).trans hk0⟩
    refine wpT_alone rfl ?_
    focus (go_wp2_with fail; refine (live_any _).mono ?_; rintro e w2 ⟨rfl, hb2⟩; have hcur := hcur.next hb2; clear hb2; go_wp2)
    refine QS_normal ⟨by first | exact hcur.x | exact hcur.y | exact (hcur.o 0).trans hk0, by first | exact hcur.x | exact hcur.y | exact (hcur.o 0).trans hk0, by first | exact hcur.x | exact hcur.y | exact (hcur.o 0).trans hk0⟩ (fun _ => ?_)
    apply wpT_takeK rfl _ (by first | rfl | (simp [Region.wanted, yielded]; done))
    · intro w' hS
      obtain ⟨s0, s1, s2⟩ := hS
      skip
      go_simp
      try rfl
    intro K hK
    go_simp
    refine hK _ ?_
    clear hK K
    refine wpT_takeK rfl (.agg (cellsO ({ o with tag := t } : Obj))) (by first | rfl | (simp [Region.wanted, yielded]; done)) ?_ ?_
    · intro w' hS
      obtain ⟨s0, s1, s2⟩ := hS
      exact exec_loadObj _ rfl rfl s0
    intro K hK
    go_simp
    refine hK _ ?_
    clear hK K
    apply wpT_takeK rfl _ (by first | rfl | (simp [Region.wanted, yielded]; done))
    · intro w' hS
      obtain ⟨s0, s1, s2⟩ := hS
      skip
      go_simp
      try rfl
    intro K hK
    go_simp
    refine hK _ ?_
    clear hK K
    apply wpT_takeK rfl _ (by first | rfl | (simp [Region.wanted, yielded]; done))
    · intro w' hS
      obtain ⟨s0, s1, s2⟩ := hS
      skip
      go_simp
      try rfl
    intro K hK
    go_simp
    refine hK _ ?_
    clear hK K
    refine wpT_alone rfl ?_
    focus (go_wp2_with fail; refine (right_any _ _ HFX.out).mono ?_; rintro e w3 ⟨rfl, hb3⟩; have hcur := hcur.next hb3; clear hb3; rw [HRX.out]; go_wp2)
    refine QS_normal ⟨by first | exact hcur.x | exact hcur.y | exact (hcur.o 0).trans hk0, by first | exact hcur.x | exact hcur.y | exact (hcur.o 0).trans hk0, by first | exact hcur.x | exact hcur.y | exact (hcur.o 0).trans hk0⟩ (fun _ => ?_)
    apply wpT_takeK rfl _ (by first | rfl | (simp [Region.wanted, yielded]; done))
    · intro w' hS
      obtain ⟨s0, s1, s2⟩ := hS
      skip
      go_simp
      try rfl
    intro K hK
    go_simp
    refine hK _ ?_
    clear hK K
    refine wpT_skipT rfl (by first | rfl | (simp [Region.wanted, yielded]; done)) ?_
    intro K hK
    go_simp
    refine hK _ ?_
    clear hK K
    refine wpT_skipT rfl (by first | rfl | (simp [Region.wanted, yielded]; done)) ?_
    intro K hK
    go_simp
    refine hK _ ?_
    clear hK K
    refine wpT_skipT rfl (by first | rfl | (simp [Region.wanted, yielded]; done)) ?_
    intro K hK
    go_simp
    refine hK _ ?_
    clear hK K
    apply wpT_takeK rfl _ (by first | rfl | (simp [Region.wanted, yielded]; done))
    · intro w' hS
      obtain ⟨s0, s1, s2⟩ := hS
      skip
      go_simp
      try rfl
    intro K hK
    go_simp
    refine hK _ ?_
    clear hK K
    apply wpT_takeK rfl _ (by first | rfl | (simp [Region.wanted, yielded]; done))
    · intro w' hS
      obtain ⟨s0, s1, s2⟩ := hS
      skip
      go_simp
      try rfl
    intro K hK
    go_simp
    refine hK _ ?_
    clear hK K
    apply wpT_takeK rfl _ (by first | rfl | (simp [Region.wanted, yielded]; done))
    · intro w' hS
      obtain ⟨s0, s1, s2⟩ := hS
      skip
      go_simp
      try rfl
    intro K hK
    go_simp
    refine hK _ ?_
    clear hK K
    apply wpT_takeK rfl _ (by first | rfl | (simp [Region.wanted, yielded]; done))
    · intro w' hS
      obtain ⟨s0, s1, s2⟩ := hS
      skip
      go_simp
      try rfl
    intro K hK
    go_simp
    refine hK _ ?_
    clear hK K
    refine wpT_takeK rfl (.agg (cellsO ({ o with wait := true } : Obj))) (by first | rfl | (simp [Region.wanted, yielded]; done)) ?_ ?_
    · intro w' hS
      obtain ⟨s0, s1, s2⟩ := hS
      exact exec_loadObj _ rfl rfl s1
    intro K hK
    go_simp
    refine hK _ ?_
    clear hK K
    apply wpT_takeK rfl _ (by first | rfl | (simp [Region.wanted, yielded]; done))
    · intro w' hS
      obtain ⟨s0, s1, s2⟩ := hS
      skip
      go_simp
      try rfl
    intro K hK
    go_simp
    refine hK _ ?_
    clear hK K
    apply wpT_takeK rfl _ (by first | rfl | (simp [Region.wanted, yielded]; done))
    · intro w' hS
      obtain ⟨s0, s1, s2⟩ := hS
      skip
      go_simp
      try rfl
    intro K hK
    go_simp
    refine hK _ ?_
    clear hK K
    apply wpT_takeK rfl _ (by first | rfl | (simp [Region.wanted, yielded]; done))
    · intro w' hS
      obtain ⟨s0, s1, s2⟩ := hS
      skip
      go_simp
      try rfl
    intro K hK
    go_simp
    refine hK _ ?_
    clear hK K
    refine wpT_alone rfl ?_
    focus (go_wp2_with fail; refine (right_any _ _ HFY.out).mono ?_; rintro e w4 ⟨rfl, hb4⟩; have hcur := hcur.next hb4; clear hb4; rw [HRY.out]; go_wp2)
    refine QS_normal ⟨by first | exact hcur.x | exact hcur.y | exact (hcur.o 0).trans hk0, by first | exact hcur.x | exact hcur.y | exact (hcur.o 0).trans hk0, by first | exact hcur.x | exact hcur.y | exact (hcur.o 0).trans hk0⟩ (fun _ => ?_)
    apply wpT_takeK rfl _ (by first | rfl | (simp [Region.wanted, yielded]; done))
    · intro w' hS
      obtain ⟨s0, s1, s2⟩ := hS
      skip
      go_simp
      try rfl
    intro K hK
    go_simp
    refine hK _ ?_
    clear hK K
    apply wpT_takeK rfl _ (by first | rfl | (simp [Region.wanted, yielded]; done))
    · intro w' hS
      obtain ⟨s0, s1, s2⟩ := hS
      skip
      go_simp
      try rfl
    intro K hK
    go_simp
    refine hK _ ?_
    clear hK K
    apply wpT_takeK rfl _ (by first | rfl | (simp [Region.wanted, yielded]; done))
    · intro w' hS
      obtain ⟨s0, s1, s2⟩ := hS
      skip
      go_simp
      try rfl
    intro K hK
    go_simp
    refine hK _ ?_
    clear hK K
    refine wpT_end ?_
    go_wp2
    go_ret
    exact ⟨ret_bool (by simp), hcur.b⟩
  · skip
    refine wp_region_tree (fun w' => (∀ k, w'.cell? ⟨P, k, none⟩ = (cellsO ({ o with tag := t } : Obj))[k]?) ∧ (∀ k, w'.cell? ⟨Q, k, none⟩ = (cellsO ({ o with wait := true } : Obj))[k]?) ∧ (w'.cell? ⟨w.heap.size, 0, none⟩ = some (.int .u8 o.kind))) (.a 0 (.t 1 (.t 2 (.t 4 (.t 5 (.a 3 (.t 6 (.t 7 (.t 8 (.t 9 (.t 10 (.t 11 (.t 12 (.t 13 (.t 14 (.t 16 (.t 17 (.t 18 (.a 15 (.t 19 (.t 20 (.t 21 .nil)))))))))))))))))))))) (by kernel_rfl) (by kernel_rfl) (by kernel_rfl) ?_ ?_
    · exact ⟨by first | exact hcur.x | exact hcur.y | exact (hcur.o 0).trans hk0, by first | exact hcur.x | exact hcur.y | exact (hcur.o 0).trans hk0, by first | exact hcur.x | exact hcur.y | exact (hcur.o 0).trans hk0⟩
    refine wpT_alone rfl ?_
    focus (go_wp2_with fail; refine (live_any _).mono ?_; rintro e w2 ⟨rfl, hb2⟩; have hcur := hcur.next hb2; clear hb2; go_wp2)
    refine QS_normal ⟨by first | exact hcur.x | exact hcur.y | exact (hcur.o 0).trans hk0, by first | exact hcur.x | exact hcur.y | exact (hcur.o 0).trans hk0, by first | exact hcur.x | exact hcur.y | exact (hcur.o 0).trans hk0⟩ (fun _ => ?_)
    apply wpT_takeK rfl _ (by first | rfl | (simp [Region.wanted, yielded]; done))
    · intro w' hS
      obtain ⟨s0, s1, s2⟩ := hS
      skip
      go_simp
      try rfl
    intro K hK
    go_simp
    refine hK _ ?_
    clear hK K
    refine wpT_takeK rfl (.agg (cellsO ({ o with tag := t } : Obj))) (by first | rfl | (simp [Region.wanted, yielded]; done)) ?_ ?_
    · intro w' hS
      obtain ⟨s0, s1, s2⟩ := hS
      exact exec_loadObj _ rfl rfl s0
    intro K hK
    go_simp
    refine hK _ ?_
    clear hK K
    apply wpT_takeK rfl _ (by first | rfl | (simp [Region.wanted, yielded]; done))
    · intro w' hS
      obtain ⟨s0, s1, s2⟩ := hS
      skip
      go_simp
      try rfl
    intro K hK
    go_simp
    refine hK _ ?_
    clear hK K
    apply wpT_takeK rfl _ (by first | rfl | (simp [Region.wanted, yielded]; done))
    · intro w' hS
      obtain ⟨s0, s1, s2⟩ := hS
      skip
      go_simp
      try rfl
    intro K hK
    go_simp
    refine hK _ ?_
    clear hK K
    refine wpT_alone rfl ?_
    focus (go_wp2_with fail; refine (right_any _ _ HFX.out).mono ?_; rintro e w3 ⟨rfl, hb3⟩; have hcur := hcur.next hb3; clear hb3; rw [HRX.out]; go_wp2)
    refine QS_normal ⟨by first | exact hcur.x | exact hcur.y | exact (hcur.o 0).trans hk0, by first | exact hcur.x | exact hcur.y | exact (hcur.o 0).trans hk0, by first | exact hcur.x | exact hcur.y | exact (hcur.o 0).trans hk0⟩ (fun _ => ?_)
    apply wpT_takeK rfl _ (by first | rfl | (simp [Region.wanted, yielded]; done))
    · intro w' hS
      obtain ⟨s0, s1, s2⟩ := hS
      skip
      go_simp
      try rfl
    intro K hK
    go_simp
    refine hK _ ?_
    clear hK K
    refine wpT_skipT rfl (by first | rfl | (simp [Region.wanted, yielded]; done)) ?_
    intro K hK
    go_simp
    refine hK _ ?_
    clear hK K
    refine wpT_skipT rfl (by first | rfl | (simp [Region.wanted, yielded]; done)) ?_
    intro K hK
    go_simp
    refine hK _ ?_
    clear hK K
    refine wpT_skipT rfl (by first | rfl | (simp [Region.wanted, yielded]; done)) ?_
    intro K hK
    go_simp
    refine hK _ ?_
    clear hK K
    apply wpT_takeK rfl _ (by first | rfl | (simp [Region.wanted, yielded]; done))
    · intro w' hS
      obtain ⟨s0, s1, s2⟩ := hS
      skip
      go_simp
      try rfl
    intro K hK
    go_simp
    refine hK _ ?_
    clear hK K
    apply wpT_takeK rfl _ (by first | rfl | (simp [Region.wanted, yielded]; done))
    · intro w' hS
      obtain ⟨s0, s1, s2⟩ := hS
      skip
      go_simp
      try rfl
    intro K hK
    go_simp
    refine hK _ ?_
    clear hK K
    apply wpT_takeK rfl _ (by first | rfl | (simp [Region.wanted, yielded]; done))
    · intro w' hS
      obtain ⟨s0, s1, s2⟩ := hS
      skip
      go_simp
      try rfl
    intro K hK
    go_simp
    refine hK _ ?_
    clear hK K
    apply wpT_takeK rfl _ (by first | rfl | (simp [Region.wanted, yielded]; done))
    · intro w' hS
      obtain ⟨s0, s1, s2⟩ := hS
      skip
      go_simp
      try rfl
    intro K hK
    go_simp
    refine hK _ ?_
    clear hK K
    refine wpT_takeK rfl (.agg (cellsO ({ o with wait := true } : Obj))) (by first | rfl | (simp [Region.wanted, yielded]; done)) ?_ ?_
    · intro w' hS
      obtain ⟨s0, s1, s2⟩ := hS
      exact exec_loadObj _ rfl rfl s1
    intro K hK
    go_simp
    refine hK _ ?_
    clear hK K
    apply wpT_takeK rfl _ (by first | rfl | (simp [Region.wanted, yielded]; done))
    · intro w' hS
      obtain ⟨s0, s1, s2⟩ := hS
      skip
      go_simp
      try rfl
    intro K hK
    go_simp
    refine hK _ ?_
    clear hK K
    apply wpT_takeK rfl _ (by first | rfl | (simp [Region.wanted, yielded]; done))
    · intro w' hS
      obtain ⟨s0, s1, s2⟩ := hS
      skip
      go_simp
      try rfl
    intro K hK
    go_simp
    refine hK _ ?_
    clear hK K
    apply wpT_takeK rfl _ (by first | rfl | (simp [Region.wanted, yielded]; done))
    · intro w' hS
      obtain ⟨s0, s1, s2⟩ := hS
      skip
      go_simp
      try rfl
    intro K hK
    go_simp
    refine hK _ ?_
    clear hK K
    refine wpT_alone rfl ?_
    focus (go_wp2_with fail; refine (right_any _ _ HFY.out).mono ?_; rintro e w4 ⟨rfl, hb4⟩; have hcur := hcur.next hb4; clear hb4; rw [HRY.out]; go_wp2)
    refine QS_normal ⟨by first | exact hcur.x | exact hcur.y | exact (hcur.o 0).trans hk0, by first | exact hcur.x | exact hcur.y | exact (hcur.o 0).trans hk0, by first | exact hcur.x | exact hcur.y | exact (hcur.o 0).trans hk0⟩ (fun _ => ?_)
    apply wpT_takeK rfl _ (by first | rfl | (simp [Region.wanted, yielded]; done))
    · intro w' hS
      obtain ⟨s0, s1, s2⟩ := hS
      skip
      go_simp
      try rfl
    intro K hK
    go_simp
    refine hK _ ?_
    clear hK K
    apply wpT_takeK rfl _ (by first | rfl | (simp [Region.wanted, yielded]; done))
    · intro w' hS
      obtain ⟨s0, s1, s2⟩ := hS
      skip
      go_simp
      try rfl
    intro K hK
    go_simp
    refine hK _ ?_
    clear hK K
    apply wpT_takeK rfl _ (by first | rfl | (simp [Region.wanted, yielded]; done))
    · intro w' hS
      obtain ⟨s0, s1, s2⟩ := hS
      skip
      go_simp
      try rfl
    intro K hK
    go_simp
    refine hK _ ?_
    clear hK K
    refine wpT_end ?_
    go_wp2
    go_ret
    exact ⟨ret_bool (by simp), hcur.b⟩

set_option maxRecDepth 100000 in
set_option maxHeartbeats 8000000 in
theorem walkN (o : Obj) (t : Int) (w : World) (hf : o.Fits) (hr : rightB o = true) (ht : ¬ t = 0) : Calls Try.prog 6 #[.agg (cellsO o), .int .u64 t] w fun e w' => e = .returned (.bool true) ∧ Below w.heap.size w w' := by
  have HF := Lib.hid hf
  have HFX := Lib.hid (show ({ o with tag := t } : Obj).Fits from ⟨hf.1, hf.2⟩)
  have HFY := Lib.hid (show ({ o with wait := true } : Obj).Fits from ⟨hf.1, hf.2⟩)
  have HR := Lib.hid hr
  have HRX := Lib.hid (show rightB ({ o with tag := t } : Obj) = (o.kind == 7) by rw [bare_tag t hr]; simp [ht])
  have HRY := Lib.hid (bare_wait hr)
  have ht0 : (t == 0) = false := by simp [ht]
  clear hr ht
  clear hf
  have h0 : (w.alloc (.cells (cellsO o) 27)).drew.heap[w.heap.size]? = some (.cells (cellsO o) 27) := heap_alloc_eq
  have hB := ((Below.refl w.heap.size w).alloc (Nat.le_refl _) (.cells (cellsO o) 27)).drew
  go_enter Try.func6, Try.ntmps6
  go_wp2
  refine wp_region_tree (fun w' => (∀ k, w'.cell? ⟨w.heap.size, k, none⟩ = (cellsO o)[k]?)) (.t 0 (.t 1 (.f 2 (.a 3 (.a 4 (.a 5 .nil))) 3 (.a 2 (.a 4 (.a 5 .nil)))))) (by kernel_rfl) (by kernel_rfl) (by kernel_rfl) ?_ ?_
  · exact (by exact cells_all h0)
  (generalize (w.alloc (.cells (cellsO o) 27)).drew = wn at *)
  refine wpT_takeK rfl (.agg (cellsO o)) (by first | rfl | (simp [Region.wanted, yielded]; done)) ?_ ?_
  · intro w' hS
    have s0 := hS
    exact exec_loadObj o rfl rfl s0
  intro K hK
  go_simp
  refine hK _ ?_
  clear hK K
  refine wpT_takeK rfl (.agg (cellsO o)) (by first | rfl | (simp [Region.wanted, yielded]; done)) ?_ ?_
  · intro w' hS
    have s0 := hS
    exact exec_loadObj o rfl rfl s0
  intro K hK
  go_simp
  refine hK _ ?_
  clear hK K
  refine wpT_fork rfl rfl ?_ ?_
  focus (obtain ⟨P, hPn⟩ : ∃ P, P = wn.heap.size := ⟨_, rfl⟩; go_wp2; rw [← hPn])
  refine QS_abs (fun wn hwn => ?_)
  (have hP := alloc_post hwn; rw [← hPn] at hP; have hp := alloc_ne h0; rw [← hPn] at hp; have hpB := hB.size; rw [← hPn] at hpB; (try (have hpq := (alloc_ne hQ).symm; rw [← hPn] at hpq; have hQ := alloc_keep hwn hQ)); have h0 := alloc_keep hwn h0; have hB := alloc_below hwn hB hB.size; clear hwn hPn)
  refine And.intro (by exact cells_all h0) ?_
  refine wpT_alone rfl ?_
  focus (obtain ⟨Q, hQn⟩ : ∃ Q, Q = wn.heap.size := ⟨_, rfl⟩; go_wp2; rw [← hQn])
  refine QS_abs (fun wn hwn => ?_)
  (have hQ := alloc_post hwn; rw [← hQn] at hQ; have hq := alloc_ne h0; rw [← hQn] at hq; have hqB := hB.size; rw [← hQn] at hqB; (try (have hpq := alloc_ne hP; rw [← hQn] at hpq; have hP := alloc_keep hwn hP)); have h0 := alloc_keep hwn h0; have hB := alloc_below hwn hB hB.size; clear hwn hQn)
  refine And.intro (by exact cells_all h0) ?_
  refine wpT_alone rfl ?_
  focus ((try simp only [List.getElem_toArray, List.getElem_cons_succ, List.getElem_cons_zero]); refine wpList_storeObj rfl _ _ rfl P rfl o rfl _ hP rfl ?_; go_wp2)
  refine QS_abs (fun wn hwn => ?_)
  (have hB := (show Below w.heap.size w wn by rw [hwn]; exact wset_below hB hpB); have h0 := wset_keep hwn h0 hp; have hQ := wset_keep hwn hQ hpq.symm; have hP := wset_post hwn (Array.getElem?_eq_some_iff.1 hP).1; clear hwn)
  refine And.intro (by exact cells_all h0) ?_
  refine wpT_alone rfl ?_
  focus ((try simp only [List.getElem_toArray, List.getElem_cons_succ, List.getElem_cons_zero]); refine wpList_storeObj rfl _ _ rfl Q rfl o rfl _ hQ rfl ?_; go_wp2)
  refine QS_abs (fun wn hwn => ?_)
  (have hB := (show Below w.heap.size w wn by rw [hwn]; exact wset_below hB hqB); have h0 := wset_keep hwn h0 hq; have hP := wset_keep hwn hP hpq; have hQ := wset_post hwn (Array.getElem?_eq_some_iff.1 hQ).1; clear hwn)
  refine And.intro (by exact cells_all h0) ?_
  refine wpT_end ?_
  rotate_left
  focus (obtain ⟨Q, hQn⟩ : ∃ Q, Q = wn.heap.size := ⟨_, rfl⟩; go_wp2; rw [← hQn])
  refine QS_abs (fun wn hwn => ?_)
  (have hQ := alloc_post hwn; rw [← hQn] at hQ; have hq := alloc_ne h0; rw [← hQn] at hq; have hqB := hB.size; rw [← hQn] at hqB; (try (have hpq := alloc_ne hP; rw [← hQn] at hpq; have hP := alloc_keep hwn hP)); have h0 := alloc_keep hwn h0; have hB := alloc_below hwn hB hB.size; clear hwn hQn)
  refine And.intro (by exact cells_all h0) ?_
  refine wpT_alone rfl ?_
  focus (obtain ⟨P, hPn⟩ : ∃ P, P = wn.heap.size := ⟨_, rfl⟩; go_wp2; rw [← hPn])
  refine QS_abs (fun wn hwn => ?_)
  (have hP := alloc_post hwn; rw [← hPn] at hP; have hp := alloc_ne h0; rw [← hPn] at hp; have hpB := hB.size; rw [← hPn] at hpB; (try (have hpq := (alloc_ne hQ).symm; rw [← hPn] at hpq; have hQ := alloc_keep hwn hQ)); have h0 := alloc_keep hwn h0; have hB := alloc_below hwn hB hB.size; clear hwn hPn)
  refine And.intro (by exact cells_all h0) ?_
  refine wpT_alone rfl ?_
  focus ((try simp only [List.getElem_toArray, List.getElem_cons_succ, List.getElem_cons_zero]); refine wpList_storeObj rfl _ _ rfl P rfl o rfl _ hP rfl ?_; go_wp2)
  refine QS_abs (fun wn hwn => ?_)
  (have hB := (show Below w.heap.size w wn by rw [hwn]; exact wset_below hB hpB); have h0 := wset_keep hwn h0 hp; have hQ := wset_keep hwn hQ hpq.symm; have hP := wset_post hwn (Array.getElem?_eq_some_iff.1 hP).1; clear hwn)
  refine And.intro (by exact cells_all h0) ?_
  refine wpT_alone rfl ?_
  focus ((try simp only [List.getElem_toArray, List.getElem_cons_succ, List.getElem_cons_zero]); refine wpList_storeObj rfl _ _ rfl Q rfl o rfl _ hQ rfl ?_; go_wp2)
  refine QS_abs (fun wn hwn => ?_)
  (have hB := (show Below w.heap.size w wn by rw [hwn]; exact wset_below hB hqB); have h0 := wset_keep hwn h0 hq; have hP := wset_keep hwn hP hpq; have hQ := wset_post hwn (Array.getElem?_eq_some_iff.1 hQ).1; clear hwn)
  refine And.intro (by exact cells_all h0) ?_
  refine wpT_end ?_
  rotate_left
  all_goals have x19 := (cells_all hP 19).trans (show (cellsO o)[19]? = some (.int .u64 o.tag) from rfl)
  all_goals have y19 := frozen_all hP 19
  all_goals have x11 := (cells_all hQ 11).trans (show (cellsO o)[11]? = some (.bool o.wait) from rfl)
  all_goals have y11 := frozen_all hQ 11
  all_goals go_upto_region 4 with fail
  all_goals have S0 := Lib.hid (B3.made (t := t) h0 hP hQ hpq hp hq hpB hqB hB)
  all_goals clear h0 hP hQ hpq hp hq hpB hqB hB x19 y19 x11 y11
  all_goals generalize (wn.setCell ⟨P, 19, none⟩ (.int .u64 t)).setCell ⟨Q, 11, none⟩ (.bool true) = W3 at *
  all_goals have s0 := S0.out.o
  all_goals go_wp2_with (refine wpList_loadObjG rfl _ rfl _ rfl o s0 ?_)
  all_goals refine (right_any o _ HF.out).mono ?_
  all_goals rintro e w1 ⟨rfl, hb1⟩
  all_goals have S1 := Lib.hid (S0.out.next hb1)
  all_goals clear hb1 s0 S0
  all_goals rw [HR.out]
  all_goals go_upto_region 6 with fail
  all_goals have hcur := S1.out.drew
  all_goals have hk0 : (cellsO o)[0]? = some (.int .u8 o.kind) := rfl
  all_goals clear S1
  · skip
    refine wp_region_tree (fun w' => (∀ k, w'.cell? ⟨P, k, none⟩ = (cellsO ({ o with tag := t } : Obj))[k]?) ∧ (∀ k, w'.cell? ⟨Q, k, none⟩ = (cellsO ({ o with wait := true } : Obj))[k]?) ∧ (w'.cell? ⟨w.heap.size, 0, none⟩ = some (.int .u8 o.kind))) (.a 0 (.t 1 (.t 2 (.t 4 (.t 5 (.a 3 (.t 6 (.t 7 (.t 8 (.t 9 (.t 10 (.t 11 (.t 12 (.t 13 (.t 14 (.t 16 (.t 17 (.t 18 (.a 15 (.t 19 (.t 20 (.t 21 .nil)))))))))))))))))))))) (by kernel_rfl) (by kernel_rfl) (by kernel_rfl) ?_ ?_
    · exact ⟨by first | exact hcur.x | exact hcur.y | exact (hcur.o 0).trans hk0, by first | exact hcur.x | exact hcur.y | exact (hcur.o 0).trans hk0, by first | exact hcur.x | exact hcur.y | exact (hcur.o 0).trans hk0⟩
    refine wpT_alone rfl ?_
    focus (go_wp2_with fail; refine (live_any _).mono ?_; rintro e w2 ⟨rfl, hb2⟩; have hcur := hcur.next hb2; clear hb2; go_wp2)
    refine QS_normal ⟨by first | exact hcur.x | exact hcur.y | exact (hcur.o 0).trans hk0, by first | exact hcur.x | exact hcur.y | exact (hcur.o 0).trans hk0, by first | exact hcur.x | exact hcur.y | exact (hcur.o 0).trans hk0⟩ (fun _ => ?_)
    apply wpT_takeK rfl _ (by first | rfl | (simp [Region.wanted, yielded]; done))
    · intro w' hS
      obtain ⟨s0, s1, s2⟩ := hS
      skip
      go_simp
      try rfl
    intro K hK
    go_simp
    refine hK _ ?_
    clear hK K
    refine wpT_takeK rfl (.agg (cellsO ({ o with tag := t } : Obj))) (by first | rfl | (simp [Region.wanted, yielded]; done)) ?_ ?_
    · intro w' hS
      obtain ⟨s0, s1, s2⟩ := hS
      exact exec_loadObj _ rfl rfl s0
    intro K hK
    go_simp
    refine hK _ ?_
    clear hK K
    apply wpT_takeK rfl _ (by first | rfl | (simp [Region.wanted, yielded]; done))
    · intro w' hS
      obtain ⟨s0, s1, s2⟩ := hS
      skip
      go_simp
      try rfl
    intro K hK
    go_simp
    refine hK _ ?_
    clear hK K
    apply wpT_takeK rfl _ (by first | rfl | (simp [Region.wanted, yielded]; done))
    · intro w' hS
      obtain ⟨s0, s1, s2⟩ := hS
      skip
      go_simp
      try rfl
    intro K hK
    go_simp
    refine hK _ ?_
    clear hK K
    refine wpT_alone rfl ?_
    focus (go_wp2_with fail; refine (right_any _ _ HFX.out).mono ?_; rintro e w3 ⟨rfl, hb3⟩; have hcur := hcur.next hb3; clear hb3; rw [HRX.out]; go_wp2)
    refine QS_normal ⟨by first | exact hcur.x | exact hcur.y | exact (hcur.o 0).trans hk0, by first | exact hcur.x | exact hcur.y | exact (hcur.o 0).trans hk0, by first | exact hcur.x | exact hcur.y | exact (hcur.o 0).trans hk0⟩ (fun _ => ?_)
    apply wpT_takeK rfl _ (by first | rfl | (simp [Region.wanted, yielded]; done))
    · intro w' hS
      obtain ⟨s0, s1, s2⟩ := hS
      skip
      go_simp
      try rfl
    intro K hK
    go_simp
    refine hK _ ?_
    clear hK K
    apply wpT_takeK rfl _ (by first | rfl | (simp [Region.wanted, yielded]; done))
    · intro w' hS
      obtain ⟨s0, s1, s2⟩ := hS
      skip
      go_simp
      try rfl
    intro K hK
    go_simp
    refine hK _ ?_
    clear hK K
    apply wpT_takeK rfl _ (by first | rfl | (simp [Region.wanted, yielded]; done))
    · intro w' hS
      obtain ⟨s0, s1, s2⟩ := hS
      skip
      go_simp
      try rfl
    intro K hK
    go_simp
    refine hK _ ?_
    clear hK K
    apply wpT_takeK rfl _ (by first | rfl | (simp [Region.wanted, yielded]; done))
    · intro w' hS
      obtain ⟨s0, s1, s2⟩ := hS
      skip
      go_simp
      try rfl
    intro K hK
    go_simp
    refine hK _ ?_
    clear hK K
    apply wpT_takeK rfl _ (by first | rfl | (simp [Region.wanted, yielded]; done))
    · intro w' hS
      obtain ⟨s0, s1, s2⟩ := hS
      skip
      go_simp
      try rfl
    intro K hK
    go_simp
    refine hK _ ?_
    clear hK K
    apply wpT_takeK rfl _ (by first | rfl | (simp [Region.wanted, yielded]; done))
    · intro w' hS
      obtain ⟨s0, s1, s2⟩ := hS
      skip
      go_simp
      try rfl
    intro K hK
    go_simp
    refine hK _ ?_
    clear hK K
    apply wpT_takeK rfl _ (by first | rfl | (simp [Region.wanted, yielded]; done))
    · intro w' hS
      obtain ⟨s0, s1, s2⟩ := hS
      skip
      go_simp
      try rfl
    intro K hK
    go_simp
    refine hK _ ?_
    clear hK K
    apply wpT_takeK rfl _ (by first | rfl | (simp [Region.wanted, yielded]; done))
    · intro w' hS
      obtain ⟨s0, s1, s2⟩ := hS
      skip
      go_simp
      try rfl
    intro K hK
    go_simp
    refine hK _ ?_
    clear hK K
    refine wpT_takeK rfl (.agg (cellsO ({ o with wait := true } : Obj))) (by first | rfl | (simp [Region.wanted, yielded]; done)) ?_ ?_
    · intro w' hS
      obtain ⟨s0, s1, s2⟩ := hS
      exact exec_loadObj _ rfl rfl s1
    intro K hK
    go_simp
    refine hK _ ?_
    clear hK K
    apply wpT_takeK rfl _ (by first | rfl | (simp [Region.wanted, yielded]; done))
    · intro w' hS
      obtain ⟨s0, s1, s2⟩ := hS
      skip
      go_simp
      try rfl
    intro K hK
    go_simp
    refine hK _ ?_
    clear hK K
    apply wpT_takeK rfl _ (by first | rfl | (simp [Region.wanted, yielded]; done))
    · intro w' hS
      obtain ⟨s0, s1, s2⟩ := hS
      skip
      go_simp
      try rfl
    intro K hK
    go_simp
    refine hK _ ?_
    clear hK K
    apply wpT_takeK rfl _ (by first | rfl | (simp [Region.wanted, yielded]; done))
    · intro w' hS
      obtain ⟨s0, s1, s2⟩ := hS
      skip
      go_simp
      try rfl
    intro K hK
    go_simp
    refine hK _ ?_
    clear hK K
    refine wpT_alone rfl ?_
    focus (go_wp2_with fail; refine (right_any _ _ HFY.out).mono ?_; rintro e w4 ⟨rfl, hb4⟩; have hcur := hcur.next hb4; clear hb4; rw [HRY.out]; go_wp2)
    refine QS_normal ⟨by first | exact hcur.x | exact hcur.y | exact (hcur.o 0).trans hk0, by first | exact hcur.x | exact hcur.y | exact (hcur.o 0).trans hk0, by first | exact hcur.x | exact hcur.y | exact (hcur.o 0).trans hk0⟩ (fun _ => ?_)
    apply wpT_takeK rfl _ (by first | rfl | (simp [Region.wanted, yielded]; done))
    · intro w' hS
      obtain ⟨s0, s1, s2⟩ := hS
      skip
      go_simp
      try rfl
    intro K hK
    go_simp
    refine hK _ ?_
    clear hK K
    apply wpT_takeK rfl _ (by first | rfl | (simp [Region.wanted, yielded]; done))
    · intro w' hS
      obtain ⟨s0, s1, s2⟩ := hS
      skip
      go_simp
      try rfl
    intro K hK
    go_simp
    refine hK _ ?_
    clear hK K
    apply wpT_takeK rfl _ (by first | rfl | (simp [Region.wanted, yielded]; done))
    · intro w' hS
      obtain ⟨s0, s1, s2⟩ := hS
      skip
      go_simp
      try rfl
    intro K hK
    go_simp
    refine hK _ ?_
    clear hK K
    refine wpT_end ?_
    go_wp2
    go_ret
    exact ⟨ret_bool (by simp), hcur.b⟩
  · skip
    refine wp_region_tree (fun w' => (∀ k, w'.cell? ⟨P, k, none⟩ = (cellsO ({ o with tag := t } : Obj))[k]?) ∧ (∀ k, w'.cell? ⟨Q, k, none⟩ = (cellsO ({ o with wait := true } : Obj))[k]?) ∧ (w'.cell? ⟨w.heap.size, 0, none⟩ = some (.int .u8 o.kind))) (.a 0 (.t 1 (.t 2 (.t 4 (.t 5 (.a 3 (.t 6 (.t 7 (.t 8 (.t 9 (.t 10 (.t 11 (.t 12 (.t 13 (.t 14 (.t 16 (.t 17 (.t 18 (.a 15 (.t 19 (.t 20 (.t 21 .nil)))))))))))))))))))))) (by kernel_rfl) (by kernel_rfl) (by kernel_rfl) ?_ ?_
    · exact ⟨by first | exact hcur.x | exact hcur.y | exact (hcur.o 0).trans hk0, by first | exact hcur.x | exact hcur.y | exact (hcur.o 0).trans hk0, by first | exact hcur.x | exact hcur.y | exact (hcur.o 0).trans hk0⟩
    refine wpT_alone rfl ?_
    focus (go_wp2_with fail; refine (live_any _).mono ?_; rintro e w2 ⟨rfl, hb2⟩; have hcur := hcur.next hb2; clear hb2; go_wp2)
    refine QS_normal ⟨by first | exact hcur.x | exact hcur.y | exact (hcur.o 0).trans hk0, by first | exact hcur.x | exact hcur.y | exact (hcur.o 0).trans hk0, by first | exact hcur.x | exact hcur.y | exact (hcur.o 0).trans hk0⟩ (fun _ => ?_)
    apply wpT_takeK rfl _ (by first | rfl | (simp [Region.wanted, yielded]; done))
    · intro w' hS
      obtain ⟨s0, s1, s2⟩ := hS
      skip
      go_simp
      try rfl
    intro K hK
    go_simp
    refine hK _ ?_
    clear hK K
    refine wpT_takeK rfl (.agg (cellsO ({ o with tag := t } : Obj))) (by first | rfl | (simp [Region.wanted, yielded]; done)) ?_ ?_
    · intro w' hS
      obtain ⟨s0, s1, s2⟩ := hS
      exact exec_loadObj _ rfl rfl s0
    intro K hK
    go_simp
    refine hK _ ?_
    clear hK K
    apply wpT_takeK rfl _ (by first | rfl | (simp [Region.wanted, yielded]; done))
    · intro w' hS
      obtain ⟨s0, s1, s2⟩ := hS
      skip
      go_simp
      try rfl
    intro K hK
    go_simp
    refine hK _ ?_
    clear hK K
    apply wpT_takeK rfl _ (by first | rfl | (simp [Region.wanted, yielded]; done))
    · intro w' hS
      obtain ⟨s0, s1, s2⟩ := hS
      skip
      go_simp
      try rfl
    intro K hK
    go_simp
    refine hK _ ?_
    clear hK K
    refine wpT_alone rfl ?_
    focus (go_wp2_with fail; refine (right_any _ _ HFX.out).mono ?_; rintro e w3 ⟨rfl, hb3⟩; have hcur := hcur.next hb3; clear hb3; rw [HRX.out]; go_wp2)
    refine QS_normal ⟨by first | exact hcur.x | exact hcur.y | exact (hcur.o 0).trans hk0, by first | exact hcur.x | exact hcur.y | exact (hcur.o 0).trans hk0, by first | exact hcur.x | exact hcur.y | exact (hcur.o 0).trans hk0⟩ (fun _ => ?_)
    apply wpT_takeK rfl _ (by first | rfl | (simp [Region.wanted, yielded]; done))
    · intro w' hS
      obtain ⟨s0, s1, s2⟩ := hS
      skip
      go_simp
      try rfl
    intro K hK
    go_simp
    refine hK _ ?_
    clear hK K
    apply wpT_takeK rfl _ (by first | rfl | (simp [Region.wanted, yielded]; done))
    · intro w' hS
      obtain ⟨s0, s1, s2⟩ := hS
      skip
      go_simp
      try rfl
    intro K hK
    go_simp
    refine hK _ ?_
    clear hK K
    apply wpT_takeK rfl _ (by first | rfl | (simp [Region.wanted, yielded]; done))
    · intro w' hS
      obtain ⟨s0, s1, s2⟩ := hS
      skip
      go_simp
      try rfl
    intro K hK
    go_simp
    refine hK _ ?_
    clear hK K
    apply wpT_takeK rfl _ (by first | rfl | (simp [Region.wanted, yielded]; done))
    · intro w' hS
      obtain ⟨s0, s1, s2⟩ := hS
      skip
      go_simp
      try rfl
    intro K hK
    go_simp
    refine hK _ ?_
    clear hK K
    apply wpT_takeK rfl _ (by first | rfl | (simp [Region.wanted, yielded]; done))
    · intro w' hS
      obtain ⟨s0, s1, s2⟩ := hS
      skip
      go_simp
      try rfl
    intro K hK
    go_simp
    refine hK _ ?_
    clear hK K
    apply wpT_takeK rfl _ (by first | rfl | (simp [Region.wanted, yielded]; done))
    · intro w' hS
      obtain ⟨s0, s1, s2⟩ := hS
      skip
      go_simp
      try rfl
    intro K hK
    go_simp
    refine hK _ ?_
    clear hK K
    apply wpT_takeK rfl _ (by first | rfl | (simp [Region.wanted, yielded]; done))
    · intro w' hS
      obtain ⟨s0, s1, s2⟩ := hS
      skip
      go_simp
      try rfl
    intro K hK
    go_simp
    refine hK _ ?_
    clear hK K
    apply wpT_takeK rfl _ (by first | rfl | (simp [Region.wanted, yielded]; done))
    · intro w' hS
      obtain ⟨s0, s1, s2⟩ := hS
      skip
      go_simp
      try rfl
    intro K hK
    go_simp
    refine hK _ ?_
    clear hK K
    refine wpT_takeK rfl (.agg (cellsO ({ o with wait := true } : Obj))) (by first | rfl | (simp [Region.wanted, yielded]; done)) ?_ ?_
    · intro w' hS
      obtain ⟨s0, s1, s2⟩ := hS
      exact exec_loadObj _ rfl rfl s1
    intro K hK
    go_simp
    refine hK _ ?_
    clear hK K
    apply wpT_takeK rfl _ (by first | rfl | (simp [Region.wanted, yielded]; done))
    · intro w' hS
      obtain ⟨s0, s1, s2⟩ := hS
      skip
      go_simp
      try rfl
    intro K hK
    go_simp
    refine hK _ ?_
    clear hK K
    apply wpT_takeK rfl _ (by first | rfl | (simp [Region.wanted, yielded]; done))
    · intro w' hS
      obtain ⟨s0, s1, s2⟩ := hS
      skip
      go_simp
      try rfl
    intro K hK
    go_simp
    refine hK _ ?_
    clear hK K
    apply wpT_takeK rfl _ (by first | rfl | (simp [Region.wanted, yielded]; done))
    · intro w' hS
      obtain ⟨s0, s1, s2⟩ := hS
      skip
      go_simp
      try rfl
    intro K hK
    go_simp
    refine hK _ ?_
    clear hK K
    refine wpT_alone rfl ?_
    focus (go_wp2_with fail; refine (right_any _ _ HFY.out).mono ?_; rintro e w4 ⟨rfl, hb4⟩; have hcur := hcur.next hb4; clear hb4; rw [HRY.out]; go_wp2)
    refine QS_normal ⟨by first | exact hcur.x | exact hcur.y | exact (hcur.o 0).trans hk0, by first | exact hcur.x | exact hcur.y | exact (hcur.o 0).trans hk0, by first | exact hcur.x | exact hcur.y | exact (hcur.o 0).trans hk0⟩ (fun _ => ?_)
    apply wpT_takeK rfl _ (by first | rfl | (simp [Region.wanted, yielded]; done))
    · intro w' hS
      obtain ⟨s0, s1, s2⟩ := hS
      skip
      go_simp
      try rfl
    intro K hK
    go_simp
    refine hK _ ?_
    clear hK K
    apply wpT_takeK rfl _ (by first | rfl | (simp [Region.wanted, yielded]; done))
    · intro w' hS
      obtain ⟨s0, s1, s2⟩ := hS
      skip
      go_simp
      try rfl
    intro K hK
    go_simp
    refine hK _ ?_
    clear hK K
    apply wpT_takeK rfl _ (by first | rfl | (simp [Region.wanted, yielded]; done))
    · intro w' hS
      obtain ⟨s0, s1, s2⟩ := hS
      skip
      go_simp
      try rfl
    intro K hK
    go_simp
    refine hK _ ?_
    clear hK K
    refine wpT_end ?_
    go_wp2
    go_ret
    exact ⟨ret_bool (by simp), hcur.b⟩

theorem walk (o : Obj) (t : Int) (w : World) (hf : o.Fits) : Calls Try.prog 6 #[.agg (cellsO o), .int .u64 t] w fun e w' => e = .returned (.bool true) ∧ Below w.heap.size w w' := by
  cases hr : rightB o with
  | false => exact walkF o t w hf hr
  | true =>
    by_cases ht : t = 0
    · exact walkZ o t w hf hr ht
    · exact walkN o t w hf hr ht

--ROW
theorem own : ownKnob Try.prog.godebug = none := by kernel_rfl
theorem laidOut : laidOutB Try.prog = true := by kernel_rfl
set_option maxRecDepth 100000 in
theorem lifted (os : Os) (started : os.Started) (H : Type) (enc : TypeId × Value → H) :
    ReturnsInHanded {} Try.checked os 6 .any (Rows.objectBareSpec.pre6 enc Try.prog Try.f6 Rows.objectBareRow.domain false) (Rows.objectBareSpec.post enc Try.prog Try.f6 false true false false) := by
  refine returnsInHanded_of_change (C := Try.checked) own started (by kernel_rfl) Try.func6
    (ChangeSpec.witness6 (enc := enc) (C := Try.checked) false ⟨#[], #[.agg #[.int .u8 0, .string ByteArray.empty, .int .u64 0, .int .u64 0, .bool false, .bool false, .string ByteArray.empty, .int .i64 0, .int .i64 0, .int .u8 0, .bool false, .bool false, .string ByteArray.empty, .string ByteArray.empty, .string ByteArray.empty, .string ByteArray.empty, .string ByteArray.empty, .int .u8 0, .int .u64 0, .int .u64 0], .int .u64 0], []⟩ 8 (by kernel_rfl) (by kernel_rfl) (by kernel_rfl) (by kernel_rfl)) ?_
  intro W base args ds gs before hval0 hW _ _
  have hval : ∀ (j : Nat) t v, Try.f6.params[j]? = some t → args[j]? = some v → Value.okWide Try.prog W .any base t v := hval0
  have hW' := hW
  obtain ⟨p, q, hA0, hV, rfl, hfz, hnd⟩ := hW
  have hA : DataW.TrodAll enc Try.prog W 0 (fun _ => true) true Try.f6.params.toList args.toList ds p := hA0
  rw [Try.params6] at hA hval
  obtain ⟨v0, vs0, d0, ds0, p0, q0, hargs, rfl, rfl, h0, r0⟩ := trodAll_cons hA
  obtain ⟨v1, vs1, d1, ds1, p1, q1, rfl, rfl, rfl, h1, r1⟩ := trodAll_cons r0
  obtain ⟨rfl, rfl, rfl⟩ := trodAll_nil r1
  obtain rfl : args = #[v0, v1] := by cases args; simp_all
  obtain ⟨rfl, rfl⟩ := trodVars_none hV
  have hv0 := hval 0 27 v0 rfl rfl
  simp only [Value.okWide, Try.underlying27] at hv0
  obtain ⟨cs0, rfl, _, _⟩ := hv0
  obtain ⟨fuel0, hf0⟩ := h0
  obtain ⟨o0, e0, ft0, wf0⟩ := open_obj hf0
  obtain rfl : cs0 = cellsO o0 := by
    apply Array.toList_inj.1
    simpa [Value.cells] using e0
  obtain ⟨n1, rfl, rfl, rfl, wf1⟩ := open_int Try.underlying23 (hval 1 23 v1 rfl rfl) h1
  clear hA0
  refine (walk o0 n1 W ft0).mono fun e W' ⟨he, hb⟩ => ?_
  subst he
  exact ⟨_, rfl, law_post rfl hW' laidOut (by rw [Try.params6]; simp only [List.mem_cons, List.not_mem_nil, or_false]; rintro t (rfl | rfl) <;> exact ⟨by kernel_rfl, of_decide_eq_true (by kernel_rfl)⟩) (by kernel_rfl) Try.underlying4 rfl hb⟩

theorem over : Rows.objectBareRow.holds Try.pinned (OpenSpec.ofChange Rows.objectBareSpec) :=
  OpenClaim.holds_of_wide 6 Try.f6 rfl rfl rfl rfl rfl rfl rfl ⟨rfl, rfl, rfl, rfl, rfl⟩ rfl rfl rfl rfl rfl (by kernel_rfl) Try.func6 (by kernel_rfl)
    (of_decide_eq_true (by kernel_rfl)) (by unfold Func.isWrapper; first | (rw [if_pos (by decide +kernel)]; kernel_rfl) | (rw [if_neg (by decide +kernel)]; exact ⟨rfl, rfl⟩))
    (fun os started H enc _ => lifted os started H enc)
theorem proved : Rows.ObjectBareSaid := over
end objectBare
theorem objectBare_holds : Rows.ObjectBareSaid := objectBare.proved
#print axioms objectBare_holds

end Go.Proofs.Ytmhnccbjnlmjpaa
