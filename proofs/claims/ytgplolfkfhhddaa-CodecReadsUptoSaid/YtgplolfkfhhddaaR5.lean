/- Layer 4 (codec): what the program reads as an object. -/
import Derived.Test.YtgplolfkfhhddaaR4
import Derived.Test.YtgplolfkfhhddaaW4
import Derived.Defers
import Derived.Recover
namespace Go.Proofs.Ytgplolfkfhhddaa
open Go.RowKit
set_option linter.unusedVariables false
set_option linter.unusedSimpArgs false

theorem caught_nil (w : World) : Calls Try.prog 23 #[.nilIface] w fun e w' => e = .returned (.bool false) ∧ w' = w := by
  go_enter Try.func23, Try.ntmps23
  go_wp2
  go_ret
  exact ⟨rfl, rfl⟩
set_option maxRecDepth 100000 in
theorem caught_fault (w : World) : Calls Try.prog 23 #[.iface 79 (.agg #[])] w fun e w' => e = .returned (.bool true) ∧ w' = w := by
  have hta : ∀ w, (Instr.typeAssert (.iface 79 (.agg #[])) 20 79 true).run Try.prog w = .ok (.tuple #[.agg #[], .bool true]) w := fun _ => by kernel_rfl
  go_enter Try.func23, Try.ntmps23
  go_wp2
  go_ret
  exact ⟨rfl, rfl⟩

theorem read1_idle (q r : Nat) (w : World) :
    CallsD Try.prog 22 #[.pointer (some ⟨q, 0, none⟩), .pointer (some ⟨r, 0, none⟩)] .returning w fun e u' w' => e = .returned (.tuple #[]) ∧ u' = .returning ∧ w' = w := by
  refine callsD_of_wpS Try.func22 rfl fun c₀ cs hu => ?_
  apply wpS_seq
  apply wpS_region
  simp [wpOpsS, go_sem, recoverD, hu, Try.ntmps22, Exit.thenS]
  refine (caught_nil w).mono ?_
  rintro e w2 ⟨rfl, rfl⟩
  refine wpS_cond (t := false) (by simp [Act.eval, Array.replicate]) ?_
  simp only [Bool.false_eq_true, if_false]
  refine wpS_of_wp (wp_skip ?_)
  cases c₀
  simp_all [bodyPostS, results, Try.results22]
theorem read1_panicking (q r : Nat) (o : Obj) (x : Int) (w : World) (hq : w.heap[q]? = some (.cells (cellsO o) 27 (0, 0))) (hr : w.heap[r]? = some (.cells #[.int .i64 x] 29 (0, 0))) (hqr : r ≠ q) :
    CallsD Try.prog 22 #[.pointer (some ⟨q, 0, none⟩), .pointer (some ⟨r, 0, none⟩)] (.panicking bad) w fun e u' w' =>
      e = .returned (.tuple #[]) ∧ u' = .panicking [{ v := .iface 79 (.agg #[]), recovered := true }] ∧ w' = (Wset w q (.cells (cellsO objZ) 27 (0, 0))).setCell ⟨r, 0, none⟩ (.int .i64 2) := by
  refine callsD_of_wpS Try.func22 rfl fun c₀ cs hu => ?_
  apply wpS_seq
  apply wpS_region
  simp [wpOpsS, go_sem, recoverD, hu, Try.ntmps22, Exit.thenS, bad]
  refine (caught_fault w).mono ?_
  rintro e w2 ⟨rfl, rfl⟩
  refine wpS_cond (t := true) (by simp [Act.eval, Array.replicate]) ?_
  simp only [if_true]
  refine wpS_of_wp ?_
  obtain ⟨c1, f1⟩ := cells_of_block ((Wset_ne (w := w2) (o := .cells (cellsO objZ) 27 (0, 0)) hqr).trans hr) 0 (.int .i64 x) rfl
  go_wp2_with (refine wpList_storeObj rfl _ _ rfl q rfl objZ rfl _ hq (cellsO_size _) ?_)
  exact ⟨rfl, _, rfl, _, results_none rfl _ _ _, rfl, rfl, rfl⟩


theorem results_oe {fn : Func} {tmps : Array Value} {w : World} {b c : Nat} {t u : Tmp} {x : Int} (p : Obj) (hr : fn.results = #[.cell t 27, .cell u 29]) (ht : tmps[t]?.getD undef = .pointer (some ⟨b, 0, none⟩)) (hu : tmps[u]?.getD undef = .pointer (some ⟨c, 0, none⟩)) (h : ∀ k, w.cell? ⟨b, k, none⟩ = (cellsO p)[k]?) (hc : w.cell? ⟨c, 0, none⟩ = some (.int .i64 x)) :
    (results fn tmps).run Try.prog w = .ok (.tuple #[.agg (cellsO p), .int .i64 x]) w := by
  have h0 := run_loadVar_obj p b w h
  have h1 : (loadVar 29 ⟨c, 0, none⟩).run Try.prog w = .ok (.int .i64 x) w := by
    have h1 : (isAgg 29).run Try.prog w = .ok false w := by kernel_rfl
    simp [loadVar, h1, hc, load, Result.andThen, go_sem]
    simp only [Sem.run, hc]
  simp [results, hr, ht, hu, asAddr, h0, h1, Result.andThen]

def ReadR (w w' : World) (e : Ending) (d : Option Obj) : Prop := e = .returned (.tuple #[.agg (cellsO (d.getD objZ)), .int .i64 (if d.isSome then 0 else 2)]) ∧ Below w.heap.size w w'

theorem belowWs {w w' : World} {B b : Nat} {o : Go.Obj} (h : Below B w w') (hb : B ≤ b) : Below B w (Wset w' b o) := ⟨h.os, h.tape, h.output, by rw [Wset_size]; exact h.size, fun k hk => (Wset_ne (by omega)).trans (h.block k hk)⟩
theorem KeepP.belowP {p B : Nat} {w w' : World} (h : KeepP p w w') (hB : B ≤ p) (hw : B ≤ w.heap.size) : Below B w w' := ⟨h.os, h.tape, h.output, h.size, fun k hk => h.block k (by omega) (by omega)⟩
theorem cell_set_same {w : World} {b : Nat} {v u : Value} {t : TypeId} (h : w.heap[b]? = some (.cells #[v] t (0, 0))) : (w.setCell ⟨b, 0, none⟩ u).cell? ⟨b, 0, none⟩ = some u := by
  have := heap_setCell_same (o := 0) (v := u) h
  simp only [World.cell?, this]; simp
theorem readD_none {bs : Bs} (h : objD 40 bs = none) : readD bs = none := by unfold readD; rw [h]
theorem readD_more' {bs r : Bs} {o : Obj} (h : objD 40 bs = some (o, r)) (hr : r ≠ []) : readD bs = none := by unfold readD; rw [h]; simp only [wd, if_neg hr]
theorem readD_all {bs : Bs} {o : Obj} (h : objD 40 bs = some (o, [])) : readD bs = some o := by unfold readD; rw [h]; simp only [wd, if_pos]

theorem SrcB.start {w w' : World} {B B' : Nat} {v : Value} {l : Bs} (h : SrcB w B v l) (hb : Below B w w') (hB : B ≤ B' := by omega) : SrcB w' B' v l := by
  rcases h with ⟨h, hlo⟩ | h
  · exact .inl ⟨h.keep fun b e k => World.cell?_of_block (a := ⟨b, k, none⟩) (hb.block b (hlo b e)), fun b e => Nat.lt_of_lt_of_le (hlo b e) hB⟩
  · exact .inr h

set_option maxRecDepth 100000 in
set_option maxHeartbeats 4000000 in
theorem read_any (v : Value) (bs : Bs) (w : World) (h : SrcB w w.heap.size v bs) : Calls Try.prog 11 #[v] w fun e w' => ReadR w w' e (readD bs) := by
  obtain ⟨a, c, rfl⟩ := h.rd
  have HS := Lib.hid h
  clear h
  have hmf : ∀ (fn : Fn) (first cap : Array Value) (w : World), (Instr.makeFunc fn first cap).run Try.prog w = .ok (.func fn first cap) w := fun _ _ _ _ => rfl
  have hZ := objZ_cells
  simp only [noText] at hZ
  have HZ := Lib.hid hZ
  clear hZ
  obtain ⟨W, hW⟩ : ∃ W, W = ((w.alloc (.cells (cellsO objZ) 27)).alloc (.cells #[.int .i64 0] 29)).alloc (.cells #[.slice a bs.length c] 55) := ⟨_, rfl⟩
  have hq : W.heap[w.heap.size]? = some (.cells (cellsO objZ) 27 (0, 0)) := by
    rw [hW]; exact (heap_alloc_lt (by simp only [World.alloc, Array.size_push]; omega)).trans ((heap_alloc_lt (by simp only [World.alloc, Array.size_push]; omega)).trans heap_alloc_eq)
  have hr : W.heap[w.heap.size + 1]? = some (.cells #[.int .i64 0] 29 (0, 0)) := by
    rw [hW]
    refine (heap_alloc_lt (by simp)).trans ?_
    have := heap_alloc_eq (w := w.alloc (.cells (cellsO objZ) 27)) (o := .cells #[.int .i64 0] 29)
    simpa using this
  have hp : W.heap[w.heap.size + 1 + 1]? = some (.cells #[.slice a bs.length c] 55 (0, 0)) := by
    rw [hW]
    have := heap_alloc_eq (w := (w.alloc (.cells (cellsO objZ) 27)).alloc (.cells #[.int .i64 0] 29)) (o := .cells #[.slice a bs.length c] 55)
    simpa using this
  have hb : Below w.heap.size w W := by
    rw [hW]
    exact (((Below.refl w.heap.size w).alloc (Nat.le_refl _) _).alloc (by simp) _).alloc (by simp; omega) _
  have hcur : RCur W w.heap.size (w.heap.size + 1 + 1) bs := ⟨_, hp, HS.out.start hb (Nat.le_refl _), by omega⟩
  have HW := Lib.hid hW
  have HQ := Lib.hid hq
  have HR := Lib.hid hr
  have HB := Lib.hid hb
  have HC := Lib.hid hcur
  clear hW hq hr hb hcur hp
  go_enter_defers Try.func11, Try.ntmps11
  go_wp2_with fail
  rw [← HZ.out, ← HW.out]
  cases hd : objD 40 bs with
  | none =>
    refine (rdobj_any _ _ bs HC.out).mono ?_
    intro e w2 hx
    obtain ⟨rfl, hk⟩ := hx.no hd
    have hq2 := (hk.block _ (heap_lt HQ.out) (by omega)).trans HQ.out
    have hr2 := (hk.block _ (heap_lt HR.out) (by omega)).trans HR.out
    have hb2 : Below w.heap.size w w2 := HB.out.trans (hk.belowP (by omega) (by have := heap_lt HQ.out; omega))
    have HQ2 := Lib.hid hq2
    have HR2 := Lib.hid hr2
    have HB2 := Lib.hid hb2
    have HD := Lib.hid hd
    clear hq2 hr2 hb2 hk hx hd
    go_wp2
    refine leaves_cons (f := 22) (args := #[.pointer (some ⟨w.heap.size, 0, none⟩), .pointer (some ⟨w.heap.size + 1, 0, none⟩)]) (by simp) (by simp [go_sem]) ?_
    refine (read1_panicking _ _ objZ 0 w2 HQ2.out HR2.out (by omega)).mono ?_
    rintro e u' w3 ⟨rfl, rfl, rfl⟩
    refine ⟨_, results_oe objZ rfl rfl rfl (cells_all ((heap_setCell_ne (by simp)).trans (Wset_same (heap_lt HQ2.out)))) (cell_set_same ((Wset_ne (by omega)).trans HR2.out)), ?_⟩
    have hb3 := belowWs (o := .cells (cellsO objZ) 27 (0, 0)) HB2.out (Nat.le_refl _)
    exact ⟨by rw [readD_none HD.out]; rfl, hb3.setCell (p := ⟨w.heap.size + 1, 0, none⟩) (Nat.le_succ _) _⟩
  | some x =>
    obtain ⟨o, r⟩ := x
    refine (rdobj_any _ _ bs HC.out).mono ?_
    intro e w2 hx
    obtain ⟨rfl, hc, hk⟩ := hx.yes hd
    have hq2 := (hk.block _ (heap_lt HQ.out) (by omega)).trans HQ.out
    have hr2 := (hk.block _ (heap_lt HR.out) (by omega)).trans HR.out
    have hb2 : Below w.heap.size w w2 := HB.out.trans (hk.belowP (by omega) (by have := heap_lt HQ.out; omega))
    have HQ2 := Lib.hid hq2
    have hq3 : (Wset w2 w.heap.size (.cells (cellsO o) 27 (0, 0))).heap[w.heap.size]? = some (.cells (cellsO o) 27 (0, 0)) := Wset_same (heap_lt hq2)
    have hr3 : (Wset w2 w.heap.size (.cells (cellsO o) 27 (0, 0))).heap[w.heap.size + 1]? = some (.cells #[.int .i64 0] 29 (0, 0)) := (Wset_ne (by omega)).trans hr2
    have hb3 := belowWs (o := .cells (cellsO o) 27 (0, 0)) hb2 (Nat.le_refl _)
    have hc3 : ∃ a c, (Wset w2 w.heap.size (.cells (cellsO o) 27 (0, 0))).heap[w.heap.size + 1 + 1]? = some (.cells #[.slice a r.length c] 55 (0, 0)) := by
      obtain ⟨a', c', h'⟩ := hc.cell
      exact ⟨a', c', (Wset_ne (by omega)).trans h'⟩
    have HQ3 := Lib.hid hq3
    have HR3 := Lib.hid hr3
    have HB3 := Lib.hid hb3
    have HC3 := Lib.hid hc3
    have HD := Lib.hid hd
    clear hq2 hr2 hb2 hk hx hd hq3 hr3 hb3 hc hc3
    cases r with
    | cons x t =>
      go_wp2_with (first
        | refine wpList_storeObj rfl _ _ rfl w.heap.size rfl o rfl _ HQ2.out (cellsO_size _) ?_
        | (go_at_call 25; refine (rdend_any _ _ (x :: t) HC3.out).mono ?_; rintro e w4 ⟨hw, _, h2⟩; have e2 := h2 (by simp); subst e2; subst hw))
      refine leaves_cons (f := 22) (args := #[.pointer (some ⟨w.heap.size, 0, none⟩), .pointer (some ⟨w.heap.size + 1, 0, none⟩)]) (by simp) (by simp [go_sem]) ?_
      refine (read1_panicking _ _ o 0 _ HQ3.out HR3.out (by omega)).mono ?_
      rintro e u' w3 ⟨rfl, rfl, rfl⟩
      refine ⟨_, results_oe objZ rfl rfl rfl (cells_all ((heap_setCell_ne (by simp)).trans (Wset_same (heap_lt HQ3.out)))) (cell_set_same ((Wset_ne (by omega)).trans HR3.out)), ?_⟩
      exact ⟨by rw [readD_more' HD.out (by simp)]; rfl, (belowWs HB3.out (Nat.le_refl _)).setCell (p := ⟨w.heap.size + 1, 0, none⟩) (Nat.le_succ _) _⟩
    | nil =>
      have hq4 : (Wset (Wset w2 w.heap.size (.cells (cellsO o) 27 (0, 0))) w.heap.size (.cells (cellsO o) 27 (0, 0))).heap[w.heap.size]? = some (.cells (cellsO o) 27 (0, 0)) := Wset_same (by rw [Wset_size]; exact heap_lt HQ2.out)
      have hr4 : (Wset (Wset w2 w.heap.size (.cells (cellsO o) 27 (0, 0))) w.heap.size (.cells (cellsO o) 27 (0, 0))).heap[w.heap.size + 1]? = some (.cells #[.int .i64 0] 29 (0, 0)) := (Wset_ne (by omega)).trans HR3.out
      obtain ⟨c4, f4⟩ := cells_of_block hr4 0 (.int .i64 0) rfl
      have HQ4 := Lib.hid hq4
      have HR4 := Lib.hid hr4
      clear hq4 hr4
      go_wp2_with (first
        | (refine wpList_loadObj rfl _ rfl w.heap.size rfl o (cells_all HQ3.out) ?_; refine wpList_storeObj rfl _ _ rfl w.heap.size rfl o rfl _ HQ3.out (cellsO_size _) ?_)
        | refine wpList_storeObj rfl _ _ rfl w.heap.size rfl o rfl _ HQ2.out (cellsO_size _) ?_
        | (go_at_call 25; refine (rdend_any _ _ [] HC3.out).mono ?_; rintro e w4 ⟨hw, h1, _⟩; have e2 := h1 rfl; subst e2; subst hw))
      refine leaves_cons (f := 22) (args := #[.pointer (some ⟨w.heap.size, 0, none⟩), .pointer (some ⟨w.heap.size + 1, 0, none⟩)]) (by simp) (by simp [go_sem]) ?_
      refine (read1_idle _ _ _).mono ?_
      rintro e u' w3 ⟨rfl, rfl, rfl⟩
      refine ⟨_, results_oe o rfl rfl rfl (cells_all ((heap_setCell_ne (by simp)).trans HQ4.out)) (cell_set_same HR4.out), ?_⟩
      exact ⟨by rw [readD_all HD.out]; rfl, (belowWs HB3.out (Nat.le_refl _)).setCell (p := ⟨w.heap.size + 1, 0, none⟩) (Nat.le_succ _) _⟩

end Go.Proofs.Ytgplolfkfhhddaa
