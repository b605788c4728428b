/- Layer 4 (codec): what the program writes of an object, of a change. -/
import Derived.Test.YtgplolfkfhhddaaW3
import Derived.Test.YtgplolfkfhhddaaO10
namespace Go.Proofs.Ytgplolfkfhhddaa
open Go.RowKit
set_option linter.unusedVariables false
set_option linter.unusedSimpArgs false

/-- a new writer -/
theorem WCur.new (w : World) : WCur (w.alloc (.cells #[.slice none 0 0] 49)) (w.alloc (.cells #[.slice none 0 0] 49)) w.heap.size w.heap.size [] :=
  ⟨.slice none 0 0, heap_alloc_eq, OwnB.none _ _, Nat.le_refl _, Below.refl _ _, KeepsB.refl _ _⟩

set_option maxRecDepth 100000 in
set_option maxHeartbeats 4000000 in
theorem object_any (o : Obj) (w : World) (ht : o.Typed) (hf : o.Fits) :
    Calls Try.prog 10 #[.agg (cellsO o)] w fun e w' => BytesR w w' e (rightB o) (objE o) := by
  have HF := Lib.hid hf
  have HT := Lib.hid ht
  clear hf ht
  have HB0 := Lib.hid ((Below.refl w.heap.size w).alloc (Nat.le_refl _) (.cells (cellsO o) 27))
  have hS0 : ∀ k, (w.alloc (.cells (cellsO o) 27)).cell? ⟨w.heap.size, k, none⟩ = (cellsO o)[k]? := cells_all heap_alloc_eq
  go_enter Try.func10, Try.ntmps10
  go_wp2_with (refine wpList_loadObj rfl _ rfl _ rfl o hS0 ?_)
  refine (right_any o _ HF.out).mono ?_
  rintro e w1 ⟨rfl, hb1⟩
  have hS1 : ∀ k, w1.cell? ⟨w.heap.size, k, none⟩ = (cellsO o)[k]? := fun k => (hb1.cell (p := ⟨w.heap.size, k, none⟩) (by simp)).trans (hS0 k)
  have hH1 : w1.heap[w.heap.size]? = some (.cells (cellsO o) 27 (0, 0)) := (hb1.block _ (by simp)).trans heap_alloc_eq
  have HB1 := Lib.hid ((HB0.out).trans (hb1.mono (HB0.out).size))
  have hz1 : w.heap.size < w1.heap.size := Nat.lt_of_lt_of_le (by simp) hb1.size
  clear hb1 hS0 HB0
  cases hr : rightB o with
  | false =>
    go_wp2
    go_ret2
    exact BytesR.no hr HB1.out
  | true =>
    have HR := Lib.hid hr
    clear hr
    have HX0 := Lib.hid (WCur.new w1)
    have hS2 : ∀ k, (w1.alloc (.cells #[.slice none 0 0] 49)).cell? ⟨w.heap.size, k, none⟩ = (cellsO o)[k]? := cells_all ((heap_alloc_lt hz1).trans hH1)
    go_wp2_with (first
      | refine wpList_loadObj rfl _ rfl _ rfl o hS2 ?_
      | (go_at_call 21; refine (wobject_any o _ _ _ _ [] HT.out HR.out (by simp) HX0.out).mono ?_; rintro e w2 ⟨rfl, hx⟩; obtain ⟨v3, hx⟩ := hx; rw [List.nil_append] at hx; obtain ⟨a3, k3, rfl⟩ := hx.row.lv; obtain ⟨q0, r0⟩ := cells_of_block hx.cells 0 (.slice a3 (objE o).length k3) rfl; have HX := Lib.hid hx; clear hx))
    go_ret2
    exact BytesR.yes HR.out HX.out.row (Nat.le_of_lt hz1) (((HB1.out).alloc (Nat.le_of_lt hz1) _).trans (HX.out.below.mono (Nat.le_of_lt hz1)))

/-! ### changes -/
def cellsEv (e : Ev) : Array Value := #[.int .u64 e.version, .bool e.gone] ++ cellsO e.obj
theorem cellsEv_at (e : Ev) (k : Nat) : (cellsEv e)[2 + k]? = (cellsO e.obj)[k]? := by
  unfold cellsEv
  rw [Array.getElem?_append_right (by simp)]
  simp
theorem cellsEv_size (e : Ev) : (cellsEv e).size = 22 := by simp [cellsEv]
theorem cellsEv_0 (e : Ev) : (cellsEv e)[0]? = some (.int .u64 e.version) := by simp [cellsEv]
theorem cellsEv_1 (e : Ev) : (cellsEv e)[1]? = some (.bool e.gone) := by simp [cellsEv]

theorem run_loadVar_objAt (o : Obj) (b k : Nat) (w : World) (h : ∀ i, w.cell? ⟨b, k + i, none⟩ = (cellsO o)[i]?) : (loadVar 27 ⟨b, k, none⟩).run Try.prog w = .ok (.agg (cellsO o)) w := by
  have := load_cells_at (P := Try.prog) (b := b) (o := k) (cs := cellsO o) (w := w) (fun i _ => h i) 20 0 #[] (by simp) (by simp)
  have h1 : (isAgg 27).run Try.prog w = .ok true w := by kernel_rfl
  have h2 : (sizeOf 27).run Try.prog w = .ok 20 w := by kernel_rfl
  simp only [loadVar, Sem.run_bind, h1, h2, Result.andThen, loadCells, this, if_true, Sem.run_pure]
theorem wpList_loadObjAt {ops : Array Oper} {Q : Exit → Act → World → Prop} {o : Oper} {rest : List Oper} {a : Act} {w : World} (hg : o.guard = none) (x : Operand) (hop : o.op = .load 27 x) (b k : Nat) (hx : a.eval x = .pointer (some ⟨b, k, none⟩))
    (p : Obj) (h : ∀ i, w.cell? ⟨b, k + i, none⟩ = (cellsO p)[i]?) (hK : wpList Try.prog ops Q rest (a.put o.dst (.agg (cellsO p))) w) : wpList Try.prog ops Q (o :: rest) a w :=
  wpList_plain hg fun K hK' => by
    unfold Oper.wp
    have := run_loadVar_objAt p b k w h
    have e : (execOp a.eval o).run Try.prog w = .ok (.value (.agg (cellsO p))) w := by simp [execOp, hop, hx, Instr.loadAt, run_sureAddr, this, Result.andThen]
    rw [e]
    exact hK' _ _ hK

/-- what lies in a change's box -/
structure EvBox (w : World) (b : Nat) (e : Ev) : Prop where
  heap : w.heap[b]? = some (.cells (cellsEv e) 39 (0, 0))
theorem EvBox.obj {w : World} {b : Nat} {e : Ev} (h : EvBox w b e) (k : Nat) : w.cell? ⟨b, 2 + k, none⟩ = (cellsO e.obj)[k]? := by
  rw [cells_all h.heap, cellsEv_at]
theorem EvBox.version {w : World} {b : Nat} {e : Ev} (h : EvBox w b e) : w.cell? ⟨b, 0, none⟩ = some (.int .u64 e.version) := by rw [cells_all h.heap, cellsEv_0]
theorem EvBox.gone {w : World} {b : Nat} {e : Ev} (h : EvBox w b e) : w.cell? ⟨b, 1, none⟩ = some (.bool e.gone) := by rw [cells_all h.heap, cellsEv_1]

theorem flags_one (g : Bool) (w : World) :
    Calls Try.prog 36 #[.slice (some ⟨w.heap.size, 0, none⟩) 1 1] (w.alloc (.cells #[.bool g] 4)) fun e w' => e = .returned (.int .u8 (bitE g 1 : Int)) ∧ w' = w.alloc (.cells #[.bool g] 4) := by
  refine (flags_any [g] _ w.heap.size _ rfl heap_alloc_eq (by simp)).mono ?_
  rintro e w' ⟨rfl, rfl⟩
  refine ⟨?_, rfl⟩
  simp [flagN]
theorem bitE_rng (g : Bool) : 0 ≤ ((bitE g 1 : Nat) : Int) ∧ ((bitE g 1 : Nat) : Int) < 256 := by cases g <;> simp [bitE]

set_option maxRecDepth 100000 in
set_option maxHeartbeats 4000000 in
theorem change_any (c : Ev) (w : World) (ht : c.Typed) (hf : c.obj.Fits) :
    Calls Try.prog 15 #[.agg (cellsEv c)] w fun e w' => BytesR w w' e (rightB c.obj) (chE c) := by
  have HF := Lib.hid hf
  have HT := Lib.hid ht
  clear hf ht
  have HB0 := Lib.hid ((Below.refl w.heap.size w).alloc (Nat.le_refl _) (.cells (cellsEv c) 39))
  have hE0 : EvBox (w.alloc (.cells (cellsEv c) 39)) w.heap.size c := ⟨heap_alloc_eq⟩
  have HE0 := Lib.hid hE0
  have hS0 := hE0.obj
  clear hE0
  go_enter Try.func15, Try.ntmps15
  go_wp2_with (refine wpList_loadObjAt rfl _ rfl _ _ rfl c.obj hS0 ?_)
  refine (right_any c.obj _ HF.out).mono ?_
  rintro e w1 ⟨rfl, hb1⟩
  have hE1 : EvBox w1 w.heap.size c := ⟨(hb1.block _ (by simp)).trans HE0.out.heap⟩
  have HE1 := Lib.hid hE1
  have HB1 := Lib.hid ((HB0.out).trans (hb1.mono (HB0.out).size))
  have hz1 : w.heap.size < w1.heap.size := Nat.lt_of_lt_of_le (by simp) hb1.size
  clear hb1 hS0 HB0 hE1 HE0
  cases hr : rightB c.obj with
  | false =>
    go_wp2
    go_ret2
    exact BytesR.no hr HB1.out
  | true =>
    have HR := Lib.hid hr
    clear hr
    have HX0 := Lib.hid (WCur.new w1)
    have hE2 : EvBox (w1.alloc (.cells #[.slice none 0 0] 49)) w.heap.size c := ⟨(heap_alloc_lt hz1).trans HE1.out.heap⟩
    have HE2 := Lib.hid hE2
    have cv := hE2.version
    have cg := hE2.gone
    clear hE2
    have HN := Lib.hid (show (numE c.version.toNat).length ≤ 10 by have := HT.out.version; exact numE_64 (by omega))
    have HNE := Lib.hid (show w.heap.size ≠ w1.heap.size by omega)
    go_wp2_with (first
      | (go_at_call 34; refine (wnumber_int _ HT.out.version _ _ _ _ [] (by simp) HX0.out).mono ?_; rintro e w2 ⟨rfl, hx⟩; have hE3 : EvBox w2 w.heap.size c := ⟨hx.strs HE2.out.heap HNE.out (by decide)⟩; have cv := hE3.version; have cg := hE3.gone; have HE3 := Lib.hid hE3; have HX := Lib.hid hx; clear hx hE3)
      | (go_at_call 36; refine (flags_one _ _).mono ?_; rintro e w3 ⟨rfl, rfl⟩; have hx := HX.out.alloc (.cells #[.bool c.gone] 4); have HX := Lib.hid hx; clear hx)
      | (go_at_call 35; refine (wbyte_any _ (bitE_rng _) _ _ _ _ _ (by rw [List.nil_append]; have := HN.out; omega) HX.out).mono ?_; rintro e w2 ⟨rfl, hx⟩; have hE3 : EvBox w2 w.heap.size c := ⟨hx.strs HE2.out.heap HNE.out (by decide)⟩; have hS := hE3.obj; have HE3 := Lib.hid hE3; have HX := Lib.hid hx; clear hx hE3)
      | refine wpList_loadObjAt rfl _ rfl _ _ rfl c.obj hS ?_
      | (go_at_call 21; refine (wobject_any c.obj _ _ _ _ _ HT.out.obj HR.out (by rw [List.nil_append, List.length_append]; have := HN.out; simp; omega) HX.out).mono ?_; rintro e w2 ⟨rfl, hx⟩; obtain ⟨v3, hx⟩ := hx; rw [List.nil_append, List.append_assoc, u8_ofNat, ← chE] at hx; obtain ⟨a3, k3, rfl⟩ := hx.row.lv; obtain ⟨q0, r0⟩ := cells_of_block hx.cells 0 (.slice a3 (chE c).length k3) rfl; have HX := Lib.hid hx; clear hx))
    go_ret2
    exact BytesR.yes HR.out HX.out.row (Nat.le_of_lt hz1) (((HB1.out).alloc (Nat.le_of_lt hz1) _).trans (HX.out.below.mono (Nat.le_of_lt hz1)))

end Go.Proofs.Ytgplolfkfhhddaa
