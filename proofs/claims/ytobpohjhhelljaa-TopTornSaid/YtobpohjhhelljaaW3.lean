/- Layer 4 (codec): what the program writes of an object, of a change. -/
import Derived.Test.YtobpohjhhelljaaW1
import Derived.Test.YtobpohjhhelljaaO10
namespace Go.Proofs.Ytobpohjhhelljaa
open Go.RowKit
set_option linter.unusedVariables false
set_option linter.unusedSimpArgs false


theorem cells_flags (o : Obj) : 0 ≤ (flagsE o : Int) ∧ (flagsE o : Int) < 256 := by
  have := (flags_back o.deleting o.hold o.keep o.wait).1
  unfold flagsE; omega

set_option maxRecDepth 100000 in
set_option maxHeartbeats 4000000 in
theorem wobject_any (o : Obj) (w0 w : World) (B p : Nat) (bs : Bs) (ht : o.Typed) (hr : rightB o = true) (hl : bs.length ≤ 1000) (h : WCur w0 w B p bs) :
    Calls Try.prog 62 #[.pointer (some ⟨p, 0, none⟩), .agg (cellsO o)] w fun e w' => e = .returned (.tuple #[]) ∧ WCur w0 w' B p (bs ++ objE o) := by
  have HLn := Lib.hid (piece_lens ht hr)
  obtain ⟨hn, hx⟩ := right_texts hr
  have x0 : o.name.size ≤ 1000 := by omega
  have x1 := hx o.cls (by simp [textsO]); have x2 := hx o.zone (by simp [textsO]); have x3 := hx o.node (by simp [textsO]); have x4 := hx o.claim (by simp [textsO]); have x5 := hx o.volume (by simp [textsO]); have x6 := hx o.source (by simp [textsO])
  have y1 : o.cls.size ≤ 1000 := by omega
  have y5 : o.zone.size ≤ 1000 ∧ o.node.size ≤ 1000 ∧ o.claim.size ≤ 1000 ∧ o.volume.size ≤ 1000 ∧ o.source.size ≤ 1000 := by omega
  obtain ⟨hs, hg⟩ := right_sizes hr
  have z1 : o.size % 18446744073709551616 = o.size := by omega
  have z2 : o.got % 18446744073709551616 = o.got := by omega
  have s1 : 0 ≤ o.size ∧ o.size < 18446744073709551616 := by omega
  have s2 : 0 ≤ o.got ∧ o.got < 18446744073709551616 := by omega
  obtain ⟨t1, t2, t3, t4, t5, t6, t7⟩ := ht
  have HT := Lib.hid (And.intro t1 (And.intro t2 (And.intro t3 (And.intro t4 (And.intro t5 (And.intro t6 (And.intro t7 (And.intro s1 s2))))))))
  have HY := Lib.hid (And.intro x0 (And.intro y1 y5))
  obtain ⟨F, hF⟩ : ∃ F, F = flagsE o := ⟨_, rfl⟩
  have hFr := cells_flags o
  rw [← hF] at hFr
  have HF := Lib.hid hFr
  have HFe := Lib.hid hF
  clear hF hFr
  have H0 := Lib.hid h
  have HZ1 := Lib.hid z1
  have HZ2 := Lib.hid z2
  clear hn hx x0 x1 x2 x3 x4 x5 x6 y1 y5 hs hg s1 s2 t1 t2 t3 t4 t5 t6 t7 hr h
  have hbp : w.heap.size ≠ p := H0.out.ne.1
  have HB := Lib.hid (show (w.alloc (.cells (cellsO o) 31)).heap[w.heap.size]? = some (.cells (cellsO o) 31 (0, 0)) by exact heap_alloc_eq)
  have HX := Lib.hid (H0.out.alloc (.cells (cellsO o) 31)).fresh
  have hS := HX.out.box HB.out hbp
  have HP := Lib.hid hbp
  clear hbp
  go_enter Try.func62, Try.ntmps62
  go_wp2_with (first
    | (go_at_call 60; refine (wbyte_any _ (by first | with_reducible exact HT.out.1 | with_reducible exact HF.out | with_reducible exact HT.out.2.2.2.1 | with_reducible exact HT.out.2.2.2.2.1) _ _ B p _ (by have := HLn.out; (try simp only [List.length_append, List.length_cons, List.length_nil]); omega) HX.out).mono ?_; rintro e w2 ⟨rfl, hx⟩; have HX := Lib.hid hx; clear hx; have hS := HX.out.box HB.out HP.out)
    | (go_at_call 59; refine (wnumber_int _ (by first | with_reducible exact HT.out.2.1 | with_reducible exact HT.out.2.2.1 | with_reducible exact HT.out.2.2.2.2.2.1 | with_reducible exact HT.out.2.2.2.2.2.2.1 | with_reducible exact HT.out.2.2.2.2.2.2.2.1 | with_reducible exact HT.out.2.2.2.2.2.2.2.2) _ _ B p _ (by have := HLn.out; (try simp only [List.length_append, List.length_cons, List.length_nil]); omega) HX.out).mono ?_; rintro e w2 ⟨rfl, hx⟩; have HX := Lib.hid hx; clear hx; have hS := HX.out.box HB.out HP.out)
    | (go_at_call 96; with_reducible show Calls _ _ #[_, .slice _ 1 1] _ _; refine (wtext_one _ (by first | with_reducible exact HY.out.1 | with_reducible exact HY.out.2.1) _ _ B p _ (by have := HLn.out; (try simp only [List.length_append, List.length_cons, List.length_nil]); omega) HX.out).mono ?_; rintro e w2 ⟨rfl, hx⟩; have HX := Lib.hid hx; clear hx; have hS := HX.out.box HB.out HP.out)
    | (go_at_call 96; with_reducible show Calls _ _ #[_, .slice _ 5 5] _ _; refine (wtext_five _ _ _ _ _ HY.out.2.2 _ _ B p _ (by have := HLn.out; (try simp only [List.length_append, List.length_cons, List.length_nil]); omega) HX.out).mono ?_; rintro e w2 ⟨rfl, hx⟩; have HX := Lib.hid hx; clear hx; have hS := HX.out.box HB.out HP.out)
    | (go_at_call 61; refine (flags_four o _).mono ?_; rw [← HFe.out]; rintro e w3 ⟨rfl, rfl⟩; have hx := HX.out.alloc (.cells #[.bool o.deleting, .bool o.hold, .bool o.keep, .bool o.wait] 4); have HX := Lib.hid hx; clear hx; have hS := HX.out.box HB.out HP.out))
  exact bodyPost_end (results_none rfl _ _ _) rfl ⟨rfl, by have := (H0.out.alloc _).trans HX.out; rw [HFe.out] at this; simpa only [objE, List.append_assoc, u8_ofNat] using this⟩



/-- a new writer -/
theorem WCur.new (w : World) : WCur (w.alloc (.cells #[.slice none 0 0] 114)) (w.alloc (.cells #[.slice none 0 0] 114)) w.heap.size w.heap.size [] :=
  ⟨.slice none 0 0, heap_alloc_eq, OwnB.none _ _, Nat.le_refl _, Below.refl _ _, KeepsB.refl _ _⟩

/-! ### changes -/
def cellsEv (e : Ev) : Array Value := #[.int .u64 e.version, .bool e.gone] ++ cellsO e.obj
theorem cellsEv_at (e : Ev) (k : Nat) : (cellsEv e)[2 + k]? = (cellsO e.obj)[k]? := by
  unfold cellsEv
  rw [Array.getElem?_append_right (by simp)]
  simp
theorem cellsEv_size (e : Ev) : (cellsEv e).size = 22 := by simp [cellsEv]
theorem cellsEv_0 (e : Ev) : (cellsEv e)[0]? = some (.int .u64 e.version) := by simp [cellsEv]
theorem cellsEv_1 (e : Ev) : (cellsEv e)[1]? = some (.bool e.gone) := by simp [cellsEv]

theorem run_loadVar_objAt (o : Obj) (b k : Nat) (w : World) (h : ∀ i, w.cell? ⟨b, k + i, none⟩ = (cellsO o)[i]?) : (loadVar 31 ⟨b, k, none⟩).run Try.prog w = .ok (.agg (cellsO o)) w := by
  have := load_cells_at (P := Try.prog) (b := b) (o := k) (cs := cellsO o) (w := w) (fun i _ => h i) 20 0 #[] (by simp) (by simp)
  have h1 : (isAgg 31).run Try.prog w = .ok true w := by kernel_rfl
  have h2 : (sizeOf 31).run Try.prog w = .ok 20 w := by kernel_rfl
  simp only [loadVar, Sem.run_bind, h1, h2, Result.andThen, loadCells, this, if_true, Sem.run_pure]
theorem wpList_loadObjAt {ops : Array Oper} {Q : Exit → Act → World → Prop} {o : Oper} {rest : List Oper} {a : Act} {w : World} (hg : o.guard = none) (x : Operand) (hop : o.op = .load 31 x) (b k : Nat) (hx : a.eval x = .pointer (some ⟨b, k, none⟩))
    (p : Obj) (h : ∀ i, w.cell? ⟨b, k + i, none⟩ = (cellsO p)[i]?) (hK : wpList Try.prog ops Q rest (a.put o.dst (.agg (cellsO p))) w) : wpList Try.prog ops Q (o :: rest) a w :=
  wpList_plain hg fun K hK' => by
    unfold Oper.wp
    have := run_loadVar_objAt p b k w h
    have e : (execOp a.eval o).run Try.prog w = .ok (.value (.agg (cellsO p))) w := by simp [execOp, hop, hx, Instr.loadAt, run_sureAddr, this, Result.andThen]
    rw [e]
    exact hK' _ _ hK

/-- what lies in a change's box -/
structure EvBox (w : World) (b : Nat) (e : Ev) : Prop where
  heap : w.heap[b]? = some (.cells (cellsEv e) 69 (0, 0))
theorem EvBox.obj {w : World} {b : Nat} {e : Ev} (h : EvBox w b e) (k : Nat) : w.cell? ⟨b, 2 + k, none⟩ = (cellsO e.obj)[k]? := by
  rw [cells_all h.heap, cellsEv_at]
theorem EvBox.version {w : World} {b : Nat} {e : Ev} (h : EvBox w b e) : w.cell? ⟨b, 0, none⟩ = some (.int .u64 e.version) := by rw [cells_all h.heap, cellsEv_0]
theorem EvBox.gone {w : World} {b : Nat} {e : Ev} (h : EvBox w b e) : w.cell? ⟨b, 1, none⟩ = some (.bool e.gone) := by rw [cells_all h.heap, cellsEv_1]

theorem flags_one (g : Bool) (w : World) :
    Calls Try.prog 61 #[.slice (some ⟨w.heap.size, 0, none⟩) 1 1] (w.alloc (.cells #[.bool g] 4)) fun e w' => e = .returned (.int .u8 (bitE g 1 : Int)) ∧ w' = w.alloc (.cells #[.bool g] 4) := by
  refine (flags_any [g] _ w.heap.size _ rfl heap_alloc_eq (by simp)).mono ?_
  rintro e w' ⟨rfl, rfl⟩
  refine ⟨?_, rfl⟩
  simp [flagN]
theorem bitE_rng (g : Bool) : 0 ≤ ((bitE g 1 : Nat) : Int) ∧ ((bitE g 1 : Nat) : Int) < 256 := by cases g <;> simp [bitE]

set_option maxRecDepth 100000 in
set_option maxHeartbeats 4000000 in
theorem change_any (c : Ev) (w : World) (ht : c.Typed) (hf : c.obj.Fits) :
    Calls Try.prog 36 #[.agg (cellsEv c)] w fun e w' => BytesR w w' e (rightB c.obj) (chE c) := by
  have HF := Lib.hid hf
  have HT := Lib.hid ht
  clear hf ht
  have HB0 := Lib.hid ((Below.refl w.heap.size w).alloc (Nat.le_refl _) (.cells (cellsEv c) 69))
  have hE0 : EvBox (w.alloc (.cells (cellsEv c) 69)) w.heap.size c := ⟨heap_alloc_eq⟩
  have HE0 := Lib.hid hE0
  have hS0 := hE0.obj
  clear hE0
  go_enter Try.func36, Try.ntmps36
  go_wp2_with (refine wpList_loadObjAt rfl _ rfl _ _ rfl c.obj hS0 ?_)
  refine (right_any c.obj _ HF.out).mono ?_
  rintro e w1 ⟨rfl, hb1⟩
  have hE1 : EvBox w1 w.heap.size c := ⟨(hb1.block _ (by simp)).trans HE0.out.heap⟩
  have HE1 := Lib.hid hE1
  have HB1 := Lib.hid ((HB0.out).trans (hb1.mono (HB0.out).size))
  have hz1 : w.heap.size < w1.heap.size := Nat.lt_of_lt_of_le (by simp) hb1.size
  clear hb1 hS0 HB0 hE1 HE0
  cases hr : rightB c.obj with
  | false =>
    go_wp2
    go_ret2
    exact BytesR.no hr HB1.out
  | true =>
    have HR := Lib.hid hr
    clear hr
    have HX0 := Lib.hid (WCur.new w1)
    have hE2 : EvBox (w1.alloc (.cells #[.slice none 0 0] 114)) w.heap.size c := ⟨(heap_alloc_lt hz1).trans HE1.out.heap⟩
    have HE2 := Lib.hid hE2
    have cv := hE2.version
    have cg := hE2.gone
    clear hE2
    have HN := Lib.hid (show (numE c.version.toNat).length ≤ 10 by have := HT.out.version; exact numE_64 (by omega))
    have HNE := Lib.hid (show w.heap.size ≠ w1.heap.size by omega)
    go_wp2_with (first
      | (go_at_call 59; refine (wnumber_int _ HT.out.version _ _ _ _ [] (by simp) HX0.out).mono ?_; rintro e w2 ⟨rfl, hx⟩; have hE3 : EvBox w2 w.heap.size c := ⟨hx.strs HE2.out.heap HNE.out (by decide)⟩; have cv := hE3.version; have cg := hE3.gone; have HE3 := Lib.hid hE3; have HX := Lib.hid hx; clear hx hE3)
      | (go_at_call 61; refine (flags_one _ _).mono ?_; rintro e w3 ⟨rfl, rfl⟩; have hx := HX.out.alloc (.cells #[.bool c.gone] 4); have HX := Lib.hid hx; clear hx)
      | (go_at_call 60; refine (wbyte_any _ (bitE_rng _) _ _ _ _ _ (by rw [List.nil_append]; have := HN.out; omega) HX.out).mono ?_; rintro e w2 ⟨rfl, hx⟩; have hE3 : EvBox w2 w.heap.size c := ⟨hx.strs HE2.out.heap HNE.out (by decide)⟩; have hS := hE3.obj; have HE3 := Lib.hid hE3; have HX := Lib.hid hx; clear hx hE3)
      | refine wpList_loadObjAt rfl _ rfl _ _ rfl c.obj hS ?_
      | (go_at_call 62; refine (wobject_any c.obj _ _ _ _ _ HT.out.obj HR.out (by rw [List.nil_append, List.length_append]; have := HN.out; simp; omega) HX.out).mono ?_; rintro e w2 ⟨rfl, hx⟩; obtain ⟨v3, hx⟩ := hx; rw [List.nil_append, List.append_assoc, u8_ofNat, ← chE] at hx; obtain ⟨a3, k3, rfl⟩ := hx.row.lv; obtain ⟨q0, r0⟩ := cells_of_block hx.cells 0 (.slice a3 (chE c).length k3) rfl; have HX := Lib.hid hx; clear hx))
    go_ret2
    exact BytesR.yes HR.out HX.out.row (Nat.le_of_lt hz1) (((HB1.out).alloc (Nat.le_of_lt hz1) _).trans (HX.out.below.mono (Nat.le_of_lt hz1)))

end Go.Proofs.Ytobpohjhhelljaa
