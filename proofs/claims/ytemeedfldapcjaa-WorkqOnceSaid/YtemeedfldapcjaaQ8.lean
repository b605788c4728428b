/- A part of the walks: contracts of functions. -/
import Derived.Test.YtemeedfldapcjaaQ7
namespace Go.Proofs.Ytemeedfldapcjaa
open Go.RowKit
set_option linter.unusedVariables false
set_option linter.unusedSimpArgs false
/-! ### Fork -/
theorem run_equalIn_map_nil' {P : Program} (w : World) (d : Nat) (t k e : TypeId) (p : Option Nat) (h : P.underlying t = some (.map k e)) :
    (Op.equalIn (d + 1) t (.map p) (.map none)).run P w = .ok p.isNone w := by
  cases p <;> simp [Op.equalIn, run_underlying h]
theorem run_eql_map_nil' {P : Program} (w : World) (t k e : TypeId) (p : Option Nat) (h : P.underlying t = some (.map k e)) :
    (binOp .eql t (.map p) (.map none)).run P w = .ok (.bool p.isNone) w := by
  simp only [binOp]
  simp [show Op.equal t (.map p) (.map none) = Op.equalIn (9999 + 1) t (.map p) (.map none) from rfl, run_equalIn_map_nil' w 9999 t k e p h]
theorem run_typeAssert_map' {P : Program} (w : World) (t xT k e : TypeId) (v : Value) (h : P.underlying t = some (.map k e)) : (Instr.typeAssert (.iface t v) xT t false).run P w = .ok v w := by
  simp [Instr.typeAssert, run_underlying h, go_sem, Result.andThen]
theorem run_maps_clone' {P : Program} (w : World) {r : Nat} {es : Array MapEntry} {clock : Nat} (t : TypeId) (hb : w.heap[r]? = some (.map es clock)) :
    (Extern.MapsClone.clone #[.iface t (.map (some r))]).run P w = .ok (.iface t (.map (some w.heap.size))) (w.alloc (.map es clock)) := by
  have e : Extern.MapsClone.clone #[.iface t (.map (some r))] = (getObj r >>= fun o => match o with
      | .map entries clock => (newObj (.map entries clock) >>= fun n => pure (.iface t (.map (some n))))
      | _ => stuck "maps.clone: a map expected") := rfl
  rw [e]
  simp [MapKept.run_getObj_map hb, Result.andThen, go_sem]

theorem clone33 (b : Nat) (es : Array MapEntry) (clock : Nat) (w : World) (hb : w.heap[b]? = some (.map es clock)) :
    Calls Try.prog 33 #[.map (some b)] w fun e w' => e = .returned (.map (some w.heap.size)) ∧ w' = w.alloc (.map es clock) := by
  have hq := fun w => run_eql_map_nil' (P := Try.prog) w 59 _ _ (some b) Try.underlying59
  go_enter Try.func33, Try.ntmps33
  go_wp2
  rw [run_callFunc_extern Try.func46 (by kernel_rfl) (by kernel_rfl) (by kernel_rfl) (e := Extern.MapsClone.clone) (by kernel_rfl), run_maps_clone' w 59 hb]
  simp only [Result.andThen]
  rw [Oper.upon_value]
  go_wp2
  rw [run_typeAssert_map' _ 59 20 _ _ _ Try.underlying59]
  simp only [Result.andThen]
  rw [Oper.upon_value]
  go_wp2
  go_ret
  exact ⟨rfl, rfl⟩
theorem clone34 (b : Nat) (es : Array MapEntry) (clock : Nat) (w : World) (hb : w.heap[b]? = some (.map es clock)) :
    Calls Try.prog 34 #[.map (some b)] w fun e w' => e = .returned (.map (some w.heap.size)) ∧ w' = w.alloc (.map es clock) := by
  have hq := fun w => run_eql_map_nil' (P := Try.prog) w 60 _ _ (some b) Try.underlying60
  go_enter Try.func34, Try.ntmps34
  go_wp2
  rw [run_callFunc_extern Try.func46 (by kernel_rfl) (by kernel_rfl) (by kernel_rfl) (e := Extern.MapsClone.clone) (by kernel_rfl), run_maps_clone' w 60 hb]
  simp only [Result.andThen]
  rw [Oper.upon_value]
  go_wp2
  rw [run_typeAssert_map' _ 60 20 _ _ _ Try.underlying60]
  simp only [Result.andThen]
  rw [Oper.upon_value]
  go_wp2
  go_ret
  exact ⟨rfl, rfl⟩

set_option maxRecDepth 100000 in
set_option maxHeartbeats 1000000 in
theorem fork_any (L : QLoc) (q : WQ) (w : World) (h : QAt w L q) :
    Calls Try.prog 21 #[.pointer (some ⟨L.bq, 0, none⟩)] w fun e w' => ∃ M : QLoc, e = .returned (.pointer (some ⟨M.bq, 0, none⟩)) ∧ QAt w' M q ∧ Below w.heap.size w w' ∧ w.heap.size ≤ M.bq ∧ w.heap.size ≤ M.bw ∧ w.heap.size ≤ M.bf := by
  obtain ⟨hd, ⟨es, c, hbw, hr⟩, ⟨ef, cf, hbf, hrf⟩, hne⟩ := h
  obtain ⟨c0, f0⟩ := cells_of_block hd 0 (.map (some L.bw)) rfl
  obtain ⟨c1, f1⟩ := cells_of_block hd 1 (.map (some L.bf)) rfl
  obtain ⟨c2, f2⟩ := cells_of_block hd 2 (.int .i64 q.next) rfl
  have HR := Lib.hid hr
  have HRF := Lib.hid hrf
  have hlw := heap_lt hbw
  have hlf := heap_lt hbf
  have hbq := heap_lt hd
  clear hr hrf hd
  go_enter Try.func21, Try.ntmps21
  go_wp2
  refine wp_region_N (fun w' => (w'.cell? ⟨L.bq, 0, none⟩ = some (.map (some L.bw))) ∧ (w'.cell? ⟨L.bq, 1, none⟩ = some (.map (some L.bf))) ∧ (w'.cell? ⟨L.bq, 2, none⟩ = some (.int .i64 q.next)))
    [(true, 0), (true, 1), (true, 2), (true, 3), (true, 5), (true, 6), (true, 7), (true, 8), (true, 10), (true, 11), (true, 12), (true, 13), (false, 4), (false, 9), (false, 14), (false, 15), (true, 16)] (by kernel_rfl) (by kernel_rfl) rfl (by kernel_rfl) ?_ ?_
  · exact ⟨by first | (go_keep; done) | exact (World.cell?_of_block (w := w) (a := ⟨L.bq, 0, none⟩) ((heap_alloc_lt (by simp; omega)).trans ((heap_alloc_lt (by simp; omega)).trans (heap_alloc_lt hbq)))).trans c0 | exact (World.cell?_of_block (w := w) (a := ⟨L.bq, 1, none⟩) ((heap_alloc_lt (by simp; omega)).trans ((heap_alloc_lt (by simp; omega)).trans (heap_alloc_lt hbq)))).trans c1 | exact (World.cell?_of_block (w := w) (a := ⟨L.bq, 2, none⟩) ((heap_alloc_lt (by simp; omega)).trans ((heap_alloc_lt (by simp; omega)).trans (heap_alloc_lt hbq)))).trans c2, by first | (go_keep; done) | exact (World.cell?_of_block (w := w) (a := ⟨L.bq, 0, none⟩) ((heap_alloc_lt (by simp; omega)).trans ((heap_alloc_lt (by simp; omega)).trans (heap_alloc_lt hbq)))).trans c0 | exact (World.cell?_of_block (w := w) (a := ⟨L.bq, 1, none⟩) ((heap_alloc_lt (by simp; omega)).trans ((heap_alloc_lt (by simp; omega)).trans (heap_alloc_lt hbq)))).trans c1 | exact (World.cell?_of_block (w := w) (a := ⟨L.bq, 2, none⟩) ((heap_alloc_lt (by simp; omega)).trans ((heap_alloc_lt (by simp; omega)).trans (heap_alloc_lt hbq)))).trans c2, by first | (go_keep; done) | exact (World.cell?_of_block (w := w) (a := ⟨L.bq, 0, none⟩) ((heap_alloc_lt (by simp; omega)).trans ((heap_alloc_lt (by simp; omega)).trans (heap_alloc_lt hbq)))).trans c0 | exact (World.cell?_of_block (w := w) (a := ⟨L.bq, 1, none⟩) ((heap_alloc_lt (by simp; omega)).trans ((heap_alloc_lt (by simp; omega)).trans (heap_alloc_lt hbq)))).trans c1 | exact (World.cell?_of_block (w := w) (a := ⟨L.bq, 2, none⟩) ((heap_alloc_lt (by simp; omega)).trans ((heap_alloc_lt (by simp; omega)).trans (heap_alloc_lt hbq)))).trans c2⟩
  simp only [List.filterMap_cons, List.filterMap_nil, List.getElem?_cons_succ, List.getElem?_cons_zero, Option.map_some]
  apply wpSeq_takeK _ (by first | rfl | (simp [Region.wanted, yielded]; done))
  · intro w' hS
    obtain ⟨s0, s1, s2⟩ := hS
    skip
    go_simp
    try rfl
  intro K hK
  go_simp
  refine hK _ ?_
  clear hK K
  apply wpSeq_takeK _ (by first | rfl | (simp [Region.wanted, yielded]; done))
  · intro w' hS
    obtain ⟨s0, s1, s2⟩ := hS
    skip
    go_simp
    try rfl
  intro K hK
  go_simp
  refine hK _ ?_
  clear hK K
  apply wpSeq_takeK _ (by first | rfl | (simp [Region.wanted, yielded]; done))
  · intro w' hS
    obtain ⟨s0, s1, s2⟩ := hS
    skip
    go_simp
    try rfl
  intro K hK
  go_simp
  refine hK _ ?_
  clear hK K
  apply wpSeq_takeK _ (by first | rfl | (simp [Region.wanted, yielded]; done))
  · intro w' hS
    obtain ⟨s0, s1, s2⟩ := hS
    skip
    go_simp
    try rfl
  intro K hK
  go_simp
  refine hK _ ?_
  clear hK K
  apply wpSeq_takeK _ (by first | rfl | (simp [Region.wanted, yielded]; done))
  · intro w' hS
    obtain ⟨s0, s1, s2⟩ := hS
    skip
    go_simp
    try rfl
  intro K hK
  go_simp
  refine hK _ ?_
  clear hK K
  apply wpSeq_takeK _ (by first | rfl | (simp [Region.wanted, yielded]; done))
  · intro w' hS
    obtain ⟨s0, s1, s2⟩ := hS
    skip
    go_simp
    try rfl
  intro K hK
  go_simp
  refine hK _ ?_
  clear hK K
  apply wpSeq_takeK _ (by first | rfl | (simp [Region.wanted, yielded]; done))
  · intro w' hS
    obtain ⟨s0, s1, s2⟩ := hS
    skip
    go_simp
    try rfl
  intro K hK
  go_simp
  refine hK _ ?_
  clear hK K
  apply wpSeq_takeK _ (by first | rfl | (simp [Region.wanted, yielded]; done))
  · intro w' hS
    obtain ⟨s0, s1, s2⟩ := hS
    skip
    go_simp
    try rfl
  intro K hK
  go_simp
  refine hK _ ?_
  clear hK K
  apply wpSeq_takeK _ (by first | rfl | (simp [Region.wanted, yielded]; done))
  · intro w' hS
    obtain ⟨s0, s1, s2⟩ := hS
    skip
    go_simp
    try rfl
  intro K hK
  go_simp
  refine hK _ ?_
  clear hK K
  apply wpSeq_takeK _ (by first | rfl | (simp [Region.wanted, yielded]; done))
  · intro w' hS
    obtain ⟨s0, s1, s2⟩ := hS
    skip
    go_simp
    try rfl
  intro K hK
  go_simp
  refine hK _ ?_
  clear hK K
  apply wpSeq_takeK _ (by first | rfl | (simp [Region.wanted, yielded]; done))
  · intro w' hS
    obtain ⟨s0, s1, s2⟩ := hS
    skip
    go_simp
    try rfl
  intro K hK
  go_simp
  refine hK _ ?_
  clear hK K
  apply wpSeq_takeK _ (by first | rfl | (simp [Region.wanted, yielded]; done))
  · intro w' hS
    obtain ⟨s0, s1, s2⟩ := hS
    skip
    go_simp
    try rfl
  intro K hK
  go_simp
  refine hK _ ?_
  clear hK K
  refine wpSeq_alone ?_
  (go_wp2_with fail; refine (clone33 L.bw es c w.drew hbw).mono ?_; rintro e w2 ⟨rfl, rfl⟩; go_wp2)
  refine QS_normal ⟨by first | (go_keep; done) | exact (World.cell?_of_block (w := w) (a := ⟨L.bq, 0, none⟩) ((heap_alloc_lt (by simp; omega)).trans ((heap_alloc_lt (by simp; omega)).trans (heap_alloc_lt hbq)))).trans c0 | exact (World.cell?_of_block (w := w) (a := ⟨L.bq, 1, none⟩) ((heap_alloc_lt (by simp; omega)).trans ((heap_alloc_lt (by simp; omega)).trans (heap_alloc_lt hbq)))).trans c1 | exact (World.cell?_of_block (w := w) (a := ⟨L.bq, 2, none⟩) ((heap_alloc_lt (by simp; omega)).trans ((heap_alloc_lt (by simp; omega)).trans (heap_alloc_lt hbq)))).trans c2, by first | (go_keep; done) | exact (World.cell?_of_block (w := w) (a := ⟨L.bq, 0, none⟩) ((heap_alloc_lt (by simp; omega)).trans ((heap_alloc_lt (by simp; omega)).trans (heap_alloc_lt hbq)))).trans c0 | exact (World.cell?_of_block (w := w) (a := ⟨L.bq, 1, none⟩) ((heap_alloc_lt (by simp; omega)).trans ((heap_alloc_lt (by simp; omega)).trans (heap_alloc_lt hbq)))).trans c1 | exact (World.cell?_of_block (w := w) (a := ⟨L.bq, 2, none⟩) ((heap_alloc_lt (by simp; omega)).trans ((heap_alloc_lt (by simp; omega)).trans (heap_alloc_lt hbq)))).trans c2, by first | (go_keep; done) | exact (World.cell?_of_block (w := w) (a := ⟨L.bq, 0, none⟩) ((heap_alloc_lt (by simp; omega)).trans ((heap_alloc_lt (by simp; omega)).trans (heap_alloc_lt hbq)))).trans c0 | exact (World.cell?_of_block (w := w) (a := ⟨L.bq, 1, none⟩) ((heap_alloc_lt (by simp; omega)).trans ((heap_alloc_lt (by simp; omega)).trans (heap_alloc_lt hbq)))).trans c1 | exact (World.cell?_of_block (w := w) (a := ⟨L.bq, 2, none⟩) ((heap_alloc_lt (by simp; omega)).trans ((heap_alloc_lt (by simp; omega)).trans (heap_alloc_lt hbq)))).trans c2⟩ (fun _ => ?_)
  refine wpSeq_alone ?_
  (go_wp2_with fail; refine (clone34 L.bf ef cf (w.alloc (.map es c)).drew ((heap_alloc_lt hlf).trans hbf)).mono ?_; rintro e w2 ⟨rfl, rfl⟩; go_wp2)
  refine QS_normal ⟨by first | (go_keep; done) | exact (World.cell?_of_block (w := w) (a := ⟨L.bq, 0, none⟩) ((heap_alloc_lt (by simp; omega)).trans ((heap_alloc_lt (by simp; omega)).trans (heap_alloc_lt hbq)))).trans c0 | exact (World.cell?_of_block (w := w) (a := ⟨L.bq, 1, none⟩) ((heap_alloc_lt (by simp; omega)).trans ((heap_alloc_lt (by simp; omega)).trans (heap_alloc_lt hbq)))).trans c1 | exact (World.cell?_of_block (w := w) (a := ⟨L.bq, 2, none⟩) ((heap_alloc_lt (by simp; omega)).trans ((heap_alloc_lt (by simp; omega)).trans (heap_alloc_lt hbq)))).trans c2, by first | (go_keep; done) | exact (World.cell?_of_block (w := w) (a := ⟨L.bq, 0, none⟩) ((heap_alloc_lt (by simp; omega)).trans ((heap_alloc_lt (by simp; omega)).trans (heap_alloc_lt hbq)))).trans c0 | exact (World.cell?_of_block (w := w) (a := ⟨L.bq, 1, none⟩) ((heap_alloc_lt (by simp; omega)).trans ((heap_alloc_lt (by simp; omega)).trans (heap_alloc_lt hbq)))).trans c1 | exact (World.cell?_of_block (w := w) (a := ⟨L.bq, 2, none⟩) ((heap_alloc_lt (by simp; omega)).trans ((heap_alloc_lt (by simp; omega)).trans (heap_alloc_lt hbq)))).trans c2, by first | (go_keep; done) | exact (World.cell?_of_block (w := w) (a := ⟨L.bq, 0, none⟩) ((heap_alloc_lt (by simp; omega)).trans ((heap_alloc_lt (by simp; omega)).trans (heap_alloc_lt hbq)))).trans c0 | exact (World.cell?_of_block (w := w) (a := ⟨L.bq, 1, none⟩) ((heap_alloc_lt (by simp; omega)).trans ((heap_alloc_lt (by simp; omega)).trans (heap_alloc_lt hbq)))).trans c1 | exact (World.cell?_of_block (w := w) (a := ⟨L.bq, 2, none⟩) ((heap_alloc_lt (by simp; omega)).trans ((heap_alloc_lt (by simp; omega)).trans (heap_alloc_lt hbq)))).trans c2⟩ (fun _ => ?_)
  refine wpSeq_alone ?_
  go_wp2
  refine QS_normal ⟨by first | (go_keep; done) | exact (World.cell?_of_block (w := w) (a := ⟨L.bq, 0, none⟩) ((heap_alloc_lt (by simp; omega)).trans ((heap_alloc_lt (by simp; omega)).trans (heap_alloc_lt hbq)))).trans c0 | exact (World.cell?_of_block (w := w) (a := ⟨L.bq, 1, none⟩) ((heap_alloc_lt (by simp; omega)).trans ((heap_alloc_lt (by simp; omega)).trans (heap_alloc_lt hbq)))).trans c1 | exact (World.cell?_of_block (w := w) (a := ⟨L.bq, 2, none⟩) ((heap_alloc_lt (by simp; omega)).trans ((heap_alloc_lt (by simp; omega)).trans (heap_alloc_lt hbq)))).trans c2, by first | (go_keep; done) | exact (World.cell?_of_block (w := w) (a := ⟨L.bq, 0, none⟩) ((heap_alloc_lt (by simp; omega)).trans ((heap_alloc_lt (by simp; omega)).trans (heap_alloc_lt hbq)))).trans c0 | exact (World.cell?_of_block (w := w) (a := ⟨L.bq, 1, none⟩) ((heap_alloc_lt (by simp; omega)).trans ((heap_alloc_lt (by simp; omega)).trans (heap_alloc_lt hbq)))).trans c1 | exact (World.cell?_of_block (w := w) (a := ⟨L.bq, 2, none⟩) ((heap_alloc_lt (by simp; omega)).trans ((heap_alloc_lt (by simp; omega)).trans (heap_alloc_lt hbq)))).trans c2, by first | (go_keep; done) | exact (World.cell?_of_block (w := w) (a := ⟨L.bq, 0, none⟩) ((heap_alloc_lt (by simp; omega)).trans ((heap_alloc_lt (by simp; omega)).trans (heap_alloc_lt hbq)))).trans c0 | exact (World.cell?_of_block (w := w) (a := ⟨L.bq, 1, none⟩) ((heap_alloc_lt (by simp; omega)).trans ((heap_alloc_lt (by simp; omega)).trans (heap_alloc_lt hbq)))).trans c1 | exact (World.cell?_of_block (w := w) (a := ⟨L.bq, 2, none⟩) ((heap_alloc_lt (by simp; omega)).trans ((heap_alloc_lt (by simp; omega)).trans (heap_alloc_lt hbq)))).trans c2⟩ (fun _ => ?_)
  refine wpSeq_alone ?_
  go_wp2
  refine QS_normal ⟨by first | (go_keep; done) | exact (World.cell?_of_block (w := w) (a := ⟨L.bq, 0, none⟩) ((heap_alloc_lt (by simp; omega)).trans ((heap_alloc_lt (by simp; omega)).trans (heap_alloc_lt hbq)))).trans c0 | exact (World.cell?_of_block (w := w) (a := ⟨L.bq, 1, none⟩) ((heap_alloc_lt (by simp; omega)).trans ((heap_alloc_lt (by simp; omega)).trans (heap_alloc_lt hbq)))).trans c1 | exact (World.cell?_of_block (w := w) (a := ⟨L.bq, 2, none⟩) ((heap_alloc_lt (by simp; omega)).trans ((heap_alloc_lt (by simp; omega)).trans (heap_alloc_lt hbq)))).trans c2, by first | (go_keep; done) | exact (World.cell?_of_block (w := w) (a := ⟨L.bq, 0, none⟩) ((heap_alloc_lt (by simp; omega)).trans ((heap_alloc_lt (by simp; omega)).trans (heap_alloc_lt hbq)))).trans c0 | exact (World.cell?_of_block (w := w) (a := ⟨L.bq, 1, none⟩) ((heap_alloc_lt (by simp; omega)).trans ((heap_alloc_lt (by simp; omega)).trans (heap_alloc_lt hbq)))).trans c1 | exact (World.cell?_of_block (w := w) (a := ⟨L.bq, 2, none⟩) ((heap_alloc_lt (by simp; omega)).trans ((heap_alloc_lt (by simp; omega)).trans (heap_alloc_lt hbq)))).trans c2, by first | (go_keep; done) | exact (World.cell?_of_block (w := w) (a := ⟨L.bq, 0, none⟩) ((heap_alloc_lt (by simp; omega)).trans ((heap_alloc_lt (by simp; omega)).trans (heap_alloc_lt hbq)))).trans c0 | exact (World.cell?_of_block (w := w) (a := ⟨L.bq, 1, none⟩) ((heap_alloc_lt (by simp; omega)).trans ((heap_alloc_lt (by simp; omega)).trans (heap_alloc_lt hbq)))).trans c1 | exact (World.cell?_of_block (w := w) (a := ⟨L.bq, 2, none⟩) ((heap_alloc_lt (by simp; omega)).trans ((heap_alloc_lt (by simp; omega)).trans (heap_alloc_lt hbq)))).trans c2⟩ (fun _ => ?_)
  apply wpSeq_takeK _ (by first | rfl | (simp [Region.wanted, yielded]; done))
  · intro w' hS
    obtain ⟨s0, s1, s2⟩ := hS
    skip
    go_simp
    try rfl
  intro K hK
  go_simp
  refine hK _ ?_
  clear hK K
  refine wpSeq_end ?_
  go_wp2
  go_ret
  have e1 : (w.alloc (.map es c)).heap.size = w.heap.size + 1 := by simp
  have e2 : ((w.alloc (.map es c)).alloc (.map ef cf)).heap.size = w.heap.size + 1 + 1 := by simp
  refine ⟨⟨w.heap.size + 1 + 1, w.heap.size, w.heap.size + 1⟩, rfl, ⟨?_, ⟨es, c, ?_, HR.out⟩, ⟨ef, cf, ?_, HRF.out⟩, by simp⟩, ?_, by simp; omega, by simp, by simp⟩
  · show _ = some _
    rw [← e2]; exact heap_alloc_eq
  · exact (heap_alloc_lt (by simp <;> omega)).trans ((heap_alloc_lt (by simp <;> omega)).trans heap_alloc_eq)
  · exact (heap_alloc_lt (by simp <;> omega)).trans (by rw [← e1]; exact heap_alloc_eq)
  · exact ((((Below.refl _ w).alloc (by simp) _).alloc (by simp) _).alloc (by simp; omega) _).drew
end Go.Proofs.Ytemeedfldapcjaa
