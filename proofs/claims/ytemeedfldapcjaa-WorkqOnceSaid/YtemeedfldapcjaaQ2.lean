/- A part of the walks: contracts of functions. -/
import Derived.Test.YtemeedfldapcjaaQ1
namespace Go.Proofs.Ytemeedfldapcjaa
open Go.RowKit
set_option linter.unusedVariables false
set_option linter.unusedSimpArgs false
def WQ.full (q : WQ) (k : GKey) : Bool := (assoc q.waits k).isNone && decide (256 ≤ q.waits.length)

def WQ.code (q : WQ) (k : GKey) : Int := if q.full k then 7 else 0
def WQ.ins (q : WQ) (k : GKey) (d : Int) (f' : List (GKey × Int)) : WQ := if q.full k then q else q.put k d f'

theorem put_any (L : QLoc) (q : WQ) (k : GKey) (fd : Nat) (caps : Array Value) (d : Int) (f' : List (GKey × Int)) (w : World) (h : QAt w L q)
    (hnx : 0 ≤ q.next ∧ q.next < 1000000000) (hdue : DueDoes L w q.fails fd caps d f') (hcf : ∀ w, (callFunc fd caps).run Try.prog w = .ok (.enter fd caps) w) :
    Calls Try.prog 29 #[.pointer (some ⟨L.bq, 0, none⟩), .agg #[.int .u8 k.kind, .string k.name], .func (.func fd) #[] caps] w fun e w' =>
      e = .returned (.int .i64 (q.code k)) ∧ QAt w' L (q.ins k d f') ∧ Keeps L.mine w w' := by
  cases hn : assoc q.waits k with
  | none =>
    by_cases hl : 256 ≤ q.waits.length
    · have hf : q.full k = true := by simp [WQ.full, hn, hl]
      refine (put_full L q k _ w h hn hl).mono fun e w' ⟨he, hb⟩ => ?_
      simp only [WQ.code, WQ.ins, hf, if_true]
      exact ⟨he, h.keep (Keeps.of_below (F := fun _ => False) hb) (by simp) (by simp) (by simp), Keeps.of_below hb⟩
    · have hf : q.full k = false := by simp [WQ.full, hl]
      simp only [WQ.code, WQ.ins, hf, Bool.false_eq_true, if_false]
      exact put_new L q k fd caps d f' w h hn (by omega) hnx hdue hcf
  | some p =>
    have hf : q.full k = false := by simp [WQ.full, hn]
    simp only [WQ.code, WQ.ins, hf, Bool.false_eq_true, if_false]
    exact put_old L q k p fd caps d f' w h hn hdue hcf

def WQ.add (q : WQ) (k : GKey) : WQ := q.ins k 0 q.fails

theorem add_any (L : QLoc) (q : WQ) (k : GKey) (w : World) (h : QAt w L q) (hnx : 0 ≤ q.next ∧ q.next < 1000000000) :
    Calls Try.prog 14 #[.pointer (some ⟨L.bq, 0, none⟩), .agg #[.int .u8 k.kind, .string k.name]] w fun e w' =>
      e = .returned (.int .i64 (q.code k)) ∧ QAt w' L (q.add k) ∧ Keeps L.mine w w' := by
  have H := Lib.hid (fun (w' : World) (h' : QAt w' L q) => put_any L q k 30 #[] 0 q.fails w' h' hnx (add1_any w' L q.fails) cf30)
  have K := Lib.hid (Keeps.refl L.mine w)
  have h' := h.keep ((Keeps.refl (fun _ => False) w).alloc (.cells #[.int .u8 k.kind, .string k.name] 28)) (by simp) (by simp) (by simp)
  clear hnx
  go_enter Try.func14, Try.ntmps14
  go_wp2_with fail
  refine (H.out _ h').mono ?_
  rintro e w' ⟨rfl, h1, h2⟩
  go_wp2
  go_ret
  exact ⟨rfl, h1, ((Keeps.refl L.mine w).alloc _).trans (h2.mono (fun _ _ h => h))⟩

set_option maxRecDepth 100000 in
set_option maxHeartbeats 1000000 in
theorem due_any (L : QLoc) (q : WQ) (k : GKey) (w : World) (h : QAt w L q) :
    Calls Try.prog 20 #[.pointer (some ⟨L.bq, 0, none⟩), .agg #[.int .u8 k.kind, .string k.name]] w fun e w' =>
      e = .returned (.tuple #[.int .u64 ((assoc q.waits k).getD (0, 0)).2, .bool (assoc q.waits k).isSome]) ∧ Below w.heap.size w w' := by
  obtain ⟨hd, ⟨es, c, hbw, hr⟩, _, _⟩ := h
  obtain ⟨c0, f0⟩ := cells_of_block hd 0 (.map (some L.bw)) rfl
  have hL : ∀ x : World, x.heap[L.bw]? = some (.map es c) → (Instr.lookup 59 (.map (some L.bw)) (.agg #[.int .u8 k.kind, .string k.name]) true).run Try.prog x = .ok (.tuple #[.agg #[.int .i64 ((assoc q.waits k).getD (0, 0)).1, .int .u64 ((assoc q.waits k).getD (0, 0)).2], .bool (assoc q.waits k).isSome]) x := 
    fun x hx => run_lookup_ok keyOK Try.underlying59 (0, 0) zero66 hr k x hx
  have hlw := heap_lt hbw
  have hbq := heap_lt hd
  clear hr hd
  go_enter Try.func20, Try.ntmps20
  go_wp2
  refine wp_region_N (fun w' => (w'.cell? ⟨L.bq, 0, none⟩ = some (.map (some L.bw))) ∧ (w'.cell? ⟨w.heap.size, 0, none⟩ = some (.int .u8 k.kind)) ∧ (w'.cell? ⟨w.heap.size, 1, none⟩ = some (.string k.name)) ∧ (w'.heap[L.bw]? = some (.map es c)))
    [(true, 0), (true, 1), (true, 2), (true, 3), (true, 4), (true, 5), (true, 6), (true, 7), (true, 8), (false, 9), (false, 10), (true, 11)] (by kernel_rfl) (by kernel_rfl) rfl (by kernel_rfl) ?_ ?_
  · exact ⟨by first | go_keep | exact (heap_alloc_lt hlw).trans hbw | exact (heap_alloc_lt (by simp; omega)).trans ((heap_alloc_lt hlw).trans hbw), by first | go_keep | exact (heap_alloc_lt hlw).trans hbw | exact (heap_alloc_lt (by simp; omega)).trans ((heap_alloc_lt hlw).trans hbw), by first | go_keep | exact (heap_alloc_lt hlw).trans hbw | exact (heap_alloc_lt (by simp; omega)).trans ((heap_alloc_lt hlw).trans hbw), by first | go_keep | exact (heap_alloc_lt hlw).trans hbw | exact (heap_alloc_lt (by simp; omega)).trans ((heap_alloc_lt hlw).trans hbw)⟩
  simp only [List.filterMap_cons, List.filterMap_nil, List.getElem?_cons_succ, List.getElem?_cons_zero, Option.map_some]
  apply wpSeq_takeK _ (by first | rfl | (simp [Region.wanted, yielded]; done))
  · intro w' hS
    obtain ⟨s0, s1, s2, s3⟩ := hS
    skip
    go_simp
    try rfl
  intro K hK
  go_simp
  refine hK _ ?_
  clear hK K
  apply wpSeq_takeK _ (by first | rfl | (simp [Region.wanted, yielded]; done))
  · intro w' hS
    obtain ⟨s0, s1, s2, s3⟩ := hS
    skip
    go_simp
    try rfl
  intro K hK
  go_simp
  refine hK _ ?_
  clear hK K
  apply wpSeq_takeK _ (by first | rfl | (simp [Region.wanted, yielded]; done))
  · intro w' hS
    obtain ⟨s0, s1, s2, s3⟩ := hS
    skip
    go_simp
    try rfl
  intro K hK
  go_simp
  refine hK _ ?_
  clear hK K
  apply wpSeq_takeK _ (by first | rfl | (simp [Region.wanted, yielded]; done))
  · intro w' hS
    obtain ⟨s0, s1, s2, s3⟩ := hS
    skip
    go_simp
    try rfl
  intro K hK
  go_simp
  refine hK _ ?_
  clear hK K
  apply wpSeq_takeK _ (by first | rfl | (simp [Region.wanted, yielded]; done))
  · intro w' hS
    obtain ⟨s0, s1, s2, s3⟩ := hS
    skip
    go_simp
    try rfl
  intro K hK
  go_simp
  refine hK _ ?_
  clear hK K
  apply wpSeq_takeK _ (by first | rfl | (simp [Region.wanted, yielded]; done))
  · intro w' hS
    obtain ⟨s0, s1, s2, s3⟩ := hS
    skip
    go_simp
    try rfl
  intro K hK
  go_simp
  refine hK _ ?_
  clear hK K
  apply wpSeq_takeK _ (by first | rfl | (simp [Region.wanted, yielded]; done))
  · intro w' hS
    obtain ⟨s0, s1, s2, s3⟩ := hS
    skip
    go_simp
    try rfl
  intro K hK
  go_simp
  refine hK _ ?_
  clear hK K
  apply wpSeq_takeK _ (by first | rfl | (simp [Region.wanted, yielded]; done))
  · intro w' hS
    obtain ⟨s0, s1, s2, s3⟩ := hS
    skip
    go_simp
    try rfl
  intro K hK
  go_simp
  refine hK _ ?_
  clear hK K
  apply wpSeq_takeK _ (by first | rfl | (simp [Region.wanted, yielded]; done))
  · intro w' hS
    obtain ⟨s0, s1, s2, s3⟩ := hS
    skip
    go_simp
    try rfl
  intro K hK
  go_simp
  refine hK _ ?_
  clear hK K
  refine wpSeq_alone ?_
  go_wp2
  refine QS_normal ⟨by first | go_keep | exact (heap_alloc_lt hlw).trans hbw | exact (heap_alloc_lt (by simp; omega)).trans ((heap_alloc_lt hlw).trans hbw), by first | go_keep | exact (heap_alloc_lt hlw).trans hbw | exact (heap_alloc_lt (by simp; omega)).trans ((heap_alloc_lt hlw).trans hbw), by first | go_keep | exact (heap_alloc_lt hlw).trans hbw | exact (heap_alloc_lt (by simp; omega)).trans ((heap_alloc_lt hlw).trans hbw), by first | go_keep | exact (heap_alloc_lt hlw).trans hbw | exact (heap_alloc_lt (by simp; omega)).trans ((heap_alloc_lt hlw).trans hbw)⟩ (fun _ => ?_)
  refine wpSeq_alone ?_
  go_wp2
  refine QS_normal ⟨by first | go_keep | exact (heap_alloc_lt hlw).trans hbw | exact (heap_alloc_lt (by simp; omega)).trans ((heap_alloc_lt hlw).trans hbw), by first | go_keep | exact (heap_alloc_lt hlw).trans hbw | exact (heap_alloc_lt (by simp; omega)).trans ((heap_alloc_lt hlw).trans hbw), by first | go_keep | exact (heap_alloc_lt hlw).trans hbw | exact (heap_alloc_lt (by simp; omega)).trans ((heap_alloc_lt hlw).trans hbw), by first | go_keep | exact (heap_alloc_lt hlw).trans hbw | exact (heap_alloc_lt (by simp; omega)).trans ((heap_alloc_lt hlw).trans hbw)⟩ (fun _ => ?_)
  apply wpSeq_takeK _ (by first | rfl | (simp [Region.wanted, yielded]; done))
  · intro w' hS
    obtain ⟨s0, s1, s2, s3⟩ := hS
    skip
    go_simp
    try rfl
  intro K hK
  go_simp
  refine hK _ ?_
  clear hK K
  refine wpSeq_end ?_
  clear hL
  go_wp2
  go_ret2
  exact ⟨rfl, (((Below.refl _ _).alloc (by simp) _).alloc (by simp) _).drew⟩
end Go.Proofs.Ytemeedfldapcjaa
