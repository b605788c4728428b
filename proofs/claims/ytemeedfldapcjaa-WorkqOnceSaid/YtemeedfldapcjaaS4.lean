/- A part of the walks: contracts of functions. -/
import Derived.Test.YtemeedfldapcjaaS3
import Derived.Test.YtemeedfldapcjaaQ8
namespace Go.Proofs.Ytemeedfldapcjaa
open Go.RowKit
set_option linter.unusedVariables false
set_option linter.unusedSimpArgs false
structure Both (w : World) (L : QLoc) (R : RLoc) (q : WQ) (r : RQ) (n : Nat) : Prop where
  qa : QAt w L q
  ra : RAt w R r
  rel : Rel q r n

theorem QAt.apartR {w : World} {L : QLoc} {R : RLoc} {q : WQ} {r : RQ} (hq : QAt w L q) (hr : RAt w R r) : ∀ k, L.mine k → ¬ R.mine k := by
  have hd := hr.hd
  obtain ⟨h1, ⟨es, c, h2, _⟩, ⟨es', c', h3, _⟩, _⟩ := hq
  rintro k (rfl | rfl | rfl) (h | h | h)
  · rw [← h, h1] at hd; exact absurd hd (by simp)
  · obtain ⟨cur, hg⟩ := row_block hr.hl h; rw [h1] at hg; exact absurd hg (by simp)
  · obtain ⟨cur, hg⟩ := row_block hr.hf h; rw [h1] at hg; exact absurd hg (by simp)
  · rw [← h, h2] at hd; exact absurd hd (by simp)
  · obtain ⟨cur, hg⟩ := row_block hr.hl h; rw [h2] at hg; exact absurd hg (by simp)
  · obtain ⟨cur, hg⟩ := row_block hr.hf h; rw [h2] at hg; exact absurd hg (by simp)
  · rw [← h, h3] at hd; exact absurd hd (by simp)
  · obtain ⟨cur, hg⟩ := row_block hr.hl h; rw [h3] at hg; exact absurd hg (by simp)
  · obtain ⟨cur, hg⟩ := row_block hr.hf h; rw [h3] at hg; exact absurd hg (by simp)

theorem QAt.lt {w : World} {L : QLoc} {q : WQ} (h : QAt w L q) : ∀ k, L.mine k → k < w.heap.size := by
  obtain ⟨h1, ⟨es, c, h2, _⟩, ⟨es', c', h3, _⟩, _⟩ := h
  rintro k (rfl | rfl | rfl)
  · exact heap_lt h1
  · exact heap_lt h2
  · exact heap_lt h3
theorem QAt.keepM {w w' : World} {L : QLoc} {q : WQ} (h : QAt w L q) {F : Nat → Prop} (hk : Keeps F w w') (hF : ∀ k, L.mine k → ¬ F k) : QAt w' L q := h.keep hk (hF _ (.inl rfl)) (hF _ (.inr (.inl rfl))) (hF _ (.inr (.inr rfl)))

def mine2 (L : QLoc) (R : RLoc) (k : Nat) : Prop := L.mine k ∨ R.mine k

/-- what a deed leaves -/
def DoPost (w : World) (L : QLoc) (R : RLoc) (n : Nat) (e : Ending) (w' : World) : Prop :=
  e = .returned (.bool true) ∧ ∃ q' r' R', Both w' L R' q' r' (n + 1) ∧ Keeps (mine2 L R) w w' ∧ R.Next R' w
theorem ret_true {b : Bool} (h : b = true) : Ending.returned (.bool b) = .returned (.bool true) := by rw [h]

set_option maxRecDepth 100000 in
set_option maxHeartbeats 4000000 in
theorem do_add (L : QLoc) (R : RLoc) (q : WQ) (r : RQ) (n : Nat) (k : GKey) (now : Int) (w : World) (h : Both w L R q r n) (hn : n ≤ 500) (hnow : 0 ≤ now ∧ now ≤ topU) :
    Calls Try.prog 28 #[.pointer (some ⟨L.bq, 0, none⟩), .pointer (some ⟨R.rq, 0, none⟩), .agg #[.int .i64 0, .int .u8 k.kind, .string k.name, .int .u64 now]] w (DoPost w L R n) := by
  obtain ⟨hq, hr, hrel⟩ := h
  have hltq := hq.lt
  have hltr := hr.lt
  have hq0 := hq.keep ((Keeps.refl (fun _ => False) w).alloc (.cells #[.int .i64 0, .int .u8 k.kind, .string k.name, .int .u64 now] 56)) (by simp) (by simp) (by simp)
  have hr0 := hr.keep ((Keeps.refl (fun _ => False) w).alloc (.cells #[.int .i64 0, .int .u8 k.kind, .string k.name, .int .u64 now] 56)) (by simp)
  have hk0 := (Keeps.refl (mine2 L R) w).alloc (.cells #[.int .i64 0, .int .u8 k.kind, .string k.name, .int .u64 now] 56)
  have hx0 : (w.alloc (.cells #[.int .i64 0, .int .u8 k.kind, .string k.name, .int .u64 now] 56)).heap[w.heap.size]? = some (.cells #[.int .i64 0, .int .u8 k.kind, .string k.name, .int .u64 now] 56) := heap_alloc_eq
  have hap := hq0.apartR hr0
  have nq : ¬ L.mine w.heap.size := fun hm => by have := hltq _ hm; omega
  have nr : ¬ R.mine w.heap.size := fun hm => by have := hltr _ hm; omega
  have HAP := Lib.hid hap
  have HNQ := Lib.hid nq
  have HNR := Lib.hid nr
  have HQ0 := Lib.hid hq0
  have HR0 := Lib.hid hr0
  have HK0 := Lib.hid hk0
  have HX0 := Lib.hid hx0
  have HREL := Lib.hid hrel
  have HN := Lib.hid hn
  have HNOW := Lib.hid hnow
  have hcode := hrel.code k
  generalize hcq : q.code k = c at *
  have HCQ := Lib.hid hcq
  have HCR := Lib.hid hcode
  clear hcq hcode
  clear hq hr hltq hltr hap nq nr hq0 hr0 hk0 hrel hn hnow
  obtain ⟨d0, _⟩ := cells_of_block hx0 0 _ rfl
  obtain ⟨d1, _⟩ := cells_of_block hx0 1 _ rfl
  obtain ⟨d2, _⟩ := cells_of_block hx0 2 _ rfl
  obtain ⟨d3, _⟩ := cells_of_block hx0 3 _ rfl
  simp only [List.getElem_toArray, List.getElem_cons_zero, List.getElem_cons_succ] at d0 d1 d2 d3
  clear hx0
  go_enter Try.func28, Try.ntmps28
  go_wp2
  generalize hW1 : w.alloc (.cells #[.int .i64 0, .int .u8 k.kind, .string k.name, .int .u64 now] 56) = W1 at *
  clear hW1
  refine wp_region_tree (fun w' => (w'.cell? ⟨w.heap.size, 1, none⟩ = some (.int .u8 k.kind)) ∧ (w'.cell? ⟨w.heap.size, 2, none⟩ = some (.string k.name)) ∧ (w'.cell? ⟨w.heap.size, 3, none⟩ = some (.int .u64 now))) (.t 0 (.t 1 (.t 2 (.t 4 (.t 5 (.t 6 (.a 3 (.a 7 (.t 8 (.t 9 .nil)))))))))) (by kernel_rfl) (by kernel_rfl) (by kernel_rfl) ?_ ?_
  · exact ⟨by first | exact d1 | exact d2 | exact d3, by first | exact d1 | exact d2 | exact d3, by first | exact d1 | exact d2 | exact d3⟩
  (have HQ1 := Lib.hid (show QAt W1.drew L q from HQ0.out.keep ((Keeps.refl (fun _ => False) W1).drew) (by simp) (by simp) (by simp)); have HR1 := Lib.hid (show RAt W1.drew R r from HR0.out.keep ((Keeps.refl (fun _ => False) W1).drew) (by simp)); have HK1 := Lib.hid (HK0.out.drew); have HX1 := Lib.hid (show W1.drew.heap[w.heap.size]? = _ from HX0.out); clear HQ0 HR0 HK0 HX0; generalize W1.drew = W at *; clear d0)
  apply wpT_takeK rfl _ (by first | rfl | (simp [Region.wanted, yielded]; done))
  · intro w' hS
    obtain ⟨s0, s1, s2⟩ := hS
    skip
    go_simp
    try rfl
  intro K hK
  go_simp
  refine hK _ ?_
  clear hK K
  apply wpT_takeK rfl _ (by first | rfl | (simp [Region.wanted, yielded]; done))
  · intro w' hS
    obtain ⟨s0, s1, s2⟩ := hS
    skip
    go_simp
    try rfl
  intro K hK
  go_simp
  refine hK _ ?_
  clear hK K
  apply wpT_takeK rfl _ (by first | rfl | (simp [Region.wanted, yielded]; done))
  · intro w' hS
    obtain ⟨s0, s1, s2⟩ := hS
    skip
    go_simp
    try rfl
  intro K hK
  go_simp
  refine hK _ ?_
  clear hK K
  apply wpT_takeK rfl _ (by first | rfl | (simp [Region.wanted, yielded]; done))
  · intro w' hS
    obtain ⟨s0, s1, s2⟩ := hS
    skip
    go_simp
    try rfl
  intro K hK
  go_simp
  refine hK _ ?_
  clear hK K
  apply wpT_takeK rfl _ (by first | rfl | (simp [Region.wanted, yielded]; done))
  · intro w' hS
    obtain ⟨s0, s1, s2⟩ := hS
    skip
    go_simp
    try rfl
  intro K hK
  go_simp
  refine hK _ ?_
  clear hK K
  apply wpT_takeK rfl _ (by first | rfl | (simp [Region.wanted, yielded]; done))
  · intro w' hS
    obtain ⟨s0, s1, s2⟩ := hS
    skip
    go_simp
    try rfl
  intro K hK
  go_simp
  refine hK _ ?_
  clear hK K
  refine wpT_alone rfl ?_
  focus (go_wp2_with fail; refine (add_any L q k _ HQ1.out ⟨HREL.out.nx.1, by have := HREL.out.nx.2; have := HN.out; omega⟩).mono ?_; rintro e w2 ⟨rfl, hq2, hk2⟩; rw [HCQ.out]; have hx2 := (hk2.block _ (heap_lt HX1.out) HNQ.out).trans HX1.out; have HR2 := Lib.hid (HR1.out.keep hk2 (fun i h1 h2 => HAP.out i h2 h1)); have HK2 := Lib.hid (HK1.out.trans (hk2.mono (fun i _ h => .inl h))); have HQ2 := Lib.hid hq2; have HX2 := Lib.hid hx2; clear d1 d2 d3; obtain ⟨d1, _⟩ := cells_of_block hx2 1 _ rfl; obtain ⟨d2, _⟩ := cells_of_block hx2 2 _ rfl; obtain ⟨d3, _⟩ := cells_of_block hx2 3 _ rfl; simp only [List.getElem_toArray, List.getElem_cons_zero, List.getElem_cons_succ] at d1 d2 d3; clear hq2 hk2 hx2; go_wp2)
  refine QS_normal ⟨by first | exact d1 | exact d2 | exact d3, by first | exact d1 | exact d2 | exact d3, by first | exact d1 | exact d2 | exact d3⟩ (fun _ => ?_)
  refine wpT_alone rfl ?_
  focus (go_wp2_with fail; refine (addR_any R r k _ HR2.out (by have := HREL.out.len; have h2 := congrArg List.length HREL.out.l; simp at h2; have := HN.out; omega)).mono ?_; rintro e w3 ⟨rfl, R3, hr3, hk3, hn3⟩; rw [← HCR.out]; have hx3 := (hk3.block _ (heap_lt HX2.out) HNR.out).trans HX2.out; have HQ3 := Lib.hid (HQ2.out.keepM hk3 (fun i h1 h2 => HAP.out i h1 h2)); have HK3 := Lib.hid (HK2.out.trans (hk3.mono (fun i _ h => .inr h))); have HR3 := Lib.hid hr3; have HN3 := Lib.hid ((RLoc.Next.refl R w).trans hn3 HK2.out.size); clear d1 d2 d3; obtain ⟨d1, _⟩ := cells_of_block hx3 1 _ rfl; obtain ⟨d2, _⟩ := cells_of_block hx3 2 _ rfl; obtain ⟨d3, _⟩ := cells_of_block hx3 3 _ rfl; simp only [List.getElem_toArray, List.getElem_cons_zero, List.getElem_cons_succ] at d1 d2 d3; clear hr3 hk3 hn3 hx3; go_wp2)
  refine QS_normal ⟨by first | exact d1 | exact d2 | exact d3, by first | exact d1 | exact d2 | exact d3, by first | exact d1 | exact d2 | exact d3⟩ (fun _ => ?_)
  apply wpT_takeK rfl _ (by first | rfl | (simp [Region.wanted, yielded]; done))
  · intro w' hS
    obtain ⟨s0, s1, s2⟩ := hS
    skip
    go_simp
    try rfl
  intro K hK
  go_simp
  refine hK _ ?_
  clear hK K
  apply wpT_takeK rfl _ (by first | rfl | (simp [Region.wanted, yielded]; done))
  · intro w' hS
    obtain ⟨s0, s1, s2⟩ := hS
    skip
    go_simp
    try rfl
  intro K hK
  go_simp
  refine hK _ ?_
  clear hK K
  refine wpT_end ?_
  go_wp2
  go_ret
  exact ⟨ret_true (by simp), _, _, R3, ⟨HQ3.out, HR3.out, HREL.out.add k⟩, HK3.out, HN3.out⟩

set_option maxRecDepth 100000 in
set_option maxHeartbeats 4000000 in
theorem do_fail (L : QLoc) (R : RLoc) (q : WQ) (r : RQ) (n : Nat) (k : GKey) (now : Int) (w : World) (h : Both w L R q r n) (hn : n ≤ 500) (hnow : 0 ≤ now ∧ now ≤ topU) :
    Calls Try.prog 28 #[.pointer (some ⟨L.bq, 0, none⟩), .pointer (some ⟨R.rq, 0, none⟩), .agg #[.int .i64 1, .int .u8 k.kind, .string k.name, .int .u64 now]] w (DoPost w L R n) := by
  obtain ⟨hq, hr, hrel⟩ := h
  have hltq := hq.lt
  have hltr := hr.lt
  have hq0 := hq.keep ((Keeps.refl (fun _ => False) w).alloc (.cells #[.int .i64 1, .int .u8 k.kind, .string k.name, .int .u64 now] 56)) (by simp) (by simp) (by simp)
  have hr0 := hr.keep ((Keeps.refl (fun _ => False) w).alloc (.cells #[.int .i64 1, .int .u8 k.kind, .string k.name, .int .u64 now] 56)) (by simp)
  have hk0 := (Keeps.refl (mine2 L R) w).alloc (.cells #[.int .i64 1, .int .u8 k.kind, .string k.name, .int .u64 now] 56)
  have hx0 : (w.alloc (.cells #[.int .i64 1, .int .u8 k.kind, .string k.name, .int .u64 now] 56)).heap[w.heap.size]? = some (.cells #[.int .i64 1, .int .u8 k.kind, .string k.name, .int .u64 now] 56) := heap_alloc_eq
  have hap := hq0.apartR hr0
  have nq : ¬ L.mine w.heap.size := fun hm => by have := hltq _ hm; omega
  have nr : ¬ R.mine w.heap.size := fun hm => by have := hltr _ hm; omega
  have HAP := Lib.hid hap
  have HNQ := Lib.hid nq
  have HNR := Lib.hid nr
  have HQ0 := Lib.hid hq0
  have HR0 := Lib.hid hr0
  have HK0 := Lib.hid hk0
  have HX0 := Lib.hid hx0
  have HREL := Lib.hid hrel
  have HN := Lib.hid hn
  have HNOW := Lib.hid hnow
  have hcode := hrel.code k
  generalize hcq : q.code k = c at *
  have HCQ := Lib.hid hcq
  have HCR := Lib.hid hcode
  clear hcq hcode
  clear hq hr hltq hltr hap nq nr hq0 hr0 hk0 hrel hn hnow
  obtain ⟨d0, _⟩ := cells_of_block hx0 0 _ rfl
  obtain ⟨d1, _⟩ := cells_of_block hx0 1 _ rfl
  obtain ⟨d2, _⟩ := cells_of_block hx0 2 _ rfl
  obtain ⟨d3, _⟩ := cells_of_block hx0 3 _ rfl
  simp only [List.getElem_toArray, List.getElem_cons_zero, List.getElem_cons_succ] at d0 d1 d2 d3
  clear hx0
  go_enter Try.func28, Try.ntmps28
  go_wp2
  generalize hW1 : w.alloc (.cells #[.int .i64 1, .int .u8 k.kind, .string k.name, .int .u64 now] 56) = W1 at *
  clear hW1
  refine wp_region_tree (fun w' => (w'.cell? ⟨w.heap.size, 1, none⟩ = some (.int .u8 k.kind)) ∧ (w'.cell? ⟨w.heap.size, 2, none⟩ = some (.string k.name)) ∧ (w'.cell? ⟨w.heap.size, 3, none⟩ = some (.int .u64 now))) (.t 0 (.t 1 (.t 2 (.t 3 (.t 4 (.t 6 (.t 7 (.t 8 (.t 9 (.t 10 (.a 5 (.a 11 (.t 12 (.t 13 .nil)))))))))))))) (by kernel_rfl) (by kernel_rfl) (by kernel_rfl) ?_ ?_
  · exact ⟨by first | exact d1 | exact d2 | exact d3, by first | exact d1 | exact d2 | exact d3, by first | exact d1 | exact d2 | exact d3⟩
  (have HQ1 := Lib.hid (show QAt W1.drew L q from HQ0.out.keep ((Keeps.refl (fun _ => False) W1).drew) (by simp) (by simp) (by simp)); have HR1 := Lib.hid (show RAt W1.drew R r from HR0.out.keep ((Keeps.refl (fun _ => False) W1).drew) (by simp)); have HK1 := Lib.hid (HK0.out.drew); have HX1 := Lib.hid (show W1.drew.heap[w.heap.size]? = _ from HX0.out); clear HQ0 HR0 HK0 HX0; generalize W1.drew = W at *; clear d0)
  apply wpT_takeK rfl _ (by first | rfl | (simp [Region.wanted, yielded]; done))
  · intro w' hS
    obtain ⟨s0, s1, s2⟩ := hS
    skip
    go_simp
    try rfl
  intro K hK
  go_simp
  refine hK _ ?_
  clear hK K
  apply wpT_takeK rfl _ (by first | rfl | (simp [Region.wanted, yielded]; done))
  · intro w' hS
    obtain ⟨s0, s1, s2⟩ := hS
    skip
    go_simp
    try rfl
  intro K hK
  go_simp
  refine hK _ ?_
  clear hK K
  apply wpT_takeK rfl _ (by first | rfl | (simp [Region.wanted, yielded]; done))
  · intro w' hS
    obtain ⟨s0, s1, s2⟩ := hS
    skip
    go_simp
    try rfl
  intro K hK
  go_simp
  refine hK _ ?_
  clear hK K
  apply wpT_takeK rfl _ (by first | rfl | (simp [Region.wanted, yielded]; done))
  · intro w' hS
    obtain ⟨s0, s1, s2⟩ := hS
    skip
    go_simp
    try rfl
  intro K hK
  go_simp
  refine hK _ ?_
  clear hK K
  apply wpT_takeK rfl _ (by first | rfl | (simp [Region.wanted, yielded]; done))
  · intro w' hS
    obtain ⟨s0, s1, s2⟩ := hS
    skip
    go_simp
    try rfl
  intro K hK
  go_simp
  refine hK _ ?_
  clear hK K
  apply wpT_takeK rfl _ (by first | rfl | (simp [Region.wanted, yielded]; done))
  · intro w' hS
    obtain ⟨s0, s1, s2⟩ := hS
    skip
    go_simp
    try rfl
  intro K hK
  go_simp
  refine hK _ ?_
  clear hK K
  apply wpT_takeK rfl _ (by first | rfl | (simp [Region.wanted, yielded]; done))
  · intro w' hS
    obtain ⟨s0, s1, s2⟩ := hS
    skip
    go_simp
    try rfl
  intro K hK
  go_simp
  refine hK _ ?_
  clear hK K
  apply wpT_takeK rfl _ (by first | rfl | (simp [Region.wanted, yielded]; done))
  · intro w' hS
    obtain ⟨s0, s1, s2⟩ := hS
    skip
    go_simp
    try rfl
  intro K hK
  go_simp
  refine hK _ ?_
  clear hK K
  apply wpT_takeK rfl _ (by first | rfl | (simp [Region.wanted, yielded]; done))
  · intro w' hS
    obtain ⟨s0, s1, s2⟩ := hS
    skip
    go_simp
    try rfl
  intro K hK
  go_simp
  refine hK _ ?_
  clear hK K
  apply wpT_takeK rfl _ (by first | rfl | (simp [Region.wanted, yielded]; done))
  · intro w' hS
    obtain ⟨s0, s1, s2⟩ := hS
    skip
    go_simp
    try rfl
  intro K hK
  go_simp
  refine hK _ ?_
  clear hK K
  refine wpT_alone rfl ?_
  focus (go_wp2_with fail; refine (fail_any L q k now _ HQ1.out ⟨HREL.out.nx.1, by have := HREL.out.nx.2; have := HN.out; omega⟩ (HREL.out.fb k) HNOW.out).mono ?_; rintro e w2 ⟨rfl, hq2, hk2⟩; rw [HCQ.out]; have hx2 := (hk2.block _ (heap_lt HX1.out) HNQ.out).trans HX1.out; have HR2 := Lib.hid (HR1.out.keep hk2 (fun i h1 h2 => HAP.out i h2 h1)); have HK2 := Lib.hid (HK1.out.trans (hk2.mono (fun i _ h => .inl h))); have HQ2 := Lib.hid hq2; have HX2 := Lib.hid hx2; clear d1 d2 d3; obtain ⟨d1, _⟩ := cells_of_block hx2 1 _ rfl; obtain ⟨d2, _⟩ := cells_of_block hx2 2 _ rfl; obtain ⟨d3, _⟩ := cells_of_block hx2 3 _ rfl; simp only [List.getElem_toArray, List.getElem_cons_zero, List.getElem_cons_succ] at d1 d2 d3; clear hq2 hk2 hx2; go_wp2)
  refine QS_normal ⟨by first | exact d1 | exact d2 | exact d3, by first | exact d1 | exact d2 | exact d3, by first | exact d1 | exact d2 | exact d3⟩ (fun _ => ?_)
  refine wpT_alone rfl ?_
  focus (go_wp2_with fail; refine (failR_any R r k now _ HR2.out (by have := HREL.out.len; have h2 := congrArg List.length HREL.out.l; simp at h2; have := HN.out; omega) (by have := HREL.out.flen; have := HN.out; omega) (by rw [← HREL.out.f]; exact HREL.out.fb k) HNOW.out).mono ?_; rintro e w3 ⟨rfl, R3, hr3, hk3, hn3⟩; rw [← HCR.out]; have hx3 := (hk3.block _ (heap_lt HX2.out) HNR.out).trans HX2.out; have HQ3 := Lib.hid (HQ2.out.keepM hk3 (fun i h1 h2 => HAP.out i h1 h2)); have HK3 := Lib.hid (HK2.out.trans (hk3.mono (fun i _ h => .inr h))); have HR3 := Lib.hid hr3; have HN3 := Lib.hid ((RLoc.Next.refl R w).trans hn3 HK2.out.size); clear d1 d2 d3; obtain ⟨d1, _⟩ := cells_of_block hx3 1 _ rfl; obtain ⟨d2, _⟩ := cells_of_block hx3 2 _ rfl; obtain ⟨d3, _⟩ := cells_of_block hx3 3 _ rfl; simp only [List.getElem_toArray, List.getElem_cons_zero, List.getElem_cons_succ] at d1 d2 d3; clear hr3 hk3 hn3 hx3; go_wp2)
  refine QS_normal ⟨by first | exact d1 | exact d2 | exact d3, by first | exact d1 | exact d2 | exact d3, by first | exact d1 | exact d2 | exact d3⟩ (fun _ => ?_)
  apply wpT_takeK rfl _ (by first | rfl | (simp [Region.wanted, yielded]; done))
  · intro w' hS
    obtain ⟨s0, s1, s2⟩ := hS
    skip
    go_simp
    try rfl
  intro K hK
  go_simp
  refine hK _ ?_
  clear hK K
  apply wpT_takeK rfl _ (by first | rfl | (simp [Region.wanted, yielded]; done))
  · intro w' hS
    obtain ⟨s0, s1, s2⟩ := hS
    skip
    go_simp
    try rfl
  intro K hK
  go_simp
  refine hK _ ?_
  clear hK K
  refine wpT_end ?_
  go_wp2
  go_ret
  exact ⟨ret_true (by simp), _, _, R3, ⟨HQ3.out, HR3.out, HREL.out.fail k now HNOW.out⟩, HK3.out, HN3.out⟩

set_option maxRecDepth 100000 in
set_option maxHeartbeats 4000000 in
theorem do_forget (L : QLoc) (R : RLoc) (q : WQ) (r : RQ) (n : Nat) (k : GKey) (now : Int) (w : World) (h : Both w L R q r n) (hn : n ≤ 500) (hnow : 0 ≤ now ∧ now ≤ topU) :
    Calls Try.prog 28 #[.pointer (some ⟨L.bq, 0, none⟩), .pointer (some ⟨R.rq, 0, none⟩), .agg #[.int .i64 2, .int .u8 k.kind, .string k.name, .int .u64 now]] w (DoPost w L R n) := by
  obtain ⟨hq, hr, hrel⟩ := h
  have hltq := hq.lt
  have hltr := hr.lt
  have hq0 := hq.keep ((Keeps.refl (fun _ => False) w).alloc (.cells #[.int .i64 2, .int .u8 k.kind, .string k.name, .int .u64 now] 56)) (by simp) (by simp) (by simp)
  have hr0 := hr.keep ((Keeps.refl (fun _ => False) w).alloc (.cells #[.int .i64 2, .int .u8 k.kind, .string k.name, .int .u64 now] 56)) (by simp)
  have hk0 := (Keeps.refl (mine2 L R) w).alloc (.cells #[.int .i64 2, .int .u8 k.kind, .string k.name, .int .u64 now] 56)
  have hx0 : (w.alloc (.cells #[.int .i64 2, .int .u8 k.kind, .string k.name, .int .u64 now] 56)).heap[w.heap.size]? = some (.cells #[.int .i64 2, .int .u8 k.kind, .string k.name, .int .u64 now] 56) := heap_alloc_eq
  have hap := hq0.apartR hr0
  have nq : ¬ L.mine w.heap.size := fun hm => by have := hltq _ hm; omega
  have nr : ¬ R.mine w.heap.size := fun hm => by have := hltr _ hm; omega
  have HAP := Lib.hid hap
  have HNQ := Lib.hid nq
  have HNR := Lib.hid nr
  have HQ0 := Lib.hid hq0
  have HR0 := Lib.hid hr0
  have HK0 := Lib.hid hk0
  have HX0 := Lib.hid hx0
  have HREL := Lib.hid hrel
  have HN := Lib.hid hn
  have HNOW := Lib.hid hnow
  clear hq hr hltq hltr hap nq nr hq0 hr0 hk0 hrel hn hnow
  obtain ⟨d0, _⟩ := cells_of_block hx0 0 _ rfl
  obtain ⟨d1, _⟩ := cells_of_block hx0 1 _ rfl
  obtain ⟨d2, _⟩ := cells_of_block hx0 2 _ rfl
  obtain ⟨d3, _⟩ := cells_of_block hx0 3 _ rfl
  simp only [List.getElem_toArray, List.getElem_cons_zero, List.getElem_cons_succ] at d0 d1 d2 d3
  clear hx0
  go_enter Try.func28, Try.ntmps28
  go_wp2
  generalize hW1 : w.alloc (.cells #[.int .i64 2, .int .u8 k.kind, .string k.name, .int .u64 now] 56) = W1 at *
  clear hW1
  refine wp_region_tree (fun w' => (w'.cell? ⟨w.heap.size, 1, none⟩ = some (.int .u8 k.kind)) ∧ (w'.cell? ⟨w.heap.size, 2, none⟩ = some (.string k.name)) ∧ (w'.cell? ⟨w.heap.size, 3, none⟩ = some (.int .u64 now))) (.t 0 (.t 1 (.t 2 (.t 4 (.t 5 (.t 6 (.a 3 (.a 7 (.t 8 (.t 9 .nil)))))))))) (by kernel_rfl) (by kernel_rfl) (by kernel_rfl) ?_ ?_
  · exact ⟨by first | exact d1 | exact d2 | exact d3, by first | exact d1 | exact d2 | exact d3, by first | exact d1 | exact d2 | exact d3⟩
  (have HQ1 := Lib.hid (show QAt W1.drew L q from HQ0.out.keep ((Keeps.refl (fun _ => False) W1).drew) (by simp) (by simp) (by simp)); have HR1 := Lib.hid (show RAt W1.drew R r from HR0.out.keep ((Keeps.refl (fun _ => False) W1).drew) (by simp)); have HK1 := Lib.hid (HK0.out.drew); have HX1 := Lib.hid (show W1.drew.heap[w.heap.size]? = _ from HX0.out); clear HQ0 HR0 HK0 HX0; generalize W1.drew = W at *; clear d0)
  apply wpT_takeK rfl _ (by first | rfl | (simp [Region.wanted, yielded]; done))
  · intro w' hS
    obtain ⟨s0, s1, s2⟩ := hS
    skip
    go_simp
    try rfl
  intro K hK
  go_simp
  refine hK _ ?_
  clear hK K
  apply wpT_takeK rfl _ (by first | rfl | (simp [Region.wanted, yielded]; done))
  · intro w' hS
    obtain ⟨s0, s1, s2⟩ := hS
    skip
    go_simp
    try rfl
  intro K hK
  go_simp
  refine hK _ ?_
  clear hK K
  apply wpT_takeK rfl _ (by first | rfl | (simp [Region.wanted, yielded]; done))
  · intro w' hS
    obtain ⟨s0, s1, s2⟩ := hS
    skip
    go_simp
    try rfl
  intro K hK
  go_simp
  refine hK _ ?_
  clear hK K
  apply wpT_takeK rfl _ (by first | rfl | (simp [Region.wanted, yielded]; done))
  · intro w' hS
    obtain ⟨s0, s1, s2⟩ := hS
    skip
    go_simp
    try rfl
  intro K hK
  go_simp
  refine hK _ ?_
  clear hK K
  apply wpT_takeK rfl _ (by first | rfl | (simp [Region.wanted, yielded]; done))
  · intro w' hS
    obtain ⟨s0, s1, s2⟩ := hS
    skip
    go_simp
    try rfl
  intro K hK
  go_simp
  refine hK _ ?_
  clear hK K
  apply wpT_takeK rfl _ (by first | rfl | (simp [Region.wanted, yielded]; done))
  · intro w' hS
    obtain ⟨s0, s1, s2⟩ := hS
    skip
    go_simp
    try rfl
  intro K hK
  go_simp
  refine hK _ ?_
  clear hK K
  refine wpT_alone rfl ?_
  focus (go_wp2_with fail; refine (forget_any L q k _ HQ1.out).mono ?_; rintro e w2 ⟨rfl, hq2, hk2⟩; have hx2 := (hk2.block _ (heap_lt HX1.out) HNQ.out).trans HX1.out; have HR2 := Lib.hid (HR1.out.keep hk2 (fun i h1 h2 => HAP.out i h2 h1)); have HK2 := Lib.hid (HK1.out.trans (hk2.mono (fun i _ h => .inl h))); have HQ2 := Lib.hid hq2; have HX2 := Lib.hid hx2; clear d1 d2 d3; obtain ⟨d1, _⟩ := cells_of_block hx2 1 _ rfl; obtain ⟨d2, _⟩ := cells_of_block hx2 2 _ rfl; obtain ⟨d3, _⟩ := cells_of_block hx2 3 _ rfl; simp only [List.getElem_toArray, List.getElem_cons_zero, List.getElem_cons_succ] at d1 d2 d3; clear hq2 hk2 hx2; go_wp2)
  refine QS_normal ⟨by first | exact d1 | exact d2 | exact d3, by first | exact d1 | exact d2 | exact d3, by first | exact d1 | exact d2 | exact d3⟩ (fun _ => ?_)
  refine wpT_alone rfl ?_
  focus (go_wp2_with fail; refine (forgetR_any R r k _ HR2.out (by have := HREL.out.flen; have := HN.out; omega)).mono ?_; rintro e w3 ⟨rfl, R3, hr3, hk3, hn3⟩; have hx3 := (hk3.block _ (heap_lt HX2.out) HNR.out).trans HX2.out; have HQ3 := Lib.hid (HQ2.out.keepM hk3 (fun i h1 h2 => HAP.out i h1 h2)); have HK3 := Lib.hid (HK2.out.trans (hk3.mono (fun i _ h => .inr h))); have HR3 := Lib.hid hr3; have HN3 := Lib.hid ((RLoc.Next.refl R w).trans hn3 HK2.out.size); clear d1 d2 d3; obtain ⟨d1, _⟩ := cells_of_block hx3 1 _ rfl; obtain ⟨d2, _⟩ := cells_of_block hx3 2 _ rfl; obtain ⟨d3, _⟩ := cells_of_block hx3 3 _ rfl; simp only [List.getElem_toArray, List.getElem_cons_zero, List.getElem_cons_succ] at d1 d2 d3; clear hr3 hk3 hn3 hx3; go_wp2)
  refine QS_normal ⟨by first | exact d1 | exact d2 | exact d3, by first | exact d1 | exact d2 | exact d3, by first | exact d1 | exact d2 | exact d3⟩ (fun _ => ?_)
  apply wpT_takeK rfl _ (by first | rfl | (simp [Region.wanted, yielded]; done))
  · intro w' hS
    obtain ⟨s0, s1, s2⟩ := hS
    skip
    go_simp
    try rfl
  intro K hK
  go_simp
  refine hK _ ?_
  clear hK K
  apply wpT_takeK rfl _ (by first | rfl | (simp [Region.wanted, yielded]; done))
  · intro w' hS
    obtain ⟨s0, s1, s2⟩ := hS
    skip
    go_simp
    try rfl
  intro K hK
  go_simp
  refine hK _ ?_
  clear hK K
  refine wpT_end ?_
  go_wp2
  go_ret
  exact ⟨ret_true (by simp), _, _, R3, ⟨HQ3.out, HR3.out, HREL.out.forget k⟩, HK3.out, HN3.out⟩

end Go.Proofs.Ytemeedfldapcjaa
