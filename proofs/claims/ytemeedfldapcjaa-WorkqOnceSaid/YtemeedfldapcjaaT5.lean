/- A part of the walks: contracts of functions. -/
import Derived.Test.YtemeedfldapcjaaT4
import Derived.Test.YtemeedfldapcjaaTree
namespace Go.Proofs.Ytemeedfldapcjaa
open Go.RowKit
set_option linter.unusedVariables false
set_option linter.unusedSimpArgs false
theorem dueR_rel {q : WQ} {r : RQ} {n : Nat} (h : Rel q r n) (R : RLoc) (k : GKey) (w : World) (hr : RAt w R r) :
    Calls Try.prog 36 #[.pointer (some ⟨R.rq, 0, none⟩), .agg #[.int .u8 k.kind, .string k.name]] w fun e w' => e = .returned (.tuple #[.int .u64 ((assoc q.waits k).getD (0, 0)).2, .bool (assoc q.waits k).isSome]) ∧ Below w.heap.size w w' := by
  have e1 : (assoc r.l k).getD 0 = ((assoc q.waits k).getD (0, 0)).2 := by rw [← h.l, assoc_pi]; cases assoc q.waits k <;> rfl
  have e2 : (assoc r.l k).isSome = (assoc q.waits k).isSome := by rw [← h.l, assoc_pi]; cases assoc q.waits k <;> rfl
  rw [← e1, ← e2]
  exact dueR_any R r k w hr
theorem nextR_rel {q : WQ} {r : RQ} {n : Nat} (h : Rel q r n) (R : RLoc) (w : World) (hr : RAt w R r) :
    Calls Try.prog 37 #[.pointer (some ⟨R.rq, 0, none⟩)] w fun e w' => e = .returned (nextV q) ∧ Below w.heap.size w w' := by
  refine (nextR_any R r w hr).mono ?_
  rintro e w' (⟨⟨h0, h1⟩, hb⟩ | ⟨⟨i, hi, hf, he⟩, hb⟩)
  · have hq : q.waits = [] := by have := h.l; rw [h0] at this; simpa using this
    refine ⟨?_, hb⟩
    rcases h1 with h1 | h1
    · rw [h1]; simp [nextV, hq, bestL]
    · exact h1.elim
  · obtain ⟨hi', hb', hp⟩ := h.first hi hf
    refine ⟨?_, hb⟩
    rw [he, hp]; simp [nextV, hb', pi]
theorem failsR_rel {q : WQ} {r : RQ} {n : Nat} (h : Rel q r n) (R : RLoc) (k : GKey) (w : World) (hr : RAt w R r) :
    Calls Try.prog 38 #[.pointer (some ⟨R.rq, 0, none⟩), .agg #[.int .u8 k.kind, .string k.name]] w fun e w' => e = .returned (.int .i64 ((assoc q.fails k).getD 0)) ∧ Below w.heap.size w w' := by
  rw [h.f k]; exact failsR_any R r k w hr
theorem lenR_rel {q : WQ} {r : RQ} {n : Nat} (h : Rel q r n) (R : RLoc) (w : World) (hr : RAt w R r) :
    Calls Try.prog 39 #[.pointer (some ⟨R.rq, 0, none⟩)] w fun e w' => e = .returned (.int .i64 q.waits.length) ∧ w = w' := by
  have : q.waits.length = r.l.length := by rw [← h.l]; simp
  rw [this]; exact lenR_any R r w hr
theorem nextV_is (q : WQ) : ∃ N B, nextV q = .tuple #[.int .u64 N, .bool B] := by
  unfold nextV
  cases bestL q.waits with
  | none => exact ⟨_, _, rfl⟩
  | some p => exact ⟨_, _, rfl⟩

/-- both, and the key's box -/
structure SS (w W : World) (L : QLoc) (R : RLoc) (q : WQ) (r : RQ) (k : GKey) : Prop where
  qa : QAt W L q
  ra : RAt W R r
  b : Below w.heap.size w W
  box : W.heap[w.heap.size]? = some (.cells #[.int .u8 k.kind, .string k.name] 28)
theorem SS.next {w W W' : World} {L : QLoc} {R : RLoc} {q : WQ} {r : RQ} {k : GKey} (h : SS w W L R q r k) (hb : Below W.heap.size W W') : SS w W' L R q r k :=
  ⟨h.qa.keep (Keeps.of_below (F := fun _ => False) hb) (by simp) (by simp) (by simp), h.ra.keep (Keeps.of_below (F := fun _ => False) hb) (by simp), h.b.trans (hb.mono h.b.size), (hb.block _ (heap_lt h.box)).trans h.box⟩
theorem SS.drew {w W : World} {L : QLoc} {R : RLoc} {q : WQ} {r : RQ} {k : GKey} (h : SS w W L R q r k) : SS w W.drew L R q r k := h.next (Below.refl _ _).drew
theorem SS.c0 {w W : World} {L : QLoc} {R : RLoc} {q : WQ} {r : RQ} {k : GKey} (h : SS w W L R q r k) : W.cell? ⟨w.heap.size, 0, none⟩ = some (.int .u8 k.kind) := (cells_of_block h.box 0 _ rfl).1
theorem SS.c1 {w W : World} {L : QLoc} {R : RLoc} {q : WQ} {r : RQ} {k : GKey} (h : SS w W L R q r k) : W.cell? ⟨w.heap.size, 1, none⟩ = some (.string k.name) := (cells_of_block h.box 1 _ rfl).1

set_option maxRecDepth 100000 in
set_option maxHeartbeats 8000000 in
theorem same_any (L : QLoc) (R : RLoc) (q : WQ) (r : RQ) (n : Nat) (k : GKey) (w : World) (h : Both w L R q r n) (hn : n ≤ 500) :
    Calls Try.prog 25 #[.pointer (some ⟨L.bq, 0, none⟩), .pointer (some ⟨R.rq, 0, none⟩), .agg #[.int .u8 k.kind, .string k.name]] w fun e w' => e = .returned (.bool true) ∧ Below w.heap.size w w' := by
  have HREL := Lib.hid (h.rel.mono hn)
  have S0 := Lib.hid (show SS w (w.alloc (.cells #[.int .u8 k.kind, .string k.name] 28)) L R q r k from
    ⟨h.qa.keep ((Keeps.refl (fun _ => False) w).alloc _) (by simp) (by simp) (by simp), h.ra.keep ((Keeps.refl (fun _ => False) w).alloc _) (by simp), (Below.refl _ _).alloc (Nat.le_refl _) _, heap_alloc_eq⟩)
  have s0 := S0.out.c0
  have s1 := S0.out.c1
  clear h hn
  go_enter Try.func25, Try.ntmps25
  go_wp2_with fail
  generalize hW0 : w.alloc (.cells #[.int .u8 k.kind, .string k.name] 28) = W0 at *
  clear hW0
  refine (due_any L q k W0 S0.out.qa).mono ?_
  rintro e w1 ⟨rfl, hb⟩
  have S1 := Lib.hid (S0.out.next hb)
  clear hb s0 s1
  have s0 := S1.out.c0
  have s1 := S1.out.c1
  have HD := Lib.hid (fun w' h' => dueR_rel HREL.out R k w' h')
  generalize ((assoc q.waits k).getD (0, 0)).2 = D at *
  generalize (assoc q.waits k).isSome = OK at *
  go_wp2_with fail
  refine (HD.out w1 S1.out.ra).mono ?_
  rintro e w2 ⟨rfl, hb⟩
  have S2 := Lib.hid (S1.out.next hb)
  clear hb s0 s1
  obtain ⟨N, B, hnv⟩ := nextV_is q
  have HNV := Lib.hid hnv
  clear hnv
  go_wp2_with fail
  refine (next_any L q w2 S2.out.qa HREL.out.since).mono ?_
  rintro e w3 ⟨rfl, hb⟩
  rw [HNV.out]
  have S3 := Lib.hid (S2.out.next hb)
  clear hb
  go_wp2_with fail
  refine (nextR_rel HREL.out R w3 S3.out.ra).mono ?_
  rintro e w4 ⟨rfl, hb⟩
  rw [HNV.out]
  have S4 := Lib.hid (S3.out.next hb)
  clear hb
  have HF := Lib.hid (fun w' h' => fails_any L q k w' h')
  have HFR := Lib.hid (fun w' h' => failsR_rel HREL.out R k w' h')
  have HL := Lib.hid (fun w' h' => len_any L q w' h')
  have HLR := Lib.hid (fun w' h' => lenR_rel HREL.out R w' h')
  have HLI := Lib.hid (fun w' h' => list_any L q w' h' HREL.out.since HREL.out.keys HREL.out.top HREL.out.len)
  have HLIR := Lib.hid (fun w' h' => listR_any R q r w' h' HREL.out)
  generalize (assoc q.fails k).getD 0 = F at *
  generalize drain q.waits.length q.waits = keys at *
  generalize hQL : (q.waits.length : Int) = QL at *
  clear hQL
  have hcur := S4.out.drew
  go_wp2_with fail
  refine wp_region_tree (fun w' => (w'.cell? ⟨w.heap.size, 0, none⟩ = some (.int .u8 k.kind)) ∧ (w'.cell? ⟨w.heap.size, 1, none⟩ = some (.string k.name))) (.t 0 (.t 1 (.t 2 (.t 3 (.t 4 (.t 5 (.t 6 (.t 7 (.t 8 (.t 9 (.t 10 (.t 11 (.t 12 (.t 13 (.t 14 (.t 15 (.t 16 (.t 17 (.t 18 (.t 19 (.t 20 (.t 22 (.t 23 (.a 21 (.a 24 (.t 25 (.t 26 (.t 27 (.t 28 (.t 30 (.a 29 (.a 31 (.t 32 (.t 33 (.t 34 (.t 35 (.t 37 (.a 36 (.a 38 (.a 39 (.t 40 (.t 41 .nil)))))))))))))))))))))))))))))))))))))))))) (by kernel_rfl) (by kernel_rfl) (by kernel_rfl) ?_ ?_
  · exact ⟨by first | exact hcur.c0 | exact hcur.c1, by first | exact hcur.c0 | exact hcur.c1⟩
  (generalize w4.drew = wn at *)
  apply wpT_takeK rfl _ (by first | rfl | (simp [Region.wanted, yielded]; done))
  · intro w' hS
    obtain ⟨s0, s1⟩ := hS
    skip
    go_simp
    try rfl
  intro K hK
  go_simp
  refine hK _ ?_
  clear hK K
  apply wpT_takeK rfl _ (by first | rfl | (simp [Region.wanted, yielded]; done))
  · intro w' hS
    obtain ⟨s0, s1⟩ := hS
    skip
    go_simp
    try rfl
  intro K hK
  go_simp
  refine hK _ ?_
  clear hK K
  apply wpT_takeK rfl _ (by first | rfl | (simp [Region.wanted, yielded]; done))
  · intro w' hS
    obtain ⟨s0, s1⟩ := hS
    skip
    go_simp
    try rfl
  intro K hK
  go_simp
  refine hK _ ?_
  clear hK K
  apply wpT_takeK rfl _ (by first | rfl | (simp [Region.wanted, yielded]; done))
  · intro w' hS
    obtain ⟨s0, s1⟩ := hS
    skip
    go_simp
    try rfl
  intro K hK
  go_simp
  refine hK _ ?_
  clear hK K
  apply wpT_takeK rfl _ (by first | rfl | (simp [Region.wanted, yielded]; done))
  · intro w' hS
    obtain ⟨s0, s1⟩ := hS
    skip
    go_simp
    try rfl
  intro K hK
  go_simp
  refine hK _ ?_
  clear hK K
  apply wpT_takeK rfl _ (by first | rfl | (simp [Region.wanted, yielded]; done))
  · intro w' hS
    obtain ⟨s0, s1⟩ := hS
    skip
    go_simp
    try rfl
  intro K hK
  go_simp
  refine hK _ ?_
  clear hK K
  apply wpT_takeK rfl _ (by first | rfl | (simp [Region.wanted, yielded]; done))
  · intro w' hS
    obtain ⟨s0, s1⟩ := hS
    skip
    go_simp
    try rfl
  intro K hK
  go_simp
  refine hK _ ?_
  clear hK K
  apply wpT_takeK rfl _ (by first | rfl | (simp [Region.wanted, yielded]; done))
  · intro w' hS
    obtain ⟨s0, s1⟩ := hS
    skip
    go_simp
    try rfl
  intro K hK
  go_simp
  refine hK _ ?_
  clear hK K
  apply wpT_takeK rfl _ (by first | rfl | (simp [Region.wanted, yielded]; done))
  · intro w' hS
    obtain ⟨s0, s1⟩ := hS
    skip
    go_simp
    try rfl
  intro K hK
  go_simp
  refine hK _ ?_
  clear hK K
  apply wpT_takeK rfl _ (by first | rfl | (simp [Region.wanted, yielded]; done))
  · intro w' hS
    obtain ⟨s0, s1⟩ := hS
    skip
    go_simp
    try rfl
  intro K hK
  go_simp
  refine hK _ ?_
  clear hK K
  apply wpT_takeK rfl _ (by first | rfl | (simp [Region.wanted, yielded]; done))
  · intro w' hS
    obtain ⟨s0, s1⟩ := hS
    skip
    go_simp
    try rfl
  intro K hK
  go_simp
  refine hK _ ?_
  clear hK K
  apply wpT_takeK rfl _ (by first | rfl | (simp [Region.wanted, yielded]; done))
  · intro w' hS
    obtain ⟨s0, s1⟩ := hS
    skip
    go_simp
    try rfl
  intro K hK
  go_simp
  refine hK _ ?_
  clear hK K
  apply wpT_takeK rfl _ (by first | rfl | (simp [Region.wanted, yielded]; done))
  · intro w' hS
    obtain ⟨s0, s1⟩ := hS
    skip
    go_simp
    try rfl
  intro K hK
  go_simp
  refine hK _ ?_
  clear hK K
  apply wpT_takeK rfl _ (by first | rfl | (simp [Region.wanted, yielded]; done))
  · intro w' hS
    obtain ⟨s0, s1⟩ := hS
    skip
    go_simp
    try rfl
  intro K hK
  go_simp
  refine hK _ ?_
  clear hK K
  apply wpT_takeK rfl _ (by first | rfl | (simp [Region.wanted, yielded]; done))
  · intro w' hS
    obtain ⟨s0, s1⟩ := hS
    skip
    go_simp
    try rfl
  intro K hK
  go_simp
  refine hK _ ?_
  clear hK K
  apply wpT_takeK rfl _ (by first | rfl | (simp [Region.wanted, yielded]; done))
  · intro w' hS
    obtain ⟨s0, s1⟩ := hS
    skip
    go_simp
    try rfl
  intro K hK
  go_simp
  refine hK _ ?_
  clear hK K
  apply wpT_takeK rfl _ (by first | rfl | (simp [Region.wanted, yielded]; done))
  · intro w' hS
    obtain ⟨s0, s1⟩ := hS
    skip
    go_simp
    try rfl
  intro K hK
  go_simp
  refine hK _ ?_
  clear hK K
  apply wpT_takeK rfl _ (by first | rfl | (simp [Region.wanted, yielded]; done))
  · intro w' hS
    obtain ⟨s0, s1⟩ := hS
    skip
    go_simp
    try rfl
  intro K hK
  go_simp
  refine hK _ ?_
  clear hK K
  apply wpT_takeK rfl _ (by first | rfl | (simp [Region.wanted, yielded]; done))
  · intro w' hS
    obtain ⟨s0, s1⟩ := hS
    skip
    go_simp
    try rfl
  intro K hK
  go_simp
  refine hK _ ?_
  clear hK K
  apply wpT_takeK rfl _ (by first | rfl | (simp [Region.wanted, yielded]; done))
  · intro w' hS
    obtain ⟨s0, s1⟩ := hS
    skip
    go_simp
    try rfl
  intro K hK
  go_simp
  refine hK _ ?_
  clear hK K
  apply wpT_takeK rfl _ (by first | rfl | (simp [Region.wanted, yielded]; done))
  · intro w' hS
    obtain ⟨s0, s1⟩ := hS
    skip
    go_simp
    try rfl
  intro K hK
  go_simp
  refine hK _ ?_
  clear hK K
  apply wpT_takeK rfl _ (by first | rfl | (simp [Region.wanted, yielded]; done))
  · intro w' hS
    obtain ⟨s0, s1⟩ := hS
    skip
    go_simp
    try rfl
  intro K hK
  go_simp
  refine hK _ ?_
  clear hK K
  apply wpT_takeK rfl _ (by first | rfl | (simp [Region.wanted, yielded]; done))
  · intro w' hS
    obtain ⟨s0, s1⟩ := hS
    skip
    go_simp
    try rfl
  intro K hK
  go_simp
  refine hK _ ?_
  clear hK K
  refine wpT_alone rfl ?_
  focus (go_wp2_with fail; refine (HF.out _ hcur.qa).mono ?_; rintro e w5 ⟨rfl, hb⟩; have hcur := hcur.next hb; clear hb; go_wp2)
  refine QS_normal ⟨by first | exact hcur.c0 | exact hcur.c1, by first | exact hcur.c0 | exact hcur.c1⟩ (fun _ => ?_)
  refine wpT_alone rfl ?_
  focus (go_wp2_with fail; refine (HFR.out _ hcur.ra).mono ?_; rintro e w6 ⟨rfl, hb⟩; have hcur := hcur.next hb; clear hb; go_wp2)
  refine QS_normal ⟨by first | exact hcur.c0 | exact hcur.c1, by first | exact hcur.c0 | exact hcur.c1⟩ (fun _ => ?_)
  apply wpT_takeK rfl _ (by first | rfl | (simp [Region.wanted, yielded]; done))
  · intro w' hS
    obtain ⟨s0, s1⟩ := hS
    skip
    go_simp
    try rfl
  intro K hK
  go_simp
  refine hK _ ?_
  clear hK K
  apply wpT_takeK rfl _ (by first | rfl | (simp [Region.wanted, yielded]; done))
  · intro w' hS
    obtain ⟨s0, s1⟩ := hS
    skip
    go_simp
    try rfl
  intro K hK
  go_simp
  refine hK _ ?_
  clear hK K
  apply wpT_takeK rfl _ (by first | rfl | (simp [Region.wanted, yielded]; done))
  · intro w' hS
    obtain ⟨s0, s1⟩ := hS
    skip
    go_simp
    try rfl
  intro K hK
  go_simp
  refine hK _ ?_
  clear hK K
  apply wpT_takeK rfl _ (by first | rfl | (simp [Region.wanted, yielded]; done))
  · intro w' hS
    obtain ⟨s0, s1⟩ := hS
    skip
    go_simp
    try rfl
  intro K hK
  go_simp
  refine hK _ ?_
  clear hK K
  apply wpT_takeK rfl _ (by first | rfl | (simp [Region.wanted, yielded]; done))
  · intro w' hS
    obtain ⟨s0, s1⟩ := hS
    skip
    go_simp
    try rfl
  intro K hK
  go_simp
  refine hK _ ?_
  clear hK K
  refine wpT_alone rfl ?_
  focus (go_wp2_with fail; refine (HL.out _ hcur.qa).mono ?_; rintro e w7 ⟨rfl, rfl⟩; go_wp2)
  refine QS_normal ⟨by first | exact hcur.c0 | exact hcur.c1, by first | exact hcur.c0 | exact hcur.c1⟩ (fun _ => ?_)
  refine wpT_alone rfl ?_
  focus (go_wp2_with fail; refine (HLR.out _ hcur.ra).mono ?_; rintro e w8 ⟨rfl, rfl⟩; go_wp2)
  refine QS_normal ⟨by first | exact hcur.c0 | exact hcur.c1, by first | exact hcur.c0 | exact hcur.c1⟩ (fun _ => ?_)
  apply wpT_takeK rfl _ (by first | rfl | (simp [Region.wanted, yielded]; done))
  · intro w' hS
    obtain ⟨s0, s1⟩ := hS
    skip
    go_simp
    try rfl
  intro K hK
  go_simp
  refine hK _ ?_
  clear hK K
  apply wpT_takeK rfl _ (by first | rfl | (simp [Region.wanted, yielded]; done))
  · intro w' hS
    obtain ⟨s0, s1⟩ := hS
    skip
    go_simp
    try rfl
  intro K hK
  go_simp
  refine hK _ ?_
  clear hK K
  apply wpT_takeK rfl _ (by first | rfl | (simp [Region.wanted, yielded]; done))
  · intro w' hS
    obtain ⟨s0, s1⟩ := hS
    skip
    go_simp
    try rfl
  intro K hK
  go_simp
  refine hK _ ?_
  clear hK K
  apply wpT_takeK rfl _ (by first | rfl | (simp [Region.wanted, yielded]; done))
  · intro w' hS
    obtain ⟨s0, s1⟩ := hS
    skip
    go_simp
    try rfl
  intro K hK
  go_simp
  refine hK _ ?_
  clear hK K
  apply wpT_takeK rfl _ (by first | rfl | (simp [Region.wanted, yielded]; done))
  · intro w' hS
    obtain ⟨s0, s1⟩ := hS
    skip
    go_simp
    try rfl
  intro K hK
  go_simp
  refine hK _ ?_
  clear hK K
  refine wpT_alone rfl ?_
  focus (go_wp2_with fail; refine (HLI.out _ hcur.qa).mono ?_; rintro e w9 ⟨v1, rfl, hr1, hb⟩; have HR1 := Lib.hid hr1; have hcur := hcur.next hb; clear hb hr1; go_wp2)
  refine QS_normal ⟨by first | exact hcur.c0 | exact hcur.c1, by first | exact hcur.c0 | exact hcur.c1⟩ (fun _ => ?_)
  refine wpT_alone rfl ?_
  focus (go_wp2_with fail; refine (HLIR.out _ hcur.ra).mono ?_; rintro e w10 ⟨v2, rfl, hr2, hb⟩; have HR2 := Lib.hid hr2; have HR1 := Lib.hid (keysRow_own HR1.out fun i hi => hb.block i (keysRow_lt HR1.out hi).2); have hcur := hcur.next hb; clear hb hr2; go_wp2)
  refine QS_normal ⟨by first | exact hcur.c0 | exact hcur.c1, by first | exact hcur.c0 | exact hcur.c1⟩ (fun _ => ?_)
  refine wpT_alone rfl ?_
  focus (go_wp2_with fail; refine (sameKeys_any v1 v2 keys _ _ _ HR1.out HR2.out).mono ?_; rintro e w11 ⟨rfl, hb⟩; have hcur := hcur.next hb; clear hb; go_wp2)
  refine QS_normal ⟨by first | exact hcur.c0 | exact hcur.c1, by first | exact hcur.c0 | exact hcur.c1⟩ (fun _ => ?_)
  apply wpT_takeK rfl _ (by first | rfl | (simp [Region.wanted, yielded]; done))
  · intro w' hS
    obtain ⟨s0, s1⟩ := hS
    skip
    go_simp
    try rfl
  intro K hK
  go_simp
  refine hK _ ?_
  clear hK K
  apply wpT_takeK rfl _ (by first | rfl | (simp [Region.wanted, yielded]; done))
  · intro w' hS
    obtain ⟨s0, s1⟩ := hS
    skip
    go_simp
    try rfl
  intro K hK
  go_simp
  refine hK _ ?_
  clear hK K
  refine wpT_end ?_
  go_wp2
  go_ret
  exact ⟨ret_true (by simp), hcur.b⟩
end Go.Proofs.Ytemeedfldapcjaa
