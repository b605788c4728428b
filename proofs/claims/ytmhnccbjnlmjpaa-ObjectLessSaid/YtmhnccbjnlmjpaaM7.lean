/- A part of the walk of layer 3's law on the order of keys. -/
import Derived.Test.YtmhnccbjnlmjpaaO19
namespace Go.Proofs.Ytmhnccbjnlmjpaa
open Go.RowKit
set_option linter.unusedVariables false
set_option linter.unusedSimpArgs false
namespace objectLess
open Go.ChangeShapes Go.WideShapes Go.ChangeAt
set_option maxRecDepth 100000 in
set_option maxHeartbeats 8000000 in
theorem walkFF (a b c : K) (w : World) (hab : ltK a b = false) (hba : ltK b a = false) (p1 : a.k = b.k) (p2 : a.n.toList = b.n.toList) : Calls Try.prog 9 #[.agg #[.int .u8 a.k, .string a.n, .int .u8 b.k, .string b.n, .int .u8 c.k, .string c.n]] w fun e w' => e = .returned (.bool true) ∧ Below w.heap.size w w' := by
  have HAB := Lib.hid hab
  have HBA := Lib.hid hba
  clear hab hba
  have q1 : (a.k = b.k) = True := by simp [p1]
  have q2 : (a.n.toList = b.n.toList) = True := by simp [p2]
  clear p1 p2
  have h0 : (w.alloc (.cells #[.int .u8 a.k, .string a.n, .int .u8 b.k, .string b.n, .int .u8 c.k, .string c.n] 39)).drew.heap[w.heap.size]? = some (.cells #[.int .u8 a.k, .string a.n, .int .u8 b.k, .string b.n, .int .u8 c.k, .string c.n] 39) := heap_alloc_eq
  have hB := ((Below.refl w.heap.size w).alloc (Nat.le_refl _) (.cells #[.int .u8 a.k, .string a.n, .int .u8 b.k, .string b.n, .int .u8 c.k, .string c.n] 39)).drew
  go_enter Try.func9, Try.ntmps9
  go_wp2
  refine wp_region_tree (fun w' => (w'.cell? ⟨w.heap.size, 0, none⟩ = some (.int .u8 a.k)) ∧ (w'.cell? ⟨w.heap.size, 1, none⟩ = some (.string a.n)) ∧ (w'.cell? ⟨w.heap.size, 2, none⟩ = some (.int .u8 b.k)) ∧ (w'.cell? ⟨w.heap.size, 3, none⟩ = some (.string b.n)) ∧ (w'.cell? ⟨w.heap.size, 4, none⟩ = some (.int .u8 c.k)) ∧ (w'.cell? ⟨w.heap.size, 5, none⟩ = some (.string c.n))) (.t 0 (.t 1 (.t 2 (.t 3 (.t 4 (.t 5 (.g 6 (.f 7 (.a 8 (.a 9 (.a 10 (.a 11 .nil)))) 8 (.a 7 (.a 9 (.a 10 (.a 11 .nil))))) 7 (.f 6 (.a 8 (.a 9 (.a 10 (.a 11 .nil)))) 8 (.a 6 (.a 9 (.a 10 (.a 11 .nil))))) 8 (.f 6 (.a 7 (.a 9 (.a 10 (.a 11 .nil)))) 7 (.a 6 (.a 9 (.a 10 (.a 11 .nil)))))))))))) (by kernel_rfl) (by kernel_rfl) (by kernel_rfl) ?_ ?_
  · exact (keep6 h0)
  (generalize (w.alloc (.cells #[.int .u8 a.k, .string a.n, .int .u8 b.k, .string b.n, .int .u8 c.k, .string c.n] 39)).drew = wn at *)
  apply wpT_takeK rfl _ (by first | rfl | (simp [Region.wanted, yielded]; done))
  · intro w' hS
    obtain ⟨s0, s1, s2, s3, s4, s5⟩ := hS
    skip
    go_simp
    try rfl
  intro K hK
  go_simp
  refine hK _ ?_
  clear hK K
  apply wpT_takeK rfl _ (by first | rfl | (simp [Region.wanted, yielded]; done))
  · intro w' hS
    obtain ⟨s0, s1, s2, s3, s4, s5⟩ := hS
    skip
    go_simp
    try rfl
  intro K hK
  go_simp
  refine hK _ ?_
  clear hK K
  apply wpT_takeK rfl _ (by first | rfl | (simp [Region.wanted, yielded]; done))
  · intro w' hS
    obtain ⟨s0, s1, s2, s3, s4, s5⟩ := hS
    skip
    go_simp
    try rfl
  intro K hK
  go_simp
  refine hK _ ?_
  clear hK K
  apply wpT_takeK rfl _ (by first | rfl | (simp [Region.wanted, yielded]; done))
  · intro w' hS
    obtain ⟨s0, s1, s2, s3, s4, s5⟩ := hS
    skip
    go_simp
    try rfl
  intro K hK
  go_simp
  refine hK _ ?_
  clear hK K
  apply wpT_takeK rfl _ (by first | rfl | (simp [Region.wanted, yielded]; done))
  · intro w' hS
    obtain ⟨s0, s1, s2, s3, s4, s5⟩ := hS
    skip
    go_simp
    try rfl
  intro K hK
  go_simp
  refine hK _ ?_
  clear hK K
  apply wpT_takeK rfl _ (by first | rfl | (simp [Region.wanted, yielded]; done))
  · intro w' hS
    obtain ⟨s0, s1, s2, s3, s4, s5⟩ := hS
    skip
    go_simp
    try rfl
  intro K hK
  go_simp
  refine hK _ ?_
  clear hK K
  refine wpT_fork3 rfl rfl rfl ?_ ?_ ?_
  focus (obtain ⟨P, hPn⟩ : ∃ x, x = wn.heap.size := ⟨_, rfl⟩; go_wp2; rw [← hPn])
  refine QS_abs (fun wn hwn => ?_)
  (have hP := alloc_post' hwn; rw [← hPn] at hP; have zP := alloc_ne' h0; rw [← hPn] at zP; have lP := hB.size; rw [← hPn] at lP; (try (have nQP := alloc_ne' hQ; rw [← hPn] at nQP; have nPQ := nQP.symm; have hQ := alloc_keep' hwn hQ)); (try (have nTP := alloc_ne' hT; rw [← hPn] at nTP; have nPT := nTP.symm; have hT := alloc_keep' hwn hT)); have h0 := alloc_keep' hwn h0; have hB := (show Below w.heap.size w wn by rw [hwn]; exact hB.alloc hB.size _); clear hwn hPn)
  refine And.intro (keep6 h0) ?_
  refine wpT_fork rfl rfl ?_ ?_
  focus (obtain ⟨Q, hQn⟩ : ∃ x, x = wn.heap.size := ⟨_, rfl⟩; go_wp2; rw [← hQn])
  refine QS_abs (fun wn hwn => ?_)
  (have hQ := alloc_post' hwn; rw [← hQn] at hQ; have zQ := alloc_ne' h0; rw [← hQn] at zQ; have lQ := hB.size; rw [← hQn] at lQ; (try (have nPQ := alloc_ne' hP; rw [← hQn] at nPQ; have nQP := nPQ.symm; have hP := alloc_keep' hwn hP)); (try (have nTQ := alloc_ne' hT; rw [← hQn] at nTQ; have nQT := nTQ.symm; have hT := alloc_keep' hwn hT)); have h0 := alloc_keep' hwn h0; have hB := (show Below w.heap.size w wn by rw [hwn]; exact hB.alloc hB.size _); clear hwn hQn)
  refine And.intro (keep6 h0) ?_
  refine wpT_alone rfl ?_
  focus (obtain ⟨T, hTn⟩ : ∃ x, x = wn.heap.size := ⟨_, rfl⟩; go_wp2; rw [← hTn])
  refine QS_abs (fun wn hwn => ?_)
  (have hT := alloc_post' hwn; rw [← hTn] at hT; have zT := alloc_ne' h0; rw [← hTn] at zT; have lT := hB.size; rw [← hTn] at lT; (try (have nPT := alloc_ne' hP; rw [← hTn] at nPT; have nTP := nPT.symm; have hP := alloc_keep' hwn hP)); (try (have nQT := alloc_ne' hQ; rw [← hTn] at nQT; have nTQ := nQT.symm; have hQ := alloc_keep' hwn hQ)); have h0 := alloc_keep' hwn h0; have hB := (show Below w.heap.size w wn by rw [hwn]; exact hB.alloc hB.size _); clear hwn hTn)
  refine And.intro (keep6 h0) ?_
  refine wpT_alone rfl ?_
  focus (have e0 := cell_at hP 0 _ rfl; have e1 := cell_at hP 1 _ rfl; have f0 := frozen_at hP 0; have f1 := frozen_at hP 1; simp only [List.getElem_toArray, List.getElem_cons_zero, List.getElem_cons_succ] at e0 e1; go_wp2; clear e0 e1 f0 f1)
  refine QS_abs (fun wn hwn => ?_)
  (have hP := set_post' hwn hP; have hQ := set_keep' hwn nQP hQ; have hT := set_keep' hwn nTP hT; have h0 := set_keep' hwn zP h0; have hB := (show Below w.heap.size w wn by rw [hwn]; exact (hB.setCell (p := ⟨P, 0, none⟩) lP _).setCell (p := ⟨P, 1, none⟩) lP _); clear hwn)
  refine And.intro (keep6 h0) ?_
  refine wpT_alone rfl ?_
  focus (have e0 := cell_at hQ 0 _ rfl; have e1 := cell_at hQ 1 _ rfl; have f0 := frozen_at hQ 0; have f1 := frozen_at hQ 1; simp only [List.getElem_toArray, List.getElem_cons_zero, List.getElem_cons_succ] at e0 e1; go_wp2; clear e0 e1 f0 f1)
  refine QS_abs (fun wn hwn => ?_)
  (have hQ := set_post' hwn hQ; have hP := set_keep' hwn nPQ hP; have hT := set_keep' hwn nTQ hT; have h0 := set_keep' hwn zQ h0; have hB := (show Below w.heap.size w wn by rw [hwn]; exact (hB.setCell (p := ⟨Q, 0, none⟩) lQ _).setCell (p := ⟨Q, 1, none⟩) lQ _); clear hwn)
  refine And.intro (keep6 h0) ?_
  refine wpT_alone rfl ?_
  focus (have e0 := cell_at hT 0 _ rfl; have e1 := cell_at hT 1 _ rfl; have f0 := frozen_at hT 0; have f1 := frozen_at hT 1; simp only [List.getElem_toArray, List.getElem_cons_zero, List.getElem_cons_succ] at e0 e1; go_wp2; clear e0 e1 f0 f1)
  refine QS_abs (fun wn hwn => ?_)
  (have hT := set_post' hwn hT; have hP := set_keep' hwn nPT hP; have hQ := set_keep' hwn nQT hQ; have h0 := set_keep' hwn zT h0; have hB := (show Below w.heap.size w wn by rw [hwn]; exact (hB.setCell (p := ⟨T, 0, none⟩) lT _).setCell (p := ⟨T, 1, none⟩) lT _); clear hwn)
  refine And.intro (keep6 h0) ?_
  refine wpT_end ?_
  rotate_left
  focus (obtain ⟨T, hTn⟩ : ∃ x, x = wn.heap.size := ⟨_, rfl⟩; go_wp2; rw [← hTn])
  refine QS_abs (fun wn hwn => ?_)
  (have hT := alloc_post' hwn; rw [← hTn] at hT; have zT := alloc_ne' h0; rw [← hTn] at zT; have lT := hB.size; rw [← hTn] at lT; (try (have nPT := alloc_ne' hP; rw [← hTn] at nPT; have nTP := nPT.symm; have hP := alloc_keep' hwn hP)); (try (have nQT := alloc_ne' hQ; rw [← hTn] at nQT; have nTQ := nQT.symm; have hQ := alloc_keep' hwn hQ)); have h0 := alloc_keep' hwn h0; have hB := (show Below w.heap.size w wn by rw [hwn]; exact hB.alloc hB.size _); clear hwn hTn)
  refine And.intro (keep6 h0) ?_
  refine wpT_alone rfl ?_
  focus (obtain ⟨Q, hQn⟩ : ∃ x, x = wn.heap.size := ⟨_, rfl⟩; go_wp2; rw [← hQn])
  refine QS_abs (fun wn hwn => ?_)
  (have hQ := alloc_post' hwn; rw [← hQn] at hQ; have zQ := alloc_ne' h0; rw [← hQn] at zQ; have lQ := hB.size; rw [← hQn] at lQ; (try (have nPQ := alloc_ne' hP; rw [← hQn] at nPQ; have nQP := nPQ.symm; have hP := alloc_keep' hwn hP)); (try (have nTQ := alloc_ne' hT; rw [← hQn] at nTQ; have nQT := nTQ.symm; have hT := alloc_keep' hwn hT)); have h0 := alloc_keep' hwn h0; have hB := (show Below w.heap.size w wn by rw [hwn]; exact hB.alloc hB.size _); clear hwn hQn)
  refine And.intro (keep6 h0) ?_
  refine wpT_alone rfl ?_
  focus (have e0 := cell_at hP 0 _ rfl; have e1 := cell_at hP 1 _ rfl; have f0 := frozen_at hP 0; have f1 := frozen_at hP 1; simp only [List.getElem_toArray, List.getElem_cons_zero, List.getElem_cons_succ] at e0 e1; go_wp2; clear e0 e1 f0 f1)
  refine QS_abs (fun wn hwn => ?_)
  (have hP := set_post' hwn hP; have hQ := set_keep' hwn nQP hQ; have hT := set_keep' hwn nTP hT; have h0 := set_keep' hwn zP h0; have hB := (show Below w.heap.size w wn by rw [hwn]; exact (hB.setCell (p := ⟨P, 0, none⟩) lP _).setCell (p := ⟨P, 1, none⟩) lP _); clear hwn)
  refine And.intro (keep6 h0) ?_
  refine wpT_alone rfl ?_
  focus (have e0 := cell_at hQ 0 _ rfl; have e1 := cell_at hQ 1 _ rfl; have f0 := frozen_at hQ 0; have f1 := frozen_at hQ 1; simp only [List.getElem_toArray, List.getElem_cons_zero, List.getElem_cons_succ] at e0 e1; go_wp2; clear e0 e1 f0 f1)
  refine QS_abs (fun wn hwn => ?_)
  (have hQ := set_post' hwn hQ; have hP := set_keep' hwn nPQ hP; have hT := set_keep' hwn nTQ hT; have h0 := set_keep' hwn zQ h0; have hB := (show Below w.heap.size w wn by rw [hwn]; exact (hB.setCell (p := ⟨Q, 0, none⟩) lQ _).setCell (p := ⟨Q, 1, none⟩) lQ _); clear hwn)
  refine And.intro (keep6 h0) ?_
  refine wpT_alone rfl ?_
  focus (have e0 := cell_at hT 0 _ rfl; have e1 := cell_at hT 1 _ rfl; have f0 := frozen_at hT 0; have f1 := frozen_at hT 1; simp only [List.getElem_toArray, List.getElem_cons_zero, List.getElem_cons_succ] at e0 e1; go_wp2; clear e0 e1 f0 f1)
  refine QS_abs (fun wn hwn => ?_)
  (have hT := set_post' hwn hT; have hP := set_keep' hwn nPT hP; have hQ := set_keep' hwn nQT hQ; have h0 := set_keep' hwn zT h0; have hB := (show Below w.heap.size w wn by rw [hwn]; exact (hB.setCell (p := ⟨T, 0, none⟩) lT _).setCell (p := ⟨T, 1, none⟩) lT _); clear hwn)
  refine And.intro (keep6 h0) ?_
  refine wpT_end ?_
  rotate_left
  focus (obtain ⟨Q, hQn⟩ : ∃ x, x = wn.heap.size := ⟨_, rfl⟩; go_wp2; rw [← hQn])
  refine QS_abs (fun wn hwn => ?_)
  (have hQ := alloc_post' hwn; rw [← hQn] at hQ; have zQ := alloc_ne' h0; rw [← hQn] at zQ; have lQ := hB.size; rw [← hQn] at lQ; (try (have nPQ := alloc_ne' hP; rw [← hQn] at nPQ; have nQP := nPQ.symm; have hP := alloc_keep' hwn hP)); (try (have nTQ := alloc_ne' hT; rw [← hQn] at nTQ; have nQT := nTQ.symm; have hT := alloc_keep' hwn hT)); have h0 := alloc_keep' hwn h0; have hB := (show Below w.heap.size w wn by rw [hwn]; exact hB.alloc hB.size _); clear hwn hQn)
  refine And.intro (keep6 h0) ?_
  refine wpT_fork rfl rfl ?_ ?_
  focus (obtain ⟨P, hPn⟩ : ∃ x, x = wn.heap.size := ⟨_, rfl⟩; go_wp2; rw [← hPn])
  refine QS_abs (fun wn hwn => ?_)
  (have hP := alloc_post' hwn; rw [← hPn] at hP; have zP := alloc_ne' h0; rw [← hPn] at zP; have lP := hB.size; rw [← hPn] at lP; (try (have nQP := alloc_ne' hQ; rw [← hPn] at nQP; have nPQ := nQP.symm; have hQ := alloc_keep' hwn hQ)); (try (have nTP := alloc_ne' hT; rw [← hPn] at nTP; have nPT := nTP.symm; have hT := alloc_keep' hwn hT)); have h0 := alloc_keep' hwn h0; have hB := (show Below w.heap.size w wn by rw [hwn]; exact hB.alloc hB.size _); clear hwn hPn)
  refine And.intro (keep6 h0) ?_
  refine wpT_alone rfl ?_
  focus (obtain ⟨T, hTn⟩ : ∃ x, x = wn.heap.size := ⟨_, rfl⟩; go_wp2; rw [← hTn])
  refine QS_abs (fun wn hwn => ?_)
  (have hT := alloc_post' hwn; rw [← hTn] at hT; have zT := alloc_ne' h0; rw [← hTn] at zT; have lT := hB.size; rw [← hTn] at lT; (try (have nPT := alloc_ne' hP; rw [← hTn] at nPT; have nTP := nPT.symm; have hP := alloc_keep' hwn hP)); (try (have nQT := alloc_ne' hQ; rw [← hTn] at nQT; have nTQ := nQT.symm; have hQ := alloc_keep' hwn hQ)); have h0 := alloc_keep' hwn h0; have hB := (show Below w.heap.size w wn by rw [hwn]; exact hB.alloc hB.size _); clear hwn hTn)
  refine And.intro (keep6 h0) ?_
  refine wpT_alone rfl ?_
  focus (have e0 := cell_at hP 0 _ rfl; have e1 := cell_at hP 1 _ rfl; have f0 := frozen_at hP 0; have f1 := frozen_at hP 1; simp only [List.getElem_toArray, List.getElem_cons_zero, List.getElem_cons_succ] at e0 e1; go_wp2; clear e0 e1 f0 f1)
  refine QS_abs (fun wn hwn => ?_)
  (have hP := set_post' hwn hP; have hQ := set_keep' hwn nQP hQ; have hT := set_keep' hwn nTP hT; have h0 := set_keep' hwn zP h0; have hB := (show Below w.heap.size w wn by rw [hwn]; exact (hB.setCell (p := ⟨P, 0, none⟩) lP _).setCell (p := ⟨P, 1, none⟩) lP _); clear hwn)
  refine And.intro (keep6 h0) ?_
  refine wpT_alone rfl ?_
  focus (have e0 := cell_at hQ 0 _ rfl; have e1 := cell_at hQ 1 _ rfl; have f0 := frozen_at hQ 0; have f1 := frozen_at hQ 1; simp only [List.getElem_toArray, List.getElem_cons_zero, List.getElem_cons_succ] at e0 e1; go_wp2; clear e0 e1 f0 f1)
  refine QS_abs (fun wn hwn => ?_)
  (have hQ := set_post' hwn hQ; have hP := set_keep' hwn nPQ hP; have hT := set_keep' hwn nTQ hT; have h0 := set_keep' hwn zQ h0; have hB := (show Below w.heap.size w wn by rw [hwn]; exact (hB.setCell (p := ⟨Q, 0, none⟩) lQ _).setCell (p := ⟨Q, 1, none⟩) lQ _); clear hwn)
  refine And.intro (keep6 h0) ?_
  refine wpT_alone rfl ?_
  focus (have e0 := cell_at hT 0 _ rfl; have e1 := cell_at hT 1 _ rfl; have f0 := frozen_at hT 0; have f1 := frozen_at hT 1; simp only [List.getElem_toArray, List.getElem_cons_zero, List.getElem_cons_succ] at e0 e1; go_wp2; clear e0 e1 f0 f1)
  refine QS_abs (fun wn hwn => ?_)
  (have hT := set_post' hwn hT; have hP := set_keep' hwn nPT hP; have hQ := set_keep' hwn nQT hQ; have h0 := set_keep' hwn zT h0; have hB := (show Below w.heap.size w wn by rw [hwn]; exact (hB.setCell (p := ⟨T, 0, none⟩) lT _).setCell (p := ⟨T, 1, none⟩) lT _); clear hwn)
  refine And.intro (keep6 h0) ?_
  refine wpT_end ?_
  rotate_left
  focus (obtain ⟨T, hTn⟩ : ∃ x, x = wn.heap.size := ⟨_, rfl⟩; go_wp2; rw [← hTn])
  refine QS_abs (fun wn hwn => ?_)
  (have hT := alloc_post' hwn; rw [← hTn] at hT; have zT := alloc_ne' h0; rw [← hTn] at zT; have lT := hB.size; rw [← hTn] at lT; (try (have nPT := alloc_ne' hP; rw [← hTn] at nPT; have nTP := nPT.symm; have hP := alloc_keep' hwn hP)); (try (have nQT := alloc_ne' hQ; rw [← hTn] at nQT; have nTQ := nQT.symm; have hQ := alloc_keep' hwn hQ)); have h0 := alloc_keep' hwn h0; have hB := (show Below w.heap.size w wn by rw [hwn]; exact hB.alloc hB.size _); clear hwn hTn)
  refine And.intro (keep6 h0) ?_
  refine wpT_alone rfl ?_
  focus (obtain ⟨P, hPn⟩ : ∃ x, x = wn.heap.size := ⟨_, rfl⟩; go_wp2; rw [← hPn])
  refine QS_abs (fun wn hwn => ?_)
  (have hP := alloc_post' hwn; rw [← hPn] at hP; have zP := alloc_ne' h0; rw [← hPn] at zP; have lP := hB.size; rw [← hPn] at lP; (try (have nQP := alloc_ne' hQ; rw [← hPn] at nQP; have nPQ := nQP.symm; have hQ := alloc_keep' hwn hQ)); (try (have nTP := alloc_ne' hT; rw [← hPn] at nTP; have nPT := nTP.symm; have hT := alloc_keep' hwn hT)); have h0 := alloc_keep' hwn h0; have hB := (show Below w.heap.size w wn by rw [hwn]; exact hB.alloc hB.size _); clear hwn hPn)
  refine And.intro (keep6 h0) ?_
  refine wpT_alone rfl ?_
  focus (have e0 := cell_at hP 0 _ rfl; have e1 := cell_at hP 1 _ rfl; have f0 := frozen_at hP 0; have f1 := frozen_at hP 1; simp only [List.getElem_toArray, List.getElem_cons_zero, List.getElem_cons_succ] at e0 e1; go_wp2; clear e0 e1 f0 f1)
  refine QS_abs (fun wn hwn => ?_)
  (have hP := set_post' hwn hP; have hQ := set_keep' hwn nQP hQ; have hT := set_keep' hwn nTP hT; have h0 := set_keep' hwn zP h0; have hB := (show Below w.heap.size w wn by rw [hwn]; exact (hB.setCell (p := ⟨P, 0, none⟩) lP _).setCell (p := ⟨P, 1, none⟩) lP _); clear hwn)
  refine And.intro (keep6 h0) ?_
  refine wpT_alone rfl ?_
  focus (have e0 := cell_at hQ 0 _ rfl; have e1 := cell_at hQ 1 _ rfl; have f0 := frozen_at hQ 0; have f1 := frozen_at hQ 1; simp only [List.getElem_toArray, List.getElem_cons_zero, List.getElem_cons_succ] at e0 e1; go_wp2; clear e0 e1 f0 f1)
  refine QS_abs (fun wn hwn => ?_)
  (have hQ := set_post' hwn hQ; have hP := set_keep' hwn nPQ hP; have hT := set_keep' hwn nTQ hT; have h0 := set_keep' hwn zQ h0; have hB := (show Below w.heap.size w wn by rw [hwn]; exact (hB.setCell (p := ⟨Q, 0, none⟩) lQ _).setCell (p := ⟨Q, 1, none⟩) lQ _); clear hwn)
  refine And.intro (keep6 h0) ?_
  refine wpT_alone rfl ?_
  focus (have e0 := cell_at hT 0 _ rfl; have e1 := cell_at hT 1 _ rfl; have f0 := frozen_at hT 0; have f1 := frozen_at hT 1; simp only [List.getElem_toArray, List.getElem_cons_zero, List.getElem_cons_succ] at e0 e1; go_wp2; clear e0 e1 f0 f1)
  refine QS_abs (fun wn hwn => ?_)
  (have hT := set_post' hwn hT; have hP := set_keep' hwn nPT hP; have hQ := set_keep' hwn nQT hQ; have h0 := set_keep' hwn zT h0; have hB := (show Below w.heap.size w wn by rw [hwn]; exact (hB.setCell (p := ⟨T, 0, none⟩) lT _).setCell (p := ⟨T, 1, none⟩) lT _); clear hwn)
  refine And.intro (keep6 h0) ?_
  refine wpT_end ?_
  rotate_left
  focus (obtain ⟨T, hTn⟩ : ∃ x, x = wn.heap.size := ⟨_, rfl⟩; go_wp2; rw [← hTn])
  refine QS_abs (fun wn hwn => ?_)
  (have hT := alloc_post' hwn; rw [← hTn] at hT; have zT := alloc_ne' h0; rw [← hTn] at zT; have lT := hB.size; rw [← hTn] at lT; (try (have nPT := alloc_ne' hP; rw [← hTn] at nPT; have nTP := nPT.symm; have hP := alloc_keep' hwn hP)); (try (have nQT := alloc_ne' hQ; rw [← hTn] at nQT; have nTQ := nQT.symm; have hQ := alloc_keep' hwn hQ)); have h0 := alloc_keep' hwn h0; have hB := (show Below w.heap.size w wn by rw [hwn]; exact hB.alloc hB.size _); clear hwn hTn)
  refine And.intro (keep6 h0) ?_
  refine wpT_fork rfl rfl ?_ ?_
  focus (obtain ⟨P, hPn⟩ : ∃ x, x = wn.heap.size := ⟨_, rfl⟩; go_wp2; rw [← hPn])
  refine QS_abs (fun wn hwn => ?_)
  (have hP := alloc_post' hwn; rw [← hPn] at hP; have zP := alloc_ne' h0; rw [← hPn] at zP; have lP := hB.size; rw [← hPn] at lP; (try (have nQP := alloc_ne' hQ; rw [← hPn] at nQP; have nPQ := nQP.symm; have hQ := alloc_keep' hwn hQ)); (try (have nTP := alloc_ne' hT; rw [← hPn] at nTP; have nPT := nTP.symm; have hT := alloc_keep' hwn hT)); have h0 := alloc_keep' hwn h0; have hB := (show Below w.heap.size w wn by rw [hwn]; exact hB.alloc hB.size _); clear hwn hPn)
  refine And.intro (keep6 h0) ?_
  refine wpT_alone rfl ?_
  focus (obtain ⟨Q, hQn⟩ : ∃ x, x = wn.heap.size := ⟨_, rfl⟩; go_wp2; rw [← hQn])
  refine QS_abs (fun wn hwn => ?_)
  (have hQ := alloc_post' hwn; rw [← hQn] at hQ; have zQ := alloc_ne' h0; rw [← hQn] at zQ; have lQ := hB.size; rw [← hQn] at lQ; (try (have nPQ := alloc_ne' hP; rw [← hQn] at nPQ; have nQP := nPQ.symm; have hP := alloc_keep' hwn hP)); (try (have nTQ := alloc_ne' hT; rw [← hQn] at nTQ; have nQT := nTQ.symm; have hT := alloc_keep' hwn hT)); have h0 := alloc_keep' hwn h0; have hB := (show Below w.heap.size w wn by rw [hwn]; exact hB.alloc hB.size _); clear hwn hQn)
  refine And.intro (keep6 h0) ?_
  refine wpT_alone rfl ?_
  focus (have e0 := cell_at hP 0 _ rfl; have e1 := cell_at hP 1 _ rfl; have f0 := frozen_at hP 0; have f1 := frozen_at hP 1; simp only [List.getElem_toArray, List.getElem_cons_zero, List.getElem_cons_succ] at e0 e1; go_wp2; clear e0 e1 f0 f1)
  refine QS_abs (fun wn hwn => ?_)
  (have hP := set_post' hwn hP; have hQ := set_keep' hwn nQP hQ; have hT := set_keep' hwn nTP hT; have h0 := set_keep' hwn zP h0; have hB := (show Below w.heap.size w wn by rw [hwn]; exact (hB.setCell (p := ⟨P, 0, none⟩) lP _).setCell (p := ⟨P, 1, none⟩) lP _); clear hwn)
  refine And.intro (keep6 h0) ?_
  refine wpT_alone rfl ?_
  focus (have e0 := cell_at hQ 0 _ rfl; have e1 := cell_at hQ 1 _ rfl; have f0 := frozen_at hQ 0; have f1 := frozen_at hQ 1; simp only [List.getElem_toArray, List.getElem_cons_zero, List.getElem_cons_succ] at e0 e1; go_wp2; clear e0 e1 f0 f1)
  refine QS_abs (fun wn hwn => ?_)
  (have hQ := set_post' hwn hQ; have hP := set_keep' hwn nPQ hP; have hT := set_keep' hwn nTQ hT; have h0 := set_keep' hwn zQ h0; have hB := (show Below w.heap.size w wn by rw [hwn]; exact (hB.setCell (p := ⟨Q, 0, none⟩) lQ _).setCell (p := ⟨Q, 1, none⟩) lQ _); clear hwn)
  refine And.intro (keep6 h0) ?_
  refine wpT_alone rfl ?_
  focus (have e0 := cell_at hT 0 _ rfl; have e1 := cell_at hT 1 _ rfl; have f0 := frozen_at hT 0; have f1 := frozen_at hT 1; simp only [List.getElem_toArray, List.getElem_cons_zero, List.getElem_cons_succ] at e0 e1; go_wp2; clear e0 e1 f0 f1)
  refine QS_abs (fun wn hwn => ?_)
  (have hT := set_post' hwn hT; have hP := set_keep' hwn nPT hP; have hQ := set_keep' hwn nQT hQ; have h0 := set_keep' hwn zT h0; have hB := (show Below w.heap.size w wn by rw [hwn]; exact (hB.setCell (p := ⟨T, 0, none⟩) lT _).setCell (p := ⟨T, 1, none⟩) lT _); clear hwn)
  refine And.intro (keep6 h0) ?_
  refine wpT_end ?_
  rotate_left
  focus (obtain ⟨Q, hQn⟩ : ∃ x, x = wn.heap.size := ⟨_, rfl⟩; go_wp2; rw [← hQn])
  refine QS_abs (fun wn hwn => ?_)
  (have hQ := alloc_post' hwn; rw [← hQn] at hQ; have zQ := alloc_ne' h0; rw [← hQn] at zQ; have lQ := hB.size; rw [← hQn] at lQ; (try (have nPQ := alloc_ne' hP; rw [← hQn] at nPQ; have nQP := nPQ.symm; have hP := alloc_keep' hwn hP)); (try (have nTQ := alloc_ne' hT; rw [← hQn] at nTQ; have nQT := nTQ.symm; have hT := alloc_keep' hwn hT)); have h0 := alloc_keep' hwn h0; have hB := (show Below w.heap.size w wn by rw [hwn]; exact hB.alloc hB.size _); clear hwn hQn)
  refine And.intro (keep6 h0) ?_
  refine wpT_alone rfl ?_
  focus (obtain ⟨P, hPn⟩ : ∃ x, x = wn.heap.size := ⟨_, rfl⟩; go_wp2; rw [← hPn])
  refine QS_abs (fun wn hwn => ?_)
  (have hP := alloc_post' hwn; rw [← hPn] at hP; have zP := alloc_ne' h0; rw [← hPn] at zP; have lP := hB.size; rw [← hPn] at lP; (try (have nQP := alloc_ne' hQ; rw [← hPn] at nQP; have nPQ := nQP.symm; have hQ := alloc_keep' hwn hQ)); (try (have nTP := alloc_ne' hT; rw [← hPn] at nTP; have nPT := nTP.symm; have hT := alloc_keep' hwn hT)); have h0 := alloc_keep' hwn h0; have hB := (show Below w.heap.size w wn by rw [hwn]; exact hB.alloc hB.size _); clear hwn hPn)
  refine And.intro (keep6 h0) ?_
  refine wpT_alone rfl ?_
  focus (have e0 := cell_at hP 0 _ rfl; have e1 := cell_at hP 1 _ rfl; have f0 := frozen_at hP 0; have f1 := frozen_at hP 1; simp only [List.getElem_toArray, List.getElem_cons_zero, List.getElem_cons_succ] at e0 e1; go_wp2; clear e0 e1 f0 f1)
  refine QS_abs (fun wn hwn => ?_)
  (have hP := set_post' hwn hP; have hQ := set_keep' hwn nQP hQ; have hT := set_keep' hwn nTP hT; have h0 := set_keep' hwn zP h0; have hB := (show Below w.heap.size w wn by rw [hwn]; exact (hB.setCell (p := ⟨P, 0, none⟩) lP _).setCell (p := ⟨P, 1, none⟩) lP _); clear hwn)
  refine And.intro (keep6 h0) ?_
  refine wpT_alone rfl ?_
  focus (have e0 := cell_at hQ 0 _ rfl; have e1 := cell_at hQ 1 _ rfl; have f0 := frozen_at hQ 0; have f1 := frozen_at hQ 1; simp only [List.getElem_toArray, List.getElem_cons_zero, List.getElem_cons_succ] at e0 e1; go_wp2; clear e0 e1 f0 f1)
  refine QS_abs (fun wn hwn => ?_)
  (have hQ := set_post' hwn hQ; have hP := set_keep' hwn nPQ hP; have hT := set_keep' hwn nTQ hT; have h0 := set_keep' hwn zQ h0; have hB := (show Below w.heap.size w wn by rw [hwn]; exact (hB.setCell (p := ⟨Q, 0, none⟩) lQ _).setCell (p := ⟨Q, 1, none⟩) lQ _); clear hwn)
  refine And.intro (keep6 h0) ?_
  refine wpT_alone rfl ?_
  focus (have e0 := cell_at hT 0 _ rfl; have e1 := cell_at hT 1 _ rfl; have f0 := frozen_at hT 0; have f1 := frozen_at hT 1; simp only [List.getElem_toArray, List.getElem_cons_zero, List.getElem_cons_succ] at e0 e1; go_wp2; clear e0 e1 f0 f1)
  refine QS_abs (fun wn hwn => ?_)
  (have hT := set_post' hwn hT; have hP := set_keep' hwn nPT hP; have hQ := set_keep' hwn nQT hQ; have h0 := set_keep' hwn zT h0; have hB := (show Below w.heap.size w wn by rw [hwn]; exact (hB.setCell (p := ⟨T, 0, none⟩) lT _).setCell (p := ⟨T, 1, none⟩) lT _); clear hwn)
  refine And.intro (keep6 h0) ?_
  refine wpT_end ?_
  rotate_left
  all_goals have hcur := (show B4 w wn P Q T a b c from ⟨hP, hQ, hT, hB⟩).drew
  all_goals clear h0 hP hQ hT hB lP lQ lT zP zQ zT nPQ nQP nPT nTP nQT nTQ
  all_goals go_upto_region 2 with fail
  · skip
    refine wp_region_tree (fun w' => (w'.cell? ⟨P, 0, none⟩ = some (.int .u8 a.k)) ∧ (w'.cell? ⟨P, 1, none⟩ = some (.string a.n)) ∧ (w'.cell? ⟨Q, 0, none⟩ = some (.int .u8 b.k)) ∧ (w'.cell? ⟨Q, 1, none⟩ = some (.string b.n))) (.t 0 (.t 1 (.t 3 (.t 4 (.a 2 (.a 5 (.t 6 (.t 7 (.t 8 (.t 9 (.a 10 (.t 11 (.t 12 (.t 13 (.t 14 (.t 15 (.t 16 .nil))))))))))))))))) (by kernel_rfl) (by kernel_rfl) (by kernel_rfl) ?_ ?_
    · exact hcur.keep
    apply wpT_takeK rfl _ (by first | rfl | (simp [Region.wanted, yielded]; done))
    · intro w' hS
      obtain ⟨s0, s1, s2, s3⟩ := hS
      skip
      go_simp
      try rfl
    intro K hK
    go_simp
    refine hK _ ?_
    clear hK K
    apply wpT_takeK rfl _ (by first | rfl | (simp [Region.wanted, yielded]; done))
    · intro w' hS
      obtain ⟨s0, s1, s2, s3⟩ := hS
      skip
      go_simp
      try rfl
    intro K hK
    go_simp
    refine hK _ ?_
    clear hK K
    apply wpT_takeK rfl _ (by first | rfl | (simp [Region.wanted, yielded]; done))
    · intro w' hS
      obtain ⟨s0, s1, s2, s3⟩ := hS
      skip
      go_simp
      try rfl
    intro K hK
    go_simp
    refine hK _ ?_
    clear hK K
    apply wpT_takeK rfl _ (by first | rfl | (simp [Region.wanted, yielded]; done))
    · intro w' hS
      obtain ⟨s0, s1, s2, s3⟩ := hS
      skip
      go_simp
      try rfl
    intro K hK
    go_simp
    refine hK _ ?_
    clear hK K
    refine wpT_alone rfl ?_
    focus (go_wp2_with fail; refine (lessA a b _).mono ?_; rintro e w2 ⟨rfl, hb2⟩; have hcur := hcur.next hb2; clear hb2; rw [HAB.out]; go_wp2)
    refine QS_normal hcur.keep (fun _ => ?_)
    refine wpT_alone rfl ?_
    focus (go_wp2_with fail; refine (lessR a b _).mono ?_; rintro e w2 ⟨rfl, hb2⟩; have hcur := hcur.next hb2; clear hb2; rw [HAB.out]; go_wp2)
    refine QS_normal hcur.keep (fun _ => ?_)
    apply wpT_takeK rfl _ (by first | rfl | (simp [Region.wanted, yielded]; done))
    · intro w' hS
      obtain ⟨s0, s1, s2, s3⟩ := hS
      skip
      go_simp
      try rfl
    intro K hK
    go_simp
    refine hK _ ?_
    clear hK K
    apply wpT_takeK rfl _ (by first | rfl | (simp [Region.wanted, yielded]; done))
    · intro w' hS
      obtain ⟨s0, s1, s2, s3⟩ := hS
      skip
      go_simp
      try rfl
    intro K hK
    go_simp
    refine hK _ ?_
    clear hK K
    apply wpT_takeK rfl _ (by first | rfl | (simp [Region.wanted, yielded]; done))
    · intro w' hS
      obtain ⟨s0, s1, s2, s3⟩ := hS
      skip
      go_simp
      try rfl
    intro K hK
    go_simp
    refine hK _ ?_
    clear hK K
    apply wpT_takeK rfl _ (by first | rfl | (simp [Region.wanted, yielded]; done))
    · intro w' hS
      obtain ⟨s0, s1, s2, s3⟩ := hS
      skip
      go_simp
      try rfl
    intro K hK
    go_simp
    refine hK _ ?_
    clear hK K
    refine wpT_alone rfl ?_
    focus (go_wp2_with fail; refine (lessA a b _).mono ?_; rintro e w2 ⟨rfl, hb2⟩; have hcur := hcur.next hb2; clear hb2; rw [HAB.out]; go_wp2)
    refine QS_normal hcur.keep (fun _ => ?_)
    apply wpT_takeK rfl _ (by first | rfl | (simp [Region.wanted, yielded]; done))
    · intro w' hS
      obtain ⟨s0, s1, s2, s3⟩ := hS
      skip
      go_simp
      try rfl
    intro K hK
    go_simp
    refine hK _ ?_
    clear hK K
    refine wpT_skipT rfl (by first | rfl | (simp [Region.wanted, yielded]; done)) ?_
    intro K hK
    go_simp
    refine hK _ ?_
    clear hK K
    refine wpT_skipT rfl (by first | rfl | (simp [Region.wanted, yielded]; done)) ?_
    intro K hK
    go_simp
    refine hK _ ?_
    clear hK K
    refine wpT_skipT rfl (by first | rfl | (simp [Region.wanted, yielded]; done)) ?_
    intro K hK
    go_simp
    refine hK _ ?_
    clear hK K
    apply wpT_takeK rfl _ (by first | rfl | (simp [Region.wanted, yielded]; done))
    · intro w' hS
      obtain ⟨s0, s1, s2, s3⟩ := hS
      skip
      go_simp
      try rfl
    intro K hK
    go_simp
    refine hK _ ?_
    clear hK K
    apply wpT_takeK rfl _ (by first | rfl | (simp [Region.wanted, yielded]; done))
    · intro w' hS
      obtain ⟨s0, s1, s2, s3⟩ := hS
      skip
      go_simp
      try rfl
    intro K hK
    go_simp
    refine hK _ ?_
    clear hK K
    refine wpT_end ?_
    have pa0 := cell_at hcur.p 0 _ rfl; have pa1 := cell_at hcur.p 1 _ rfl; have pb0 := cell_at hcur.q 0 _ rfl; have pb1 := cell_at hcur.q 1 _ rfl; have pc0 := cell_at hcur.t 0 _ rfl; have pc1 := cell_at hcur.t 1 _ rfl; simp only [List.getElem_toArray, List.getElem_cons_zero, List.getElem_cons_succ] at pa0 pa1 pb0 pb1 pc0 pc1
    go_wp2_with fail
    refine (lessA a b _).mono ?_
    rintro e w2 ⟨rfl, hb2⟩
    have hcur := hcur.next hb2
    clear hb2 pa0 pa1 pb0 pb1 pc0 pc1
    rw [HAB.out]
    have pa0 := cell_at hcur.p 0 _ rfl; have pa1 := cell_at hcur.p 1 _ rfl; have pb0 := cell_at hcur.q 0 _ rfl; have pb1 := cell_at hcur.q 1 _ rfl; have pc0 := cell_at hcur.t 0 _ rfl; have pc1 := cell_at hcur.t 1 _ rfl; simp only [List.getElem_toArray, List.getElem_cons_zero, List.getElem_cons_succ] at pa0 pa1 pb0 pb1 pc0 pc1
    clear pa0 pa1 pb0 pb1 pc0 pc1
    have hcur := hcur.drew
    go_upto_region 6 with fail
    refine wp_region_tree (fun w' => (w'.cell? ⟨P, 0, none⟩ = some (.int .u8 a.k)) ∧ (w'.cell? ⟨P, 1, none⟩ = some (.string a.n)) ∧ (w'.cell? ⟨Q, 0, none⟩ = some (.int .u8 b.k)) ∧ (w'.cell? ⟨Q, 1, none⟩ = some (.string b.n))) (.a 0 (.t 1 (.t 2 (.t 3 (.t 10 (.t 11 (.t 12 (.a 4 (.t 5 (.t 6 (.t 7 (.a 8 (.t 9 (.t 13 (.t 14 (.t 15 .nil)))))))))))))))) (by kernel_rfl) (by kernel_rfl) (by kernel_rfl) ?_ ?_
    · exact hcur.keep
    refine wpT_alone rfl ?_
    focus (go_wp2_with fail; refine (live_any _).mono ?_; rintro e w2 ⟨rfl, hb2⟩; have hcur := hcur.next hb2; clear hb2; go_wp2)
    refine QS_normal hcur.keep (fun _ => ?_)
    apply wpT_takeK rfl _ (by first | rfl | (simp [Region.wanted, yielded]; done))
    · intro w' hS
      obtain ⟨s0, s1, s2, s3⟩ := hS
      skip
      go_simp
      try rfl
    intro K hK
    go_simp
    refine hK _ ?_
    clear hK K
    apply wpT_takeK rfl _ (by first | rfl | (simp [Region.wanted, yielded]; done))
    · intro w' hS
      obtain ⟨s0, s1, s2, s3⟩ := hS
      skip
      go_simp
      try rfl
    intro K hK
    go_simp
    refine hK _ ?_
    clear hK K
    apply wpT_takeK rfl _ (by first | rfl | (simp [Region.wanted, yielded]; done))
    · intro w' hS
      obtain ⟨s0, s1, s2, s3⟩ := hS
      skip
      go_simp
      try rfl
    intro K hK
    go_simp
    refine hK _ ?_
    clear hK K
    apply wpT_takeK rfl _ (by first | rfl | (simp [Region.wanted, yielded]; done))
    · intro w' hS
      obtain ⟨s0, s1, s2, s3⟩ := hS
      skip
      go_simp
      try rfl
    intro K hK
    go_simp
    refine hK _ ?_
    clear hK K
    apply wpT_takeK rfl _ (by first | rfl | (simp [Region.wanted, yielded]; done))
    · intro w' hS
      obtain ⟨s0, s1, s2, s3⟩ := hS
      skip
      go_simp
      try rfl
    intro K hK
    go_simp
    refine hK _ ?_
    clear hK K
    apply wpT_takeK rfl _ (by first | rfl | (simp [Region.wanted, yielded]; done))
    · intro w' hS
      obtain ⟨s0, s1, s2, s3⟩ := hS
      skip
      go_simp
      try rfl
    intro K hK
    go_simp
    refine hK _ ?_
    clear hK K
    refine wpT_alone rfl ?_
    focus (go_wp2_with fail; refine (lessA a b _).mono ?_; rintro e w2 ⟨rfl, hb2⟩; have hcur := hcur.next hb2; clear hb2; rw [HAB.out]; go_wp2)
    refine QS_normal hcur.keep (fun _ => ?_)
    apply wpT_takeK rfl _ (by first | rfl | (simp [Region.wanted, yielded]; done))
    · intro w' hS
      obtain ⟨s0, s1, s2, s3⟩ := hS
      skip
      go_simp
      try rfl
    intro K hK
    go_simp
    refine hK _ ?_
    clear hK K
    apply wpT_takeK rfl _ (by first | rfl | (simp [Region.wanted, yielded]; done))
    · intro w' hS
      obtain ⟨s0, s1, s2, s3⟩ := hS
      skip
      go_simp
      try rfl
    intro K hK
    go_simp
    refine hK _ ?_
    clear hK K
    apply wpT_takeK rfl _ (by first | rfl | (simp [Region.wanted, yielded]; done))
    · intro w' hS
      obtain ⟨s0, s1, s2, s3⟩ := hS
      skip
      go_simp
      try rfl
    intro K hK
    go_simp
    refine hK _ ?_
    clear hK K
    refine wpT_alone rfl ?_
    focus (go_wp2_with fail; refine (lessA b a _).mono ?_; rintro e w2 ⟨rfl, hb2⟩; have hcur := hcur.next hb2; clear hb2; rw [HBA.out]; go_wp2)
    refine QS_normal hcur.keep (fun _ => ?_)
    apply wpT_takeK rfl _ (by first | rfl | (simp [Region.wanted, yielded]; done))
    · intro w' hS
      obtain ⟨s0, s1, s2, s3⟩ := hS
      skip
      go_simp
      try rfl
    intro K hK
    go_simp
    refine hK _ ?_
    clear hK K
    apply wpT_takeK rfl _ (by first | rfl | (simp [Region.wanted, yielded]; done))
    · intro w' hS
      obtain ⟨s0, s1, s2, s3⟩ := hS
      skip
      go_simp
      try rfl
    intro K hK
    go_simp
    refine hK _ ?_
    clear hK K
    apply wpT_takeK rfl _ (by first | rfl | (simp [Region.wanted, yielded]; done))
    · intro w' hS
      obtain ⟨s0, s1, s2, s3⟩ := hS
      skip
      go_simp
      try rfl
    intro K hK
    go_simp
    refine hK _ ?_
    clear hK K
    apply wpT_takeK rfl _ (by first | rfl | (simp [Region.wanted, yielded]; done))
    · intro w' hS
      obtain ⟨s0, s1, s2, s3⟩ := hS
      skip
      go_simp
      try rfl
    intro K hK
    go_simp
    refine hK _ ?_
    clear hK K
    refine wpT_end ?_
    go_wp2
    go_ret
    exact ⟨ret_bool (by simp), hcur.b⟩
  · skip
    refine wp_region_tree (fun w' => (w'.cell? ⟨P, 0, none⟩ = some (.int .u8 a.k)) ∧ (w'.cell? ⟨P, 1, none⟩ = some (.string a.n)) ∧ (w'.cell? ⟨Q, 0, none⟩ = some (.int .u8 b.k)) ∧ (w'.cell? ⟨Q, 1, none⟩ = some (.string b.n))) (.t 0 (.t 1 (.t 3 (.t 4 (.a 2 (.a 5 (.t 6 (.t 7 (.t 8 (.t 9 (.a 10 (.t 11 (.t 12 (.t 13 (.t 14 (.t 15 (.t 16 .nil))))))))))))))))) (by kernel_rfl) (by kernel_rfl) (by kernel_rfl) ?_ ?_
    · exact hcur.keep
    apply wpT_takeK rfl _ (by first | rfl | (simp [Region.wanted, yielded]; done))
    · intro w' hS
      obtain ⟨s0, s1, s2, s3⟩ := hS
      skip
      go_simp
      try rfl
    intro K hK
    go_simp
    refine hK _ ?_
    clear hK K
    apply wpT_takeK rfl _ (by first | rfl | (simp [Region.wanted, yielded]; done))
    · intro w' hS
      obtain ⟨s0, s1, s2, s3⟩ := hS
      skip
      go_simp
      try rfl
    intro K hK
    go_simp
    refine hK _ ?_
    clear hK K
    apply wpT_takeK rfl _ (by first | rfl | (simp [Region.wanted, yielded]; done))
    · intro w' hS
      obtain ⟨s0, s1, s2, s3⟩ := hS
      skip
      go_simp
      try rfl
    intro K hK
    go_simp
    refine hK _ ?_
    clear hK K
    apply wpT_takeK rfl _ (by first | rfl | (simp [Region.wanted, yielded]; done))
    · intro w' hS
      obtain ⟨s0, s1, s2, s3⟩ := hS
      skip
      go_simp
      try rfl
    intro K hK
    go_simp
    refine hK _ ?_
    clear hK K
    refine wpT_alone rfl ?_
    focus (go_wp2_with fail; refine (lessA a b _).mono ?_; rintro e w2 ⟨rfl, hb2⟩; have hcur := hcur.next hb2; clear hb2; rw [HAB.out]; go_wp2)
    refine QS_normal hcur.keep (fun _ => ?_)
    refine wpT_alone rfl ?_
    focus (go_wp2_with fail; refine (lessR a b _).mono ?_; rintro e w2 ⟨rfl, hb2⟩; have hcur := hcur.next hb2; clear hb2; rw [HAB.out]; go_wp2)
    refine QS_normal hcur.keep (fun _ => ?_)
    apply wpT_takeK rfl _ (by first | rfl | (simp [Region.wanted, yielded]; done))
    · intro w' hS
      obtain ⟨s0, s1, s2, s3⟩ := hS
      skip
      go_simp
      try rfl
    intro K hK
    go_simp
    refine hK _ ?_
    clear hK K
    apply wpT_takeK rfl _ (by first | rfl | (simp [Region.wanted, yielded]; done))
    · intro w' hS
      obtain ⟨s0, s1, s2, s3⟩ := hS
      skip
      go_simp
      try rfl
    intro K hK
    go_simp
    refine hK _ ?_
    clear hK K
    apply wpT_takeK rfl _ (by first | rfl | (simp [Region.wanted, yielded]; done))
    · intro w' hS
      obtain ⟨s0, s1, s2, s3⟩ := hS
      skip
      go_simp
      try rfl
    intro K hK
    go_simp
    refine hK _ ?_
    clear hK K
    apply wpT_takeK rfl _ (by first | rfl | (simp [Region.wanted, yielded]; done))
    · intro w' hS
      obtain ⟨s0, s1, s2, s3⟩ := hS
      skip
      go_simp
      try rfl
    intro K hK
    go_simp
    refine hK _ ?_
    clear hK K
    refine wpT_alone rfl ?_
    focus (go_wp2_with fail; refine (lessA a b _).mono ?_; rintro e w2 ⟨rfl, hb2⟩; have hcur := hcur.next hb2; clear hb2; rw [HAB.out]; go_wp2)
    refine QS_normal hcur.keep (fun _ => ?_)
    apply wpT_takeK rfl _ (by first | rfl | (simp [Region.wanted, yielded]; done))
    · intro w' hS
      obtain ⟨s0, s1, s2, s3⟩ := hS
      skip
      go_simp
      try rfl
    intro K hK
    go_simp
    refine hK _ ?_
    clear hK K
    refine wpT_skipT rfl (by first | rfl | (simp [Region.wanted, yielded]; done)) ?_
    intro K hK
    go_simp
    refine hK _ ?_
    clear hK K
    refine wpT_skipT rfl (by first | rfl | (simp [Region.wanted, yielded]; done)) ?_
    intro K hK
    go_simp
    refine hK _ ?_
    clear hK K
    refine wpT_skipT rfl (by first | rfl | (simp [Region.wanted, yielded]; done)) ?_
    intro K hK
    go_simp
    refine hK _ ?_
    clear hK K
    apply wpT_takeK rfl _ (by first | rfl | (simp [Region.wanted, yielded]; done))
    · intro w' hS
      obtain ⟨s0, s1, s2, s3⟩ := hS
      skip
      go_simp
      try rfl
    intro K hK
    go_simp
    refine hK _ ?_
    clear hK K
    apply wpT_takeK rfl _ (by first | rfl | (simp [Region.wanted, yielded]; done))
    · intro w' hS
      obtain ⟨s0, s1, s2, s3⟩ := hS
      skip
      go_simp
      try rfl
    intro K hK
    go_simp
    refine hK _ ?_
    clear hK K
    refine wpT_end ?_
    have pa0 := cell_at hcur.p 0 _ rfl; have pa1 := cell_at hcur.p 1 _ rfl; have pb0 := cell_at hcur.q 0 _ rfl; have pb1 := cell_at hcur.q 1 _ rfl; have pc0 := cell_at hcur.t 0 _ rfl; have pc1 := cell_at hcur.t 1 _ rfl; simp only [List.getElem_toArray, List.getElem_cons_zero, List.getElem_cons_succ] at pa0 pa1 pb0 pb1 pc0 pc1
    go_wp2_with fail
    refine (lessA a b _).mono ?_
    rintro e w2 ⟨rfl, hb2⟩
    have hcur := hcur.next hb2
    clear hb2 pa0 pa1 pb0 pb1 pc0 pc1
    rw [HAB.out]
    have pa0 := cell_at hcur.p 0 _ rfl; have pa1 := cell_at hcur.p 1 _ rfl; have pb0 := cell_at hcur.q 0 _ rfl; have pb1 := cell_at hcur.q 1 _ rfl; have pc0 := cell_at hcur.t 0 _ rfl; have pc1 := cell_at hcur.t 1 _ rfl; simp only [List.getElem_toArray, List.getElem_cons_zero, List.getElem_cons_succ] at pa0 pa1 pb0 pb1 pc0 pc1
    clear pa0 pa1 pb0 pb1 pc0 pc1
    have hcur := hcur.drew
    go_upto_region 6 with fail
    refine wp_region_tree (fun w' => (w'.cell? ⟨P, 0, none⟩ = some (.int .u8 a.k)) ∧ (w'.cell? ⟨P, 1, none⟩ = some (.string a.n)) ∧ (w'.cell? ⟨Q, 0, none⟩ = some (.int .u8 b.k)) ∧ (w'.cell? ⟨Q, 1, none⟩ = some (.string b.n))) (.a 0 (.t 1 (.t 2 (.t 3 (.t 10 (.t 11 (.t 12 (.a 4 (.t 5 (.t 6 (.t 7 (.a 8 (.t 9 (.t 13 (.t 14 (.t 15 .nil)))))))))))))))) (by kernel_rfl) (by kernel_rfl) (by kernel_rfl) ?_ ?_
    · exact hcur.keep
    refine wpT_alone rfl ?_
    focus (go_wp2_with fail; refine (live_any _).mono ?_; rintro e w2 ⟨rfl, hb2⟩; have hcur := hcur.next hb2; clear hb2; go_wp2)
    refine QS_normal hcur.keep (fun _ => ?_)
    apply wpT_takeK rfl _ (by first | rfl | (simp [Region.wanted, yielded]; done))
    · intro w' hS
      obtain ⟨s0, s1, s2, s3⟩ := hS
      skip
      go_simp
      try rfl
    intro K hK
    go_simp
    refine hK _ ?_
    clear hK K
    apply wpT_takeK rfl _ (by first | rfl | (simp [Region.wanted, yielded]; done))
    · intro w' hS
      obtain ⟨s0, s1, s2, s3⟩ := hS
      skip
      go_simp
      try rfl
    intro K hK
    go_simp
    refine hK _ ?_
    clear hK K
    apply wpT_takeK rfl _ (by first | rfl | (simp [Region.wanted, yielded]; done))
    · intro w' hS
      obtain ⟨s0, s1, s2, s3⟩ := hS
      skip
      go_simp
      try rfl
    intro K hK
    go_simp
    refine hK _ ?_
    clear hK K
    apply wpT_takeK rfl _ (by first | rfl | (simp [Region.wanted, yielded]; done))
    · intro w' hS
      obtain ⟨s0, s1, s2, s3⟩ := hS
      skip
      go_simp
      try rfl
    intro K hK
    go_simp
    refine hK _ ?_
    clear hK K
    apply wpT_takeK rfl _ (by first | rfl | (simp [Region.wanted, yielded]; done))
    · intro w' hS
      obtain ⟨s0, s1, s2, s3⟩ := hS
      skip
      go_simp
      try rfl
    intro K hK
    go_simp
    refine hK _ ?_
    clear hK K
    apply wpT_takeK rfl _ (by first | rfl | (simp [Region.wanted, yielded]; done))
    · intro w' hS
      obtain ⟨s0, s1, s2, s3⟩ := hS
      skip
      go_simp
      try rfl
    intro K hK
    go_simp
    refine hK _ ?_
    clear hK K
    refine wpT_alone rfl ?_
    focus (go_wp2_with fail; refine (lessA a b _).mono ?_; rintro e w2 ⟨rfl, hb2⟩; have hcur := hcur.next hb2; clear hb2; rw [HAB.out]; go_wp2)
    refine QS_normal hcur.keep (fun _ => ?_)
    apply wpT_takeK rfl _ (by first | rfl | (simp [Region.wanted, yielded]; done))
    · intro w' hS
      obtain ⟨s0, s1, s2, s3⟩ := hS
      skip
      go_simp
      try rfl
    intro K hK
    go_simp
    refine hK _ ?_
    clear hK K
    apply wpT_takeK rfl _ (by first | rfl | (simp [Region.wanted, yielded]; done))
    · intro w' hS
      obtain ⟨s0, s1, s2, s3⟩ := hS
      skip
      go_simp
      try rfl
    intro K hK
    go_simp
    refine hK _ ?_
    clear hK K
    apply wpT_takeK rfl _ (by first | rfl | (simp [Region.wanted, yielded]; done))
    · intro w' hS
      obtain ⟨s0, s1, s2, s3⟩ := hS
      skip
      go_simp
      try rfl
    intro K hK
    go_simp
    refine hK _ ?_
    clear hK K
    refine wpT_alone rfl ?_
    focus (go_wp2_with fail; refine (lessA b a _).mono ?_; rintro e w2 ⟨rfl, hb2⟩; have hcur := hcur.next hb2; clear hb2; rw [HBA.out]; go_wp2)
    refine QS_normal hcur.keep (fun _ => ?_)
    apply wpT_takeK rfl _ (by first | rfl | (simp [Region.wanted, yielded]; done))
    · intro w' hS
      obtain ⟨s0, s1, s2, s3⟩ := hS
      skip
      go_simp
      try rfl
    intro K hK
    go_simp
    refine hK _ ?_
    clear hK K
    apply wpT_takeK rfl _ (by first | rfl | (simp [Region.wanted, yielded]; done))
    · intro w' hS
      obtain ⟨s0, s1, s2, s3⟩ := hS
      skip
      go_simp
      try rfl
    intro K hK
    go_simp
    refine hK _ ?_
    clear hK K
    apply wpT_takeK rfl _ (by first | rfl | (simp [Region.wanted, yielded]; done))
    · intro w' hS
      obtain ⟨s0, s1, s2, s3⟩ := hS
      skip
      go_simp
      try rfl
    intro K hK
    go_simp
    refine hK _ ?_
    clear hK K
    apply wpT_takeK rfl _ (by first | rfl | (simp [Region.wanted, yielded]; done))
    · intro w' hS
      obtain ⟨s0, s1, s2, s3⟩ := hS
      skip
      go_simp
      try rfl
    intro K hK
    go_simp
    refine hK _ ?_
    clear hK K
    refine wpT_end ?_
    go_wp2
    go_ret
    exact ⟨ret_bool (by simp), hcur.b⟩
  · skip
    refine wp_region_tree (fun w' => (w'.cell? ⟨P, 0, none⟩ = some (.int .u8 a.k)) ∧ (w'.cell? ⟨P, 1, none⟩ = some (.string a.n)) ∧ (w'.cell? ⟨Q, 0, none⟩ = some (.int .u8 b.k)) ∧ (w'.cell? ⟨Q, 1, none⟩ = some (.string b.n))) (.t 0 (.t 1 (.t 3 (.t 4 (.a 2 (.a 5 (.t 6 (.t 7 (.t 8 (.t 9 (.a 10 (.t 11 (.t 12 (.t 13 (.t 14 (.t 15 (.t 16 .nil))))))))))))))))) (by kernel_rfl) (by kernel_rfl) (by kernel_rfl) ?_ ?_
    · exact hcur.keep
    apply wpT_takeK rfl _ (by first | rfl | (simp [Region.wanted, yielded]; done))
    · intro w' hS
      obtain ⟨s0, s1, s2, s3⟩ := hS
      skip
      go_simp
      try rfl
    intro K hK
    go_simp
    refine hK _ ?_
    clear hK K
    apply wpT_takeK rfl _ (by first | rfl | (simp [Region.wanted, yielded]; done))
    · intro w' hS
      obtain ⟨s0, s1, s2, s3⟩ := hS
      skip
      go_simp
      try rfl
    intro K hK
    go_simp
    refine hK _ ?_
    clear hK K
    apply wpT_takeK rfl _ (by first | rfl | (simp [Region.wanted, yielded]; done))
    · intro w' hS
      obtain ⟨s0, s1, s2, s3⟩ := hS
      skip
      go_simp
      try rfl
    intro K hK
    go_simp
    refine hK _ ?_
    clear hK K
    apply wpT_takeK rfl _ (by first | rfl | (simp [Region.wanted, yielded]; done))
    · intro w' hS
      obtain ⟨s0, s1, s2, s3⟩ := hS
      skip
      go_simp
      try rfl
    intro K hK
    go_simp
    refine hK _ ?_
    clear hK K
    refine wpT_alone rfl ?_
    focus (go_wp2_with fail; refine (lessA a b _).mono ?_; rintro e w2 ⟨rfl, hb2⟩; have hcur := hcur.next hb2; clear hb2; rw [HAB.out]; go_wp2)
    refine QS_normal hcur.keep (fun _ => ?_)
    refine wpT_alone rfl ?_
    focus (go_wp2_with fail; refine (lessR a b _).mono ?_; rintro e w2 ⟨rfl, hb2⟩; have hcur := hcur.next hb2; clear hb2; rw [HAB.out]; go_wp2)
    refine QS_normal hcur.keep (fun _ => ?_)
    apply wpT_takeK rfl _ (by first | rfl | (simp [Region.wanted, yielded]; done))
    · intro w' hS
      obtain ⟨s0, s1, s2, s3⟩ := hS
      skip
      go_simp
      try rfl
    intro K hK
    go_simp
    refine hK _ ?_
    clear hK K
    apply wpT_takeK rfl _ (by first | rfl | (simp [Region.wanted, yielded]; done))
    · intro w' hS
      obtain ⟨s0, s1, s2, s3⟩ := hS
      skip
      go_simp
      try rfl
    intro K hK
    go_simp
    refine hK _ ?_
    clear hK K
    apply wpT_takeK rfl _ (by first | rfl | (simp [Region.wanted, yielded]; done))
    · intro w' hS
      obtain ⟨s0, s1, s2, s3⟩ := hS
      skip
      go_simp
      try rfl
    intro K hK
    go_simp
    refine hK _ ?_
    clear hK K
    apply wpT_takeK rfl _ (by first | rfl | (simp [Region.wanted, yielded]; done))
    · intro w' hS
      obtain ⟨s0, s1, s2, s3⟩ := hS
      skip
      go_simp
      try rfl
    intro K hK
    go_simp
    refine hK _ ?_
    clear hK K
    refine wpT_alone rfl ?_
    focus (go_wp2_with fail; refine (lessA a b _).mono ?_; rintro e w2 ⟨rfl, hb2⟩; have hcur := hcur.next hb2; clear hb2; rw [HAB.out]; go_wp2)
    refine QS_normal hcur.keep (fun _ => ?_)
    apply wpT_takeK rfl _ (by first | rfl | (simp [Region.wanted, yielded]; done))
    · intro w' hS
      obtain ⟨s0, s1, s2, s3⟩ := hS
      skip
      go_simp
      try rfl
    intro K hK
    go_simp
    refine hK _ ?_
    clear hK K
    refine wpT_skipT rfl (by first | rfl | (simp [Region.wanted, yielded]; done)) ?_
    intro K hK
    go_simp
    refine hK _ ?_
    clear hK K
    refine wpT_skipT rfl (by first | rfl | (simp [Region.wanted, yielded]; done)) ?_
    intro K hK
    go_simp
    refine hK _ ?_
    clear hK K
    refine wpT_skipT rfl (by first | rfl | (simp [Region.wanted, yielded]; done)) ?_
    intro K hK
    go_simp
    refine hK _ ?_
    clear hK K
    apply wpT_takeK rfl _ (by first | rfl | (simp [Region.wanted, yielded]; done))
    · intro w' hS
      obtain ⟨s0, s1, s2, s3⟩ := hS
      skip
      go_simp
      try rfl
    intro K hK
    go_simp
    refine hK _ ?_
    clear hK K
    apply wpT_takeK rfl _ (by first | rfl | (simp [Region.wanted, yielded]; done))
    · intro w' hS
      obtain ⟨s0, s1, s2, s3⟩ := hS
      skip
      go_simp
      try rfl
    intro K hK
    go_simp
    refine hK _ ?_
    clear hK K
    refine wpT_end ?_
    have pa0 := cell_at hcur.p 0 _ rfl; have pa1 := cell_at hcur.p 1 _ rfl; have pb0 := cell_at hcur.q 0 _ rfl; have pb1 := cell_at hcur.q 1 _ rfl; have pc0 := cell_at hcur.t 0 _ rfl; have pc1 := cell_at hcur.t 1 _ rfl; simp only [List.getElem_toArray, List.getElem_cons_zero, List.getElem_cons_succ] at pa0 pa1 pb0 pb1 pc0 pc1
    go_wp2_with fail
    refine (lessA a b _).mono ?_
    rintro e w2 ⟨rfl, hb2⟩
    have hcur := hcur.next hb2
    clear hb2 pa0 pa1 pb0 pb1 pc0 pc1
    rw [HAB.out]
    have pa0 := cell_at hcur.p 0 _ rfl; have pa1 := cell_at hcur.p 1 _ rfl; have pb0 := cell_at hcur.q 0 _ rfl; have pb1 := cell_at hcur.q 1 _ rfl; have pc0 := cell_at hcur.t 0 _ rfl; have pc1 := cell_at hcur.t 1 _ rfl; simp only [List.getElem_toArray, List.getElem_cons_zero, List.getElem_cons_succ] at pa0 pa1 pb0 pb1 pc0 pc1
    clear pa0 pa1 pb0 pb1 pc0 pc1
    have hcur := hcur.drew
    go_upto_region 6 with fail
    refine wp_region_tree (fun w' => (w'.cell? ⟨P, 0, none⟩ = some (.int .u8 a.k)) ∧ (w'.cell? ⟨P, 1, none⟩ = some (.string a.n)) ∧ (w'.cell? ⟨Q, 0, none⟩ = some (.int .u8 b.k)) ∧ (w'.cell? ⟨Q, 1, none⟩ = some (.string b.n))) (.a 0 (.t 1 (.t 2 (.t 3 (.t 10 (.t 11 (.t 12 (.a 4 (.t 5 (.t 6 (.t 7 (.a 8 (.t 9 (.t 13 (.t 14 (.t 15 .nil)))))))))))))))) (by kernel_rfl) (by kernel_rfl) (by kernel_rfl) ?_ ?_
    · exact hcur.keep
    refine wpT_alone rfl ?_
    focus (go_wp2_with fail; refine (live_any _).mono ?_; rintro e w2 ⟨rfl, hb2⟩; have hcur := hcur.next hb2; clear hb2; go_wp2)
    refine QS_normal hcur.keep (fun _ => ?_)
    apply wpT_takeK rfl _ (by first | rfl | (simp [Region.wanted, yielded]; done))
    · intro w' hS
      obtain ⟨s0, s1, s2, s3⟩ := hS
      skip
      go_simp
      try rfl
    intro K hK
    go_simp
    refine hK _ ?_
    clear hK K
    apply wpT_takeK rfl _ (by first | rfl | (simp [Region.wanted, yielded]; done))
    · intro w' hS
      obtain ⟨s0, s1, s2, s3⟩ := hS
      skip
      go_simp
      try rfl
    intro K hK
    go_simp
    refine hK _ ?_
    clear hK K
    apply wpT_takeK rfl _ (by first | rfl | (simp [Region.wanted, yielded]; done))
    · intro w' hS
      obtain ⟨s0, s1, s2, s3⟩ := hS
      skip
      go_simp
      try rfl
    intro K hK
    go_simp
    refine hK _ ?_
    clear hK K
    apply wpT_takeK rfl _ (by first | rfl | (simp [Region.wanted, yielded]; done))
    · intro w' hS
      obtain ⟨s0, s1, s2, s3⟩ := hS
      skip
      go_simp
      try rfl
    intro K hK
    go_simp
    refine hK _ ?_
    clear hK K
    apply wpT_takeK rfl _ (by first | rfl | (simp [Region.wanted, yielded]; done))
    · intro w' hS
      obtain ⟨s0, s1, s2, s3⟩ := hS
      skip
      go_simp
      try rfl
    intro K hK
    go_simp
    refine hK _ ?_
    clear hK K
    apply wpT_takeK rfl _ (by first | rfl | (simp [Region.wanted, yielded]; done))
    · intro w' hS
      obtain ⟨s0, s1, s2, s3⟩ := hS
      skip
      go_simp
      try rfl
    intro K hK
    go_simp
    refine hK _ ?_
    clear hK K
    refine wpT_alone rfl ?_
    focus (go_wp2_with fail; refine (lessA a b _).mono ?_; rintro e w2 ⟨rfl, hb2⟩; have hcur := hcur.next hb2; clear hb2; rw [HAB.out]; go_wp2)
    refine QS_normal hcur.keep (fun _ => ?_)
    apply wpT_takeK rfl _ (by first | rfl | (simp [Region.wanted, yielded]; done))
    · intro w' hS
      obtain ⟨s0, s1, s2, s3⟩ := hS
      skip
      go_simp
      try rfl
    intro K hK
    go_simp
    refine hK _ ?_
    clear hK K
    apply wpT_takeK rfl _ (by first | rfl | (simp [Region.wanted, yielded]; done))
    · intro w' hS
      obtain ⟨s0, s1, s2, s3⟩ := hS
      skip
      go_simp
      try rfl
    intro K hK
    go_simp
    refine hK _ ?_
    clear hK K
    apply wpT_takeK rfl _ (by first | rfl | (simp [Region.wanted, yielded]; done))
    · intro w' hS
      obtain ⟨s0, s1, s2, s3⟩ := hS
      skip
      go_simp
      try rfl
    intro K hK
    go_simp
    refine hK _ ?_
    clear hK K
    refine wpT_alone rfl ?_
    focus (go_wp2_with fail; refine (lessA b a _).mono ?_; rintro e w2 ⟨rfl, hb2⟩; have hcur := hcur.next hb2; clear hb2; rw [HBA.out]; go_wp2)
    refine QS_normal hcur.keep (fun _ => ?_)
    apply wpT_takeK rfl _ (by first | rfl | (simp [Region.wanted, yielded]; done))
    · intro w' hS
      obtain ⟨s0, s1, s2, s3⟩ := hS
      skip
      go_simp
      try rfl
    intro K hK
    go_simp
    refine hK _ ?_
    clear hK K
    apply wpT_takeK rfl _ (by first | rfl | (simp [Region.wanted, yielded]; done))
    · intro w' hS
      obtain ⟨s0, s1, s2, s3⟩ := hS
      skip
      go_simp
      try rfl
    intro K hK
    go_simp
    refine hK _ ?_
    clear hK K
    apply wpT_takeK rfl _ (by first | rfl | (simp [Region.wanted, yielded]; done))
    · intro w' hS
      obtain ⟨s0, s1, s2, s3⟩ := hS
      skip
      go_simp
      try rfl
    intro K hK
    go_simp
    refine hK _ ?_
    clear hK K
    apply wpT_takeK rfl _ (by first | rfl | (simp [Region.wanted, yielded]; done))
    · intro w' hS
      obtain ⟨s0, s1, s2, s3⟩ := hS
      skip
      go_simp
      try rfl
    intro K hK
    go_simp
    refine hK _ ?_
    clear hK K
    refine wpT_end ?_
    go_wp2
    go_ret
    exact ⟨ret_bool (by simp), hcur.b⟩
  · skip
    refine wp_region_tree (fun w' => (w'.cell? ⟨P, 0, none⟩ = some (.int .u8 a.k)) ∧ (w'.cell? ⟨P, 1, none⟩ = some (.string a.n)) ∧ (w'.cell? ⟨Q, 0, none⟩ = some (.int .u8 b.k)) ∧ (w'.cell? ⟨Q, 1, none⟩ = some (.string b.n))) (.t 0 (.t 1 (.t 3 (.t 4 (.a 2 (.a 5 (.t 6 (.t 7 (.t 8 (.t 9 (.a 10 (.t 11 (.t 12 (.t 13 (.t 14 (.t 15 (.t 16 .nil))))))))))))))))) (by kernel_rfl) (by kernel_rfl) (by kernel_rfl) ?_ ?_
    · exact hcur.keep
    apply wpT_takeK rfl _ (by first | rfl | (simp [Region.wanted, yielded]; done))
    · intro w' hS
      obtain ⟨s0, s1, s2, s3⟩ := hS
      skip
      go_simp
      try rfl
    intro K hK
    go_simp
    refine hK _ ?_
    clear hK K
    apply wpT_takeK rfl _ (by first | rfl | (simp [Region.wanted, yielded]; done))
    · intro w' hS
      obtain ⟨s0, s1, s2, s3⟩ := hS
      skip
      go_simp
      try rfl
    intro K hK
    go_simp
    refine hK _ ?_
    clear hK K
    apply wpT_takeK rfl _ (by first | rfl | (simp [Region.wanted, yielded]; done))
    · intro w' hS
      obtain ⟨s0, s1, s2, s3⟩ := hS
      skip
      go_simp
      try rfl
    intro K hK
    go_simp
    refine hK _ ?_
    clear hK K
    apply wpT_takeK rfl _ (by first | rfl | (simp [Region.wanted, yielded]; done))
    · intro w' hS
      obtain ⟨s0, s1, s2, s3⟩ := hS
      skip
      go_simp
      try rfl
    intro K hK
    go_simp
    refine hK _ ?_
    clear hK K
    refine wpT_alone rfl ?_
    focus (go_wp2_with fail; refine (lessA a b _).mono ?_; rintro e w2 ⟨rfl, hb2⟩; have hcur := hcur.next hb2; clear hb2; rw [HAB.out]; go_wp2)
    refine QS_normal hcur.keep (fun _ => ?_)
    refine wpT_alone rfl ?_
    focus (go_wp2_with fail; refine (lessR a b _).mono ?_; rintro e w2 ⟨rfl, hb2⟩; have hcur := hcur.next hb2; clear hb2; rw [HAB.out]; go_wp2)
    refine QS_normal hcur.keep (fun _ => ?_)
    apply wpT_takeK rfl _ (by first | rfl | (simp [Region.wanted, yielded]; done))
    · intro w' hS
      obtain ⟨s0, s1, s2, s3⟩ := hS
      skip
      go_simp
      try rfl
    intro K hK
    go_simp
    refine hK _ ?_
    clear hK K
    apply wpT_takeK rfl _ (by first | rfl | (simp [Region.wanted, yielded]; done))
    · intro w' hS
      obtain ⟨s0, s1, s2, s3⟩ := hS
      skip
      go_simp
      try rfl
    intro K hK
    go_simp
    refine hK _ ?_
    clear hK K
    apply wpT_takeK rfl _ (by first | rfl | (simp [Region.wanted, yielded]; done))
    · intro w' hS
      obtain ⟨s0, s1, s2, s3⟩ := hS
      skip
      go_simp
      try rfl
    intro K hK
    go_simp
    refine hK _ ?_
    clear hK K
    apply wpT_takeK rfl _ (by first | rfl | (simp [Region.wanted, yielded]; done))
    · intro w' hS
      obtain ⟨s0, s1, s2, s3⟩ := hS
      skip
      go_simp
      try rfl
    intro K hK
    go_simp
    refine hK _ ?_
    clear hK K
    refine wpT_alone rfl ?_
    focus (go_wp2_with fail; refine (lessA a b _).mono ?_; rintro e w2 ⟨rfl, hb2⟩; have hcur := hcur.next hb2; clear hb2; rw [HAB.out]; go_wp2)
    refine QS_normal hcur.keep (fun _ => ?_)
    apply wpT_takeK rfl _ (by first | rfl | (simp [Region.wanted, yielded]; done))
    · intro w' hS
      obtain ⟨s0, s1, s2, s3⟩ := hS
      skip
      go_simp
      try rfl
    intro K hK
    go_simp
    refine hK _ ?_
    clear hK K
    refine wpT_skipT rfl (by first | rfl | (simp [Region.wanted, yielded]; done)) ?_
    intro K hK
    go_simp
    refine hK _ ?_
    clear hK K
    refine wpT_skipT rfl (by first | rfl | (simp [Region.wanted, yielded]; done)) ?_
    intro K hK
    go_simp
    refine hK _ ?_
    clear hK K
    refine wpT_skipT rfl (by first | rfl | (simp [Region.wanted, yielded]; done)) ?_
    intro K hK
    go_simp
    refine hK _ ?_
    clear hK K
    apply wpT_takeK rfl _ (by first | rfl | (simp [Region.wanted, yielded]; done))
    · intro w' hS
      obtain ⟨s0, s1, s2, s3⟩ := hS
      skip
      go_simp
      try rfl
    intro K hK
    go_simp
    refine hK _ ?_
    clear hK K
    apply wpT_takeK rfl _ (by first | rfl | (simp [Region.wanted, yielded]; done))
    · intro w' hS
      obtain ⟨s0, s1, s2, s3⟩ := hS
      skip
      go_simp
      try rfl
    intro K hK
    go_simp
    refine hK _ ?_
    clear hK K
    refine wpT_end ?_
    have pa0 := cell_at hcur.p 0 _ rfl; have pa1 := cell_at hcur.p 1 _ rfl; have pb0 := cell_at hcur.q 0 _ rfl; have pb1 := cell_at hcur.q 1 _ rfl; have pc0 := cell_at hcur.t 0 _ rfl; have pc1 := cell_at hcur.t 1 _ rfl; simp only [List.getElem_toArray, List.getElem_cons_zero, List.getElem_cons_succ] at pa0 pa1 pb0 pb1 pc0 pc1
    go_wp2_with fail
    refine (lessA a b _).mono ?_
    rintro e w2 ⟨rfl, hb2⟩
    have hcur := hcur.next hb2
    clear hb2 pa0 pa1 pb0 pb1 pc0 pc1
    rw [HAB.out]
    have pa0 := cell_at hcur.p 0 _ rfl; have pa1 := cell_at hcur.p 1 _ rfl; have pb0 := cell_at hcur.q 0 _ rfl; have pb1 := cell_at hcur.q 1 _ rfl; have pc0 := cell_at hcur.t 0 _ rfl; have pc1 := cell_at hcur.t 1 _ rfl; simp only [List.getElem_toArray, List.getElem_cons_zero, List.getElem_cons_succ] at pa0 pa1 pb0 pb1 pc0 pc1
    clear pa0 pa1 pb0 pb1 pc0 pc1
    have hcur := hcur.drew
    go_upto_region 6 with fail
    refine wp_region_tree (fun w' => (w'.cell? ⟨P, 0, none⟩ = some (.int .u8 a.k)) ∧ (w'.cell? ⟨P, 1, none⟩ = some (.string a.n)) ∧ (w'.cell? ⟨Q, 0, none⟩ = some (.int .u8 b.k)) ∧ (w'.cell? ⟨Q, 1, none⟩ = some (.string b.n))) (.a 0 (.t 1 (.t 2 (.t 3 (.t 10 (.t 11 (.t 12 (.a 4 (.t 5 (.t 6 (.t 7 (.a 8 (.t 9 (.t 13 (.t 14 (.t 15 .nil)))))))))))))))) (by kernel_rfl) (by kernel_rfl) (by kernel_rfl) ?_ ?_
    · exact hcur.keep
    refine wpT_alone rfl ?_
    focus (go_wp2_with fail; refine (live_any _).mono ?_; rintro e w2 ⟨rfl, hb2⟩; have hcur := hcur.next hb2; clear hb2; go_wp2)
    refine QS_normal hcur.keep (fun _ => ?_)
    apply wpT_takeK rfl _ (by first | rfl | (simp [Region.wanted, yielded]; done))
    · intro w' hS
      obtain ⟨s0, s1, s2, s3⟩ := hS
      skip
      go_simp
      try rfl
    intro K hK
    go_simp
    refine hK _ ?_
    clear hK K
    apply wpT_takeK rfl _ (by first | rfl | (simp [Region.wanted, yielded]; done))
    · intro w' hS
      obtain ⟨s0, s1, s2, s3⟩ := hS
      skip
      go_simp
      try rfl
    intro K hK
    go_simp
    refine hK _ ?_
    clear hK K
    apply wpT_takeK rfl _ (by first | rfl | (simp [Region.wanted, yielded]; done))
    · intro w' hS
      obtain ⟨s0, s1, s2, s3⟩ := hS
      skip
      go_simp
      try rfl
    intro K hK
    go_simp
    refine hK _ ?_
    clear hK K
    apply wpT_takeK rfl _ (by first | rfl | (simp [Region.wanted, yielded]; done))
    · intro w' hS
      obtain ⟨s0, s1, s2, s3⟩ := hS
      skip
      go_simp
      try rfl
    intro K hK
    go_simp
    refine hK _ ?_
    clear hK K
    apply wpT_takeK rfl _ (by first | rfl | (simp [Region.wanted, yielded]; done))
    · intro w' hS
      obtain ⟨s0, s1, s2, s3⟩ := hS
      skip
      go_simp
      try rfl
    intro K hK
    go_simp
    refine hK _ ?_
    clear hK K
    apply wpT_takeK rfl _ (by first | rfl | (simp [Region.wanted, yielded]; done))
    · intro w' hS
      obtain ⟨s0, s1, s2, s3⟩ := hS
      skip
      go_simp
      try rfl
    intro K hK
    go_simp
    refine hK _ ?_
    clear hK K
    refine wpT_alone rfl ?_
    focus (go_wp2_with fail; refine (lessA a b _).mono ?_; rintro e w2 ⟨rfl, hb2⟩; have hcur := hcur.next hb2; clear hb2; rw [HAB.out]; go_wp2)
    refine QS_normal hcur.keep (fun _ => ?_)
    apply wpT_takeK rfl _ (by first | rfl | (simp [Region.wanted, yielded]; done))
    · intro w' hS
      obtain ⟨s0, s1, s2, s3⟩ := hS
      skip
      go_simp
      try rfl
    intro K hK
    go_simp
    refine hK _ ?_
    clear hK K
    apply wpT_takeK rfl _ (by first | rfl | (simp [Region.wanted, yielded]; done))
    · intro w' hS
      obtain ⟨s0, s1, s2, s3⟩ := hS
      skip
      go_simp
      try rfl
    intro K hK
    go_simp
    refine hK _ ?_
    clear hK K
    apply wpT_takeK rfl _ (by first | rfl | (simp [Region.wanted, yielded]; done))
    · intro w' hS
      obtain ⟨s0, s1, s2, s3⟩ := hS
      skip
      go_simp
      try rfl
    intro K hK
    go_simp
    refine hK _ ?_
    clear hK K
    refine wpT_alone rfl ?_
    focus (go_wp2_with fail; refine (lessA b a _).mono ?_; rintro e w2 ⟨rfl, hb2⟩; have hcur := hcur.next hb2; clear hb2; rw [HBA.out]; go_wp2)
    refine QS_normal hcur.keep (fun _ => ?_)
    apply wpT_takeK rfl _ (by first | rfl | (simp [Region.wanted, yielded]; done))
    · intro w' hS
      obtain ⟨s0, s1, s2, s3⟩ := hS
      skip
      go_simp
      try rfl
    intro K hK
    go_simp
    refine hK _ ?_
    clear hK K
    apply wpT_takeK rfl _ (by first | rfl | (simp [Region.wanted, yielded]; done))
    · intro w' hS
      obtain ⟨s0, s1, s2, s3⟩ := hS
      skip
      go_simp
      try rfl
    intro K hK
    go_simp
    refine hK _ ?_
    clear hK K
    apply wpT_takeK rfl _ (by first | rfl | (simp [Region.wanted, yielded]; done))
    · intro w' hS
      obtain ⟨s0, s1, s2, s3⟩ := hS
      skip
      go_simp
      try rfl
    intro K hK
    go_simp
    refine hK _ ?_
    clear hK K
    apply wpT_takeK rfl _ (by first | rfl | (simp [Region.wanted, yielded]; done))
    · intro w' hS
      obtain ⟨s0, s1, s2, s3⟩ := hS
      skip
      go_simp
      try rfl
    intro K hK
    go_simp
    refine hK _ ?_
    clear hK K
    refine wpT_end ?_
    go_wp2
    go_ret
    exact ⟨ret_bool (by simp), hcur.b⟩
  · skip
    refine wp_region_tree (fun w' => (w'.cell? ⟨P, 0, none⟩ = some (.int .u8 a.k)) ∧ (w'.cell? ⟨P, 1, none⟩ = some (.string a.n)) ∧ (w'.cell? ⟨Q, 0, none⟩ = some (.int .u8 b.k)) ∧ (w'.cell? ⟨Q, 1, none⟩ = some (.string b.n))) (.t 0 (.t 1 (.t 3 (.t 4 (.a 2 (.a 5 (.t 6 (.t 7 (.t 8 (.t 9 (.a 10 (.t 11 (.t 12 (.t 13 (.t 14 (.t 15 (.t 16 .nil))))))))))))))))) (by kernel_rfl) (by kernel_rfl) (by kernel_rfl) ?_ ?_
    · exact hcur.keep
    apply wpT_takeK rfl _ (by first | rfl | (simp [Region.wanted, yielded]; done))
    · intro w' hS
      obtain ⟨s0, s1, s2, s3⟩ := hS
      skip
      go_simp
      try rfl
    intro K hK
    go_simp
    refine hK _ ?_
    clear hK K
    apply wpT_takeK rfl _ (by first | rfl | (simp [Region.wanted, yielded]; done))
    · intro w' hS
      obtain ⟨s0, s1, s2, s3⟩ := hS
      skip
      go_simp
      try rfl
    intro K hK
    go_simp
    refine hK _ ?_
    clear hK K
    apply wpT_takeK rfl _ (by first | rfl | (simp [Region.wanted, yielded]; done))
    · intro w' hS
      obtain ⟨s0, s1, s2, s3⟩ := hS
      skip
      go_simp
      try rfl
    intro K hK
    go_simp
    refine hK _ ?_
    clear hK K
    apply wpT_takeK rfl _ (by first | rfl | (simp [Region.wanted, yielded]; done))
    · intro w' hS
      obtain ⟨s0, s1, s2, s3⟩ := hS
      skip
      go_simp
      try rfl
    intro K hK
    go_simp
    refine hK _ ?_
    clear hK K
    refine wpT_alone rfl ?_
    focus (go_wp2_with fail; refine (lessA a b _).mono ?_; rintro e w2 ⟨rfl, hb2⟩; have hcur := hcur.next hb2; clear hb2; rw [HAB.out]; go_wp2)
    refine QS_normal hcur.keep (fun _ => ?_)
    refine wpT_alone rfl ?_
    focus (go_wp2_with fail; refine (lessR a b _).mono ?_; rintro e w2 ⟨rfl, hb2⟩; have hcur := hcur.next hb2; clear hb2; rw [HAB.out]; go_wp2)
    refine QS_normal hcur.keep (fun _ => ?_)
    apply wpT_takeK rfl _ (by first | rfl | (simp [Region.wanted, yielded]; done))
    · intro w' hS
      obtain ⟨s0, s1, s2, s3⟩ := hS
      skip
      go_simp
      try rfl
    intro K hK
    go_simp
    refine hK _ ?_
    clear hK K
    apply wpT_takeK rfl _ (by first | rfl | (simp [Region.wanted, yielded]; done))
    · intro w' hS
      obtain ⟨s0, s1, s2, s3⟩ := hS
      skip
      go_simp
      try rfl
    intro K hK
    go_simp
    refine hK _ ?_
    clear hK K
    apply wpT_takeK rfl _ (by first | rfl | (simp [Region.wanted, yielded]; done))
    · intro w' hS
      obtain ⟨s0, s1, s2, s3⟩ := hS
      skip
      go_simp
      try rfl
    intro K hK
    go_simp
    refine hK _ ?_
    clear hK K
    apply wpT_takeK rfl _ (by first | rfl | (simp [Region.wanted, yielded]; done))
    · intro w' hS
      obtain ⟨s0, s1, s2, s3⟩ := hS
      skip
      go_simp
      try rfl
    intro K hK
    go_simp
    refine hK _ ?_
    clear hK K
    refine wpT_alone rfl ?_
    focus (go_wp2_with fail; refine (lessA a b _).mono ?_; rintro e w2 ⟨rfl, hb2⟩; have hcur := hcur.next hb2; clear hb2; rw [HAB.out]; go_wp2)
    refine QS_normal hcur.keep (fun _ => ?_)
    apply wpT_takeK rfl _ (by first | rfl | (simp [Region.wanted, yielded]; done))
    · intro w' hS
      obtain ⟨s0, s1, s2, s3⟩ := hS
      skip
      go_simp
      try rfl
    intro K hK
    go_simp
    refine hK _ ?_
    clear hK K
    refine wpT_skipT rfl (by first | rfl | (simp [Region.wanted, yielded]; done)) ?_
    intro K hK
    go_simp
    refine hK _ ?_
    clear hK K
    refine wpT_skipT rfl (by first | rfl | (simp [Region.wanted, yielded]; done)) ?_
    intro K hK
    go_simp
    refine hK _ ?_
    clear hK K
    refine wpT_skipT rfl (by first | rfl | (simp [Region.wanted, yielded]; done)) ?_
    intro K hK
    go_simp
    refine hK _ ?_
    clear hK K
    apply wpT_takeK rfl _ (by first | rfl | (simp [Region.wanted, yielded]; done))
    · intro w' hS
      obtain ⟨s0, s1, s2, s3⟩ := hS
      skip
      go_simp
      try rfl
    intro K hK
    go_simp
    refine hK _ ?_
    clear hK K
    apply wpT_takeK rfl _ (by first | rfl | (simp [Region.wanted, yielded]; done))
    · intro w' hS
      obtain ⟨s0, s1, s2, s3⟩ := hS
      skip
      go_simp
      try rfl
    intro K hK
    go_simp
    refine hK _ ?_
    clear hK K
    refine wpT_end ?_
    have pa0 := cell_at hcur.p 0 _ rfl; have pa1 := cell_at hcur.p 1 _ rfl; have pb0 := cell_at hcur.q 0 _ rfl; have pb1 := cell_at hcur.q 1 _ rfl; have pc0 := cell_at hcur.t 0 _ rfl; have pc1 := cell_at hcur.t 1 _ rfl; simp only [List.getElem_toArray, List.getElem_cons_zero, List.getElem_cons_succ] at pa0 pa1 pb0 pb1 pc0 pc1
    go_wp2_with fail
    refine (lessA a b _).mono ?_
    rintro e w2 ⟨rfl, hb2⟩
    have hcur := hcur.next hb2
    clear hb2 pa0 pa1 pb0 pb1 pc0 pc1
    rw [HAB.out]
    have pa0 := cell_at hcur.p 0 _ rfl; have pa1 := cell_at hcur.p 1 _ rfl; have pb0 := cell_at hcur.q 0 _ rfl; have pb1 := cell_at hcur.q 1 _ rfl; have pc0 := cell_at hcur.t 0 _ rfl; have pc1 := cell_at hcur.t 1 _ rfl; simp only [List.getElem_toArray, List.getElem_cons_zero, List.getElem_cons_succ] at pa0 pa1 pb0 pb1 pc0 pc1
    clear pa0 pa1 pb0 pb1 pc0 pc1
    have hcur := hcur.drew
    go_upto_region 6 with fail
    refine wp_region_tree (fun w' => (w'.cell? ⟨P, 0, none⟩ = some (.int .u8 a.k)) ∧ (w'.cell? ⟨P, 1, none⟩ = some (.string a.n)) ∧ (w'.cell? ⟨Q, 0, none⟩ = some (.int .u8 b.k)) ∧ (w'.cell? ⟨Q, 1, none⟩ = some (.string b.n))) (.a 0 (.t 1 (.t 2 (.t 3 (.t 10 (.t 11 (.t 12 (.a 4 (.t 5 (.t 6 (.t 7 (.a 8 (.t 9 (.t 13 (.t 14 (.t 15 .nil)))))))))))))))) (by kernel_rfl) (by kernel_rfl) (by kernel_rfl) ?_ ?_
    · exact hcur.keep
    refine wpT_alone rfl ?_
    focus (go_wp2_with fail; refine (live_any _).mono ?_; rintro e w2 ⟨rfl, hb2⟩; have hcur := hcur.next hb2; clear hb2; go_wp2)
    refine QS_normal hcur.keep (fun _ => ?_)
    apply wpT_takeK rfl _ (by first | rfl | (simp [Region.wanted, yielded]; done))
    · intro w' hS
      obtain ⟨s0, s1, s2, s3⟩ := hS
      skip
      go_simp
      try rfl
    intro K hK
    go_simp
    refine hK _ ?_
    clear hK K
    apply wpT_takeK rfl _ (by first | rfl | (simp [Region.wanted, yielded]; done))
    · intro w' hS
      obtain ⟨s0, s1, s2, s3⟩ := hS
      skip
      go_simp
      try rfl
    intro K hK
    go_simp
    refine hK _ ?_
    clear hK K
    apply wpT_takeK rfl _ (by first | rfl | (simp [Region.wanted, yielded]; done))
    · intro w' hS
      obtain ⟨s0, s1, s2, s3⟩ := hS
      skip
      go_simp
      try rfl
    intro K hK
    go_simp
    refine hK _ ?_
    clear hK K
    apply wpT_takeK rfl _ (by first | rfl | (simp [Region.wanted, yielded]; done))
    · intro w' hS
      obtain ⟨s0, s1, s2, s3⟩ := hS
      skip
      go_simp
      try rfl
    intro K hK
    go_simp
    refine hK _ ?_
    clear hK K
    apply wpT_takeK rfl _ (by first | rfl | (simp [Region.wanted, yielded]; done))
    · intro w' hS
      obtain ⟨s0, s1, s2, s3⟩ := hS
      skip
      go_simp
      try rfl
    intro K hK
    go_simp
    refine hK _ ?_
    clear hK K
    apply wpT_takeK rfl _ (by first | rfl | (simp [Region.wanted, yielded]; done))
    · intro w' hS
      obtain ⟨s0, s1, s2, s3⟩ := hS
      skip
      go_simp
      try rfl
    intro K hK
    go_simp
    refine hK _ ?_
    clear hK K
    refine wpT_alone rfl ?_
    focus (go_wp2_with fail; refine (lessA a b _).mono ?_; rintro e w2 ⟨rfl, hb2⟩; have hcur := hcur.next hb2; clear hb2; rw [HAB.out]; go_wp2)
    refine QS_normal hcur.keep (fun _ => ?_)
    apply wpT_takeK rfl _ (by first | rfl | (simp [Region.wanted, yielded]; done))
    · intro w' hS
      obtain ⟨s0, s1, s2, s3⟩ := hS
      skip
      go_simp
      try rfl
    intro K hK
    go_simp
    refine hK _ ?_
    clear hK K
    apply wpT_takeK rfl _ (by first | rfl | (simp [Region.wanted, yielded]; done))
    · intro w' hS
      obtain ⟨s0, s1, s2, s3⟩ := hS
      skip
      go_simp
      try rfl
    intro K hK
    go_simp
    refine hK _ ?_
    clear hK K
    apply wpT_takeK rfl _ (by first | rfl | (simp [Region.wanted, yielded]; done))
    · intro w' hS
      obtain ⟨s0, s1, s2, s3⟩ := hS
      skip
      go_simp
      try rfl
    intro K hK
    go_simp
    refine hK _ ?_
    clear hK K
    refine wpT_alone rfl ?_
    focus (go_wp2_with fail; refine (lessA b a _).mono ?_; rintro e w2 ⟨rfl, hb2⟩; have hcur := hcur.next hb2; clear hb2; rw [HBA.out]; go_wp2)
    refine QS_normal hcur.keep (fun _ => ?_)
    apply wpT_takeK rfl _ (by first | rfl | (simp [Region.wanted, yielded]; done))
    · intro w' hS
      obtain ⟨s0, s1, s2, s3⟩ := hS
      skip
      go_simp
      try rfl
    intro K hK
    go_simp
    refine hK _ ?_
    clear hK K
    apply wpT_takeK rfl _ (by first | rfl | (simp [Region.wanted, yielded]; done))
    · intro w' hS
      obtain ⟨s0, s1, s2, s3⟩ := hS
      skip
      go_simp
      try rfl
    intro K hK
    go_simp
    refine hK _ ?_
    clear hK K
    apply wpT_takeK rfl _ (by first | rfl | (simp [Region.wanted, yielded]; done))
    · intro w' hS
      obtain ⟨s0, s1, s2, s3⟩ := hS
      skip
      go_simp
      try rfl
    intro K hK
    go_simp
    refine hK _ ?_
    clear hK K
    apply wpT_takeK rfl _ (by first | rfl | (simp [Region.wanted, yielded]; done))
    · intro w' hS
      obtain ⟨s0, s1, s2, s3⟩ := hS
      skip
      go_simp
      try rfl
    intro K hK
    go_simp
    refine hK _ ?_
    clear hK K
    refine wpT_end ?_
    go_wp2
    go_ret
    exact ⟨ret_bool (by simp), hcur.b⟩
  · skip
    refine wp_region_tree (fun w' => (w'.cell? ⟨P, 0, none⟩ = some (.int .u8 a.k)) ∧ (w'.cell? ⟨P, 1, none⟩ = some (.string a.n)) ∧ (w'.cell? ⟨Q, 0, none⟩ = some (.int .u8 b.k)) ∧ (w'.cell? ⟨Q, 1, none⟩ = some (.string b.n))) (.t 0 (.t 1 (.t 3 (.t 4 (.a 2 (.a 5 (.t 6 (.t 7 (.t 8 (.t 9 (.a 10 (.t 11 (.t 12 (.t 13 (.t 14 (.t 15 (.t 16 .nil))))))))))))))))) (by kernel_rfl) (by kernel_rfl) (by kernel_rfl) ?_ ?_
    · exact hcur.keep
    apply wpT_takeK rfl _ (by first | rfl | (simp [Region.wanted, yielded]; done))
    · intro w' hS
      obtain ⟨s0, s1, s2, s3⟩ := hS
      skip
      go_simp
      try rfl
    intro K hK
    go_simp
    refine hK _ ?_
    clear hK K
    apply wpT_takeK rfl _ (by first | rfl | (simp [Region.wanted, yielded]; done))
    · intro w' hS
      obtain ⟨s0, s1, s2, s3⟩ := hS
      skip
      go_simp
      try rfl
    intro K hK
    go_simp
    refine hK _ ?_
    clear hK K
    apply wpT_takeK rfl _ (by first | rfl | (simp [Region.wanted, yielded]; done))
    · intro w' hS
      obtain ⟨s0, s1, s2, s3⟩ := hS
      skip
      go_simp
      try rfl
    intro K hK
    go_simp
    refine hK _ ?_
    clear hK K
    apply wpT_takeK rfl _ (by first | rfl | (simp [Region.wanted, yielded]; done))
    · intro w' hS
      obtain ⟨s0, s1, s2, s3⟩ := hS
      skip
      go_simp
      try rfl
    intro K hK
    go_simp
    refine hK _ ?_
    clear hK K
    refine wpT_alone rfl ?_
    focus (go_wp2_with fail; refine (lessA a b _).mono ?_; rintro e w2 ⟨rfl, hb2⟩; have hcur := hcur.next hb2; clear hb2; rw [HAB.out]; go_wp2)
    refine QS_normal hcur.keep (fun _ => ?_)
    refine wpT_alone rfl ?_
    focus (go_wp2_with fail; refine (lessR a b _).mono ?_; rintro e w2 ⟨rfl, hb2⟩; have hcur := hcur.next hb2; clear hb2; rw [HAB.out]; go_wp2)
    refine QS_normal hcur.keep (fun _ => ?_)
    apply wpT_takeK rfl _ (by first | rfl | (simp [Region.wanted, yielded]; done))
    · intro w' hS
      obtain ⟨s0, s1, s2, s3⟩ := hS
      skip
      go_simp
      try rfl
    intro K hK
    go_simp
    refine hK _ ?_
    clear hK K
    apply wpT_takeK rfl _ (by first | rfl | (simp [Region.wanted, yielded]; done))
    · intro w' hS
      obtain ⟨s0, s1, s2, s3⟩ := hS
      skip
      go_simp
      try rfl
    intro K hK
    go_simp
    refine hK _ ?_
    clear hK K
    apply wpT_takeK rfl _ (by first | rfl | (simp [Region.wanted, yielded]; done))
    · intro w' hS
      obtain ⟨s0, s1, s2, s3⟩ := hS
      skip
      go_simp
      try rfl
    intro K hK
    go_simp
    refine hK _ ?_
    clear hK K
    apply wpT_takeK rfl _ (by first | rfl | (simp [Region.wanted, yielded]; done))
    · intro w' hS
      obtain ⟨s0, s1, s2, s3⟩ := hS
      skip
      go_simp
      try rfl
    intro K hK
    go_simp
    refine hK _ ?_
    clear hK K
    refine wpT_alone rfl ?_
    focus (go_wp2_with fail; refine (lessA a b _).mono ?_; rintro e w2 ⟨rfl, hb2⟩; have hcur := hcur.next hb2; clear hb2; rw [HAB.out]; go_wp2)
    refine QS_normal hcur.keep (fun _ => ?_)
    apply wpT_takeK rfl _ (by first | rfl | (simp [Region.wanted, yielded]; done))
    · intro w' hS
      obtain ⟨s0, s1, s2, s3⟩ := hS
      skip
      go_simp
      try rfl
    intro K hK
    go_simp
    refine hK _ ?_
    clear hK K
    refine wpT_skipT rfl (by first | rfl | (simp [Region.wanted, yielded]; done)) ?_
    intro K hK
    go_simp
    refine hK _ ?_
    clear hK K
    refine wpT_skipT rfl (by first | rfl | (simp [Region.wanted, yielded]; done)) ?_
    intro K hK
    go_simp
    refine hK _ ?_
    clear hK K
    refine wpT_skipT rfl (by first | rfl | (simp [Region.wanted, yielded]; done)) ?_
    intro K hK
    go_simp
    refine hK _ ?_
    clear hK K
    apply wpT_takeK rfl _ (by first | rfl | (simp [Region.wanted, yielded]; done))
    · intro w' hS
      obtain ⟨s0, s1, s2, s3⟩ := hS
      skip
      go_simp
      try rfl
    intro K hK
    go_simp
    refine hK _ ?_
    clear hK K
    apply wpT_takeK rfl _ (by first | rfl | (simp [Region.wanted, yielded]; done))
    · intro w' hS
      obtain ⟨s0, s1, s2, s3⟩ := hS
      skip
      go_simp
      try rfl
    intro K hK
    go_simp
    refine hK _ ?_
    clear hK K
    refine wpT_end ?_
    have pa0 := cell_at hcur.p 0 _ rfl; have pa1 := cell_at hcur.p 1 _ rfl; have pb0 := cell_at hcur.q 0 _ rfl; have pb1 := cell_at hcur.q 1 _ rfl; have pc0 := cell_at hcur.t 0 _ rfl; have pc1 := cell_at hcur.t 1 _ rfl; simp only [List.getElem_toArray, List.getElem_cons_zero, List.getElem_cons_succ] at pa0 pa1 pb0 pb1 pc0 pc1
    go_wp2_with fail
    refine (lessA a b _).mono ?_
    rintro e w2 ⟨rfl, hb2⟩
    have hcur := hcur.next hb2
    clear hb2 pa0 pa1 pb0 pb1 pc0 pc1
    rw [HAB.out]
    have pa0 := cell_at hcur.p 0 _ rfl; have pa1 := cell_at hcur.p 1 _ rfl; have pb0 := cell_at hcur.q 0 _ rfl; have pb1 := cell_at hcur.q 1 _ rfl; have pc0 := cell_at hcur.t 0 _ rfl; have pc1 := cell_at hcur.t 1 _ rfl; simp only [List.getElem_toArray, List.getElem_cons_zero, List.getElem_cons_succ] at pa0 pa1 pb0 pb1 pc0 pc1
    clear pa0 pa1 pb0 pb1 pc0 pc1
    have hcur := hcur.drew
    go_upto_region 6 with fail
    refine wp_region_tree (fun w' => (w'.cell? ⟨P, 0, none⟩ = some (.int .u8 a.k)) ∧ (w'.cell? ⟨P, 1, none⟩ = some (.string a.n)) ∧ (w'.cell? ⟨Q, 0, none⟩ = some (.int .u8 b.k)) ∧ (w'.cell? ⟨Q, 1, none⟩ = some (.string b.n))) (.a 0 (.t 1 (.t 2 (.t 3 (.t 10 (.t 11 (.t 12 (.a 4 (.t 5 (.t 6 (.t 7 (.a 8 (.t 9 (.t 13 (.t 14 (.t 15 .nil)))))))))))))))) (by kernel_rfl) (by kernel_rfl) (by kernel_rfl) ?_ ?_
    · exact hcur.keep
    refine wpT_alone rfl ?_
    focus (go_wp2_with fail; refine (live_any _).mono ?_; rintro e w2 ⟨rfl, hb2⟩; have hcur := hcur.next hb2; clear hb2; go_wp2)
    refine QS_normal hcur.keep (fun _ => ?_)
    apply wpT_takeK rfl _ (by first | rfl | (simp [Region.wanted, yielded]; done))
    · intro w' hS
      obtain ⟨s0, s1, s2, s3⟩ := hS
      skip
      go_simp
      try rfl
    intro K hK
    go_simp
    refine hK _ ?_
    clear hK K
    apply wpT_takeK rfl _ (by first | rfl | (simp [Region.wanted, yielded]; done))
    · intro w' hS
      obtain ⟨s0, s1, s2, s3⟩ := hS
      skip
      go_simp
      try rfl
    intro K hK
    go_simp
    refine hK _ ?_
    clear hK K
    apply wpT_takeK rfl _ (by first | rfl | (simp [Region.wanted, yielded]; done))
    · intro w' hS
      obtain ⟨s0, s1, s2, s3⟩ := hS
      skip
      go_simp
      try rfl
    intro K hK
    go_simp
    refine hK _ ?_
    clear hK K
    apply wpT_takeK rfl _ (by first | rfl | (simp [Region.wanted, yielded]; done))
    · intro w' hS
      obtain ⟨s0, s1, s2, s3⟩ := hS
      skip
      go_simp
      try rfl
    intro K hK
    go_simp
    refine hK _ ?_
    clear hK K
    apply wpT_takeK rfl _ (by first | rfl | (simp [Region.wanted, yielded]; done))
    · intro w' hS
      obtain ⟨s0, s1, s2, s3⟩ := hS
      skip
      go_simp
      try rfl
    intro K hK
    go_simp
    refine hK _ ?_
    clear hK K
    apply wpT_takeK rfl _ (by first | rfl | (simp [Region.wanted, yielded]; done))
    · intro w' hS
      obtain ⟨s0, s1, s2, s3⟩ := hS
      skip
      go_simp
      try rfl
    intro K hK
    go_simp
    refine hK _ ?_
    clear hK K
    refine wpT_alone rfl ?_
    focus (go_wp2_with fail; refine (lessA a b _).mono ?_; rintro e w2 ⟨rfl, hb2⟩; have hcur := hcur.next hb2; clear hb2; rw [HAB.out]; go_wp2)
    refine QS_normal hcur.keep (fun _ => ?_)
    apply wpT_takeK rfl _ (by first | rfl | (simp [Region.wanted, yielded]; done))
    · intro w' hS
      obtain ⟨s0, s1, s2, s3⟩ := hS
      skip
      go_simp
      try rfl
    intro K hK
    go_simp
    refine hK _ ?_
    clear hK K
    apply wpT_takeK rfl _ (by first | rfl | (simp [Region.wanted, yielded]; done))
    · intro w' hS
      obtain ⟨s0, s1, s2, s3⟩ := hS
      skip
      go_simp
      try rfl
    intro K hK
    go_simp
    refine hK _ ?_
    clear hK K
    apply wpT_takeK rfl _ (by first | rfl | (simp [Region.wanted, yielded]; done))
    · intro w' hS
      obtain ⟨s0, s1, s2, s3⟩ := hS
      skip
      go_simp
      try rfl
    intro K hK
    go_simp
    refine hK _ ?_
    clear hK K
    refine wpT_alone rfl ?_
    focus (go_wp2_with fail; refine (lessA b a _).mono ?_; rintro e w2 ⟨rfl, hb2⟩; have hcur := hcur.next hb2; clear hb2; rw [HBA.out]; go_wp2)
    refine QS_normal hcur.keep (fun _ => ?_)
    apply wpT_takeK rfl _ (by first | rfl | (simp [Region.wanted, yielded]; done))
    · intro w' hS
      obtain ⟨s0, s1, s2, s3⟩ := hS
      skip
      go_simp
      try rfl
    intro K hK
    go_simp
    refine hK _ ?_
    clear hK K
    apply wpT_takeK rfl _ (by first | rfl | (simp [Region.wanted, yielded]; done))
    · intro w' hS
      obtain ⟨s0, s1, s2, s3⟩ := hS
      skip
      go_simp
      try rfl
    intro K hK
    go_simp
    refine hK _ ?_
    clear hK K
    apply wpT_takeK rfl _ (by first | rfl | (simp [Region.wanted, yielded]; done))
    · intro w' hS
      obtain ⟨s0, s1, s2, s3⟩ := hS
      skip
      go_simp
      try rfl
    intro K hK
    go_simp
    refine hK _ ?_
    clear hK K
    apply wpT_takeK rfl _ (by first | rfl | (simp [Region.wanted, yielded]; done))
    · intro w' hS
      obtain ⟨s0, s1, s2, s3⟩ := hS
      skip
      go_simp
      try rfl
    intro K hK
    go_simp
    refine hK _ ?_
    clear hK K
    refine wpT_end ?_
    go_wp2
    go_ret
    exact ⟨ret_bool (by simp), hcur.b⟩
end objectLess

end Go.Proofs.Ytmhnccbjnlmjpaa
