/- Layer 3 (object): the document's answer on what is right. -/
import Derived.Test.YtgplolfkfhhddaaO25
import Derived.Deep.Cut
import Derived.Deep.CutRange
namespace Go.Proofs.Ytgplolfkfhhddaa
open Go.RowKit
set_option linter.unusedVariables false
set_option linter.unusedSimpArgs false
open Go.ChangeShapes Go.WideShapes Go.ChangeAt

set_option maxRecDepth 100000 in
set_option maxHeartbeats 8000000 in
theorem rightR_bad1 (o : Obj) (w : World) (hf : o.Fits) (hn : nameB o.name = false) : Calls Try.prog 12 #[.agg (cellsO o)] w fun e w' => e = .returned (.bool false) ∧ Below w.heap.size w w' := by
  have HF := Lib.hid hf
  have z1 : o.cls.size ≤ maxLen := hf.texts _ (by simp [textsO])
  have z2 : o.zone.size ≤ maxLen := hf.texts _ (by simp [textsO])
  have z3 : o.node.size ≤ maxLen := hf.texts _ (by simp [textsO])
  have z4 : o.claim.size ≤ maxLen := hf.texts _ (by simp [textsO])
  have z5 : o.volume.size ≤ maxLen := hf.texts _ (by simp [textsO])
  have z6 : o.source.size ≤ maxLen := hf.texts _ (by simp [textsO])
  clear hf
  have HN := Lib.hid hn
  clear hn  
  have hS0 : ∀ k, (w.alloc (.cells (cellsO o) 27)).cell? ⟨w.heap.size, k, none⟩ = (cellsO o)[k]? := cells_all heap_alloc_eq
  have HX := Lib.hid (show BoxO w (w.alloc (.cells (cellsO o) 27)) o from ⟨hS0, by simp, (Below.refl w.heap.size w).alloc (Nat.le_refl _) _⟩)
  go_enter Try.func12, Try.ntmps12
  go_upto_region 1 with fail
  generalize w.alloc (.cells (cellsO o) 27) = W at *
  go_cut [3] from 9 (fun s3 w' => s3 = .bool (namesB (textsO o)) ∧ w' = W)
  case first =>
    go_wp2_with fail
    refine (maybe_any o.cls _ z1).mono ?_
    rintro e w' ⟨rfl, rfl⟩
    cases h1 : (decide (o.cls.size = 0) || nameB o.cls)
    · go_wp2
      go_meet
      case rel => exact ⟨by simp only [namesB, textsO, List.all_cons, List.all_nil, Bool.false_and, Bool.and_false, Bool.true_and, Bool.and_true, h1], rfl⟩
    go_wp2_with fail
    refine (maybe_any o.zone _ z2).mono ?_
    rintro e w' ⟨rfl, rfl⟩
    cases h2 : (decide (o.zone.size = 0) || nameB o.zone)
    · go_wp2
      go_meet
      case rel => exact ⟨by simp only [namesB, textsO, List.all_cons, List.all_nil, Bool.false_and, Bool.and_false, Bool.true_and, Bool.and_true, h1, h2], rfl⟩
    go_wp2_with fail
    refine (maybe_any o.node _ z3).mono ?_
    rintro e w' ⟨rfl, rfl⟩
    cases h3 : (decide (o.node.size = 0) || nameB o.node)
    · go_wp2
      go_meet
      case rel => exact ⟨by simp only [namesB, textsO, List.all_cons, List.all_nil, Bool.false_and, Bool.and_false, Bool.true_and, Bool.and_true, h1, h2, h3], rfl⟩
    go_wp2_with fail
    refine (maybe_any o.claim _ z4).mono ?_
    rintro e w' ⟨rfl, rfl⟩
    cases h4 : (decide (o.claim.size = 0) || nameB o.claim)
    · go_wp2
      go_meet
      case rel => exact ⟨by simp only [namesB, textsO, List.all_cons, List.all_nil, Bool.false_and, Bool.and_false, Bool.true_and, Bool.and_true, h1, h2, h3, h4], rfl⟩
    go_wp2_with fail
    refine (maybe_any o.volume _ z5).mono ?_
    rintro e w' ⟨rfl, rfl⟩
    cases h5 : (decide (o.volume.size = 0) || nameB o.volume)
    · go_wp2
      go_meet
      case rel => exact ⟨by simp only [namesB, textsO, List.all_cons, List.all_nil, Bool.false_and, Bool.and_false, Bool.true_and, Bool.and_true, h1, h2, h3, h4, h5], rfl⟩
    go_wp2_with fail
    refine (maybe_any o.source _ z6).mono ?_
    rintro e w' ⟨rfl, rfl⟩
    cases h6 : (decide (o.source.size = 0) || nameB o.source)
    · go_wp2
      go_meet
      case rel => exact ⟨by simp only [namesB, textsO, List.all_cons, List.all_nil, Bool.false_and, Bool.and_false, Bool.true_and, Bool.and_true, h1, h2, h3, h4, h5, h6], rfl⟩
    go_wp2
    go_meet
    case rel => exact ⟨by simp only [namesB, textsO, List.all_cons, List.all_nil, Bool.false_and, Bool.and_false, Bool.true_and, Bool.and_true, h1, h2, h3, h4, h5, h6], rfl⟩
  case rest =>
    obtain ⟨rfl, rfl⟩ := hcut
    obtain ⟨T, hT⟩ : ∃ T, namesB (textsO o) = T := ⟨_, rfl⟩
    rw [hT]
    clear hT
    clear z1 z2 z4 z6
    have hS0 := HX.out.c
    have HX := Lib.hid (HX.out.next (Below.refl _ _).drew)
    go_upto_region 2 with fail
    have hcur := HX.out
    refine wp_region_tree (fun w' => (∀ i, w'.cell? ⟨w.heap.size, i, none⟩ = (cellsO o)[i]?)) (.t 0 (.t 1 (.a 2 (.t 3 (.t 4 (.t 5 (.t 6 (.t 7 (.t 8 (.t 9 (.t 10 (.t 11 (.t 12 (.t 13 (.t 14 (.t 15 (.t 16 (.t 17 (.t 18 (.t 19 (.t 20 (.t 21 (.t 22 (.t 23 (.t 24 (.t 25 (.t 26 (.t 27 (.t 28 (.t 29 (.t 30 (.t 31 (.t 32 (.t 33 .nil)))))))))))))))))))))))))))))))))) (by kernel_rfl) (by kernel_rfl) (by kernel_rfl) ?_ ?_
    · exact (by exact hcur.c)
    apply wpT_takeK rfl _ (by first | rfl | (simp [Region.wanted, yielded]; done))
    · intro w' hS
      have s0 := hS
      clear hS
      go_simp
      try rfl
    intro K hK
    go_simp
    refine hK _ ?_
    clear hK K
    apply wpT_takeK rfl _ (by first | rfl | (simp [Region.wanted, yielded]; done))
    · intro w' hS
      have s0 := hS
      clear hS
      go_simp
      try rfl
    intro K hK
    go_simp
    refine hK _ ?_
    clear hK K
    refine wpT_alone rfl ?_
    focus (go_wp2_with fail; refine (nameR_any o.name _ HF.out.name).mono ?_; rintro e w2 ⟨rfl, rfl⟩; rw [HN.out]; go_wp2)
    refine QS_normal (by exact hcur.c) (fun _ => ?_)
    apply wpT_takeK rfl _ (by first | rfl | (simp [Region.wanted, yielded]; done))
    · intro w' hS
      have s0 := hS
      clear hS
      go_simp
      try rfl
    intro K hK
    go_simp
    refine hK _ ?_
    clear hK K
    apply wpT_takeK rfl _ (by first | rfl | (simp [Region.wanted, yielded]; done))
    · intro w' hS
      have s0 := hS
      clear hS
      go_simp
      try rfl
    intro K hK
    go_simp
    refine hK _ ?_
    clear hK K
    refine wpT_skipT rfl (by first | rfl | (simp [Region.wanted, yielded]; done)) ?_
    intro K hK
    go_simp
    refine hK _ ?_
    clear hK K
    refine wpT_skipT rfl (by first | rfl | (simp [Region.wanted, yielded]; done)) ?_
    intro K hK
    go_simp
    refine hK _ ?_
    clear hK K
    refine wpT_skipT rfl (by first | rfl | (simp [Region.wanted, yielded]; done)) ?_
    intro K hK
    go_simp
    refine hK _ ?_
    clear hK K
    refine wpT_skipT rfl (by first | rfl | (simp [Region.wanted, yielded]; done)) ?_
    intro K hK
    go_simp
    refine hK _ ?_
    clear hK K
    apply wpT_takeK rfl _ (by first | rfl | (simp [Region.wanted, yielded]; done))
    · intro w' hS
      have s0 := hS
      clear hS
      go_simp
      try rfl
    intro K hK
    go_simp
    refine hK _ ?_
    clear hK K
    apply wpT_takeK rfl _ (by first | rfl | (simp [Region.wanted, yielded]; done))
    · intro w' hS
      have s0 := hS
      clear hS
      go_simp
      try rfl
    intro K hK
    go_simp
    refine hK _ ?_
    clear hK K
    refine wpT_skipT rfl (by first | rfl | (simp [Region.wanted, yielded]; done)) ?_
    intro K hK
    go_simp
    refine hK _ ?_
    clear hK K
    refine wpT_skipT rfl (by first | rfl | (simp [Region.wanted, yielded]; done)) ?_
    intro K hK
    go_simp
    refine hK _ ?_
    clear hK K
    apply wpT_takeK rfl _ (by first | rfl | (simp [Region.wanted, yielded]; done))
    · intro w' hS
      have s0 := hS
      clear hS
      go_simp
      try rfl
    intro K hK
    go_simp
    refine hK _ ?_
    clear hK K
    apply wpT_takeK rfl _ (by first | rfl | (simp [Region.wanted, yielded]; done))
    · intro w' hS
      have s0 := hS
      clear hS
      go_simp
      try rfl
    intro K hK
    go_simp
    refine hK _ ?_
    clear hK K
    refine wpT_skipT rfl (by first | rfl | (simp [Region.wanted, yielded]; done)) ?_
    intro K hK
    go_simp
    refine hK _ ?_
    clear hK K
    refine wpT_skipT rfl (by first | rfl | (simp [Region.wanted, yielded]; done)) ?_
    intro K hK
    go_simp
    refine hK _ ?_
    clear hK K
    refine wpT_skipT rfl (by first | rfl | (simp [Region.wanted, yielded]; done)) ?_
    intro K hK
    go_simp
    refine hK _ ?_
    clear hK K
    apply wpT_takeK rfl _ (by first | rfl | (simp [Region.wanted, yielded]; done))
    · intro w' hS
      have s0 := hS
      clear hS
      go_simp
      try rfl
    intro K hK
    go_simp
    refine hK _ ?_
    clear hK K
    apply wpT_takeK rfl _ (by first | rfl | (simp [Region.wanted, yielded]; done))
    · intro w' hS
      have s0 := hS
      clear hS
      go_simp
      try rfl
    intro K hK
    go_simp
    refine hK _ ?_
    clear hK K
    refine wpT_skipT rfl (by first | rfl | (simp [Region.wanted, yielded]; done)) ?_
    intro K hK
    go_simp
    refine hK _ ?_
    clear hK K
    refine wpT_skipT rfl (by first | rfl | (simp [Region.wanted, yielded]; done)) ?_
    intro K hK
    go_simp
    refine hK _ ?_
    clear hK K
    refine wpT_skipT rfl (by first | rfl | (simp [Region.wanted, yielded]; done)) ?_
    intro K hK
    go_simp
    refine hK _ ?_
    clear hK K
    apply wpT_takeK rfl _ (by first | rfl | (simp [Region.wanted, yielded]; done))
    · intro w' hS
      have s0 := hS
      clear hS
      go_simp
      try rfl
    intro K hK
    go_simp
    refine hK _ ?_
    clear hK K
    apply wpT_takeK rfl _ (by first | rfl | (simp [Region.wanted, yielded]; done))
    · intro w' hS
      have s0 := hS
      clear hS
      go_simp
      try rfl
    intro K hK
    go_simp
    refine hK _ ?_
    clear hK K
    refine wpT_skipT rfl (by first | rfl | (simp [Region.wanted, yielded]; done)) ?_
    intro K hK
    go_simp
    refine hK _ ?_
    clear hK K
    refine wpT_skipT rfl (by first | rfl | (simp [Region.wanted, yielded]; done)) ?_
    intro K hK
    go_simp
    refine hK _ ?_
    clear hK K
    refine wpT_skipT rfl (by first | rfl | (simp [Region.wanted, yielded]; done)) ?_
    intro K hK
    go_simp
    refine hK _ ?_
    clear hK K
    apply wpT_takeK rfl _ (by first | rfl | (simp [Region.wanted, yielded]; done))
    · intro w' hS
      have s0 := hS
      clear hS
      go_simp
      try rfl
    intro K hK
    go_simp
    refine hK _ ?_
    clear hK K
    apply wpT_takeK rfl _ (by first | rfl | (simp [Region.wanted, yielded]; done))
    · intro w' hS
      have s0 := hS
      clear hS
      go_simp
      try rfl
    intro K hK
    go_simp
    refine hK _ ?_
    clear hK K
    refine wpT_skipT rfl (by first | rfl | (simp [Region.wanted, yielded]; done)) ?_
    intro K hK
    go_simp
    refine hK _ ?_
    clear hK K
    refine wpT_skipT rfl (by first | rfl | (simp [Region.wanted, yielded]; done)) ?_
    intro K hK
    go_simp
    refine hK _ ?_
    clear hK K
    refine wpT_skipT rfl (by first | rfl | (simp [Region.wanted, yielded]; done)) ?_
    intro K hK
    go_simp
    refine hK _ ?_
    clear hK K
    apply wpT_takeK rfl _ (by first | rfl | (simp [Region.wanted, yielded]; done))
    · intro w' hS
      have s0 := hS
      clear hS
      go_simp
      try rfl
    intro K hK
    go_simp
    refine hK _ ?_
    clear hK K
    refine wpT_end ?_
    go_wp2
    go_ret
    exact ⟨rfl, hcur.b⟩

set_option maxRecDepth 100000 in
set_option maxHeartbeats 8000000 in
theorem rightR_bad2 (o : Obj) (w : World) (hf : o.Fits) (hn : nameB o.name = true) (hE : decide (o = bareR o) = false) : Calls Try.prog 12 #[.agg (cellsO o)] w fun e w' => e = .returned (.bool false) ∧ Below w.heap.size w w' := by
  have HF := Lib.hid hf
  have z1 : o.cls.size ≤ maxLen := hf.texts _ (by simp [textsO])
  have z2 : o.zone.size ≤ maxLen := hf.texts _ (by simp [textsO])
  have z3 : o.node.size ≤ maxLen := hf.texts _ (by simp [textsO])
  have z4 : o.claim.size ≤ maxLen := hf.texts _ (by simp [textsO])
  have z5 : o.volume.size ≤ maxLen := hf.texts _ (by simp [textsO])
  have z6 : o.source.size ≤ maxLen := hf.texts _ (by simp [textsO])
  clear hf
  have HN := Lib.hid hn
  have HE := Lib.hid hE.symm
  clear hn hE 
  have hS0 : ∀ k, (w.alloc (.cells (cellsO o) 27)).cell? ⟨w.heap.size, k, none⟩ = (cellsO o)[k]? := cells_all heap_alloc_eq
  have HX := Lib.hid (show BoxO w (w.alloc (.cells (cellsO o) 27)) o from ⟨hS0, by simp, (Below.refl w.heap.size w).alloc (Nat.le_refl _) _⟩)
  go_enter Try.func12, Try.ntmps12
  go_upto_region 1 with fail
  generalize w.alloc (.cells (cellsO o) 27) = W at *
  go_cut [3] from 9 (fun s3 w' => s3 = .bool (namesB (textsO o)) ∧ w' = W)
  case first =>
    go_wp2_with fail
    refine (maybe_any o.cls _ z1).mono ?_
    rintro e w' ⟨rfl, rfl⟩
    cases h1 : (decide (o.cls.size = 0) || nameB o.cls)
    · go_wp2
      go_meet
      case rel => exact ⟨by simp only [namesB, textsO, List.all_cons, List.all_nil, Bool.false_and, Bool.and_false, Bool.true_and, Bool.and_true, h1], rfl⟩
    go_wp2_with fail
    refine (maybe_any o.zone _ z2).mono ?_
    rintro e w' ⟨rfl, rfl⟩
    cases h2 : (decide (o.zone.size = 0) || nameB o.zone)
    · go_wp2
      go_meet
      case rel => exact ⟨by simp only [namesB, textsO, List.all_cons, List.all_nil, Bool.false_and, Bool.and_false, Bool.true_and, Bool.and_true, h1, h2], rfl⟩
    go_wp2_with fail
    refine (maybe_any o.node _ z3).mono ?_
    rintro e w' ⟨rfl, rfl⟩
    cases h3 : (decide (o.node.size = 0) || nameB o.node)
    · go_wp2
      go_meet
      case rel => exact ⟨by simp only [namesB, textsO, List.all_cons, List.all_nil, Bool.false_and, Bool.and_false, Bool.true_and, Bool.and_true, h1, h2, h3], rfl⟩
    go_wp2_with fail
    refine (maybe_any o.claim _ z4).mono ?_
    rintro e w' ⟨rfl, rfl⟩
    cases h4 : (decide (o.claim.size = 0) || nameB o.claim)
    · go_wp2
      go_meet
      case rel => exact ⟨by simp only [namesB, textsO, List.all_cons, List.all_nil, Bool.false_and, Bool.and_false, Bool.true_and, Bool.and_true, h1, h2, h3, h4], rfl⟩
    go_wp2_with fail
    refine (maybe_any o.volume _ z5).mono ?_
    rintro e w' ⟨rfl, rfl⟩
    cases h5 : (decide (o.volume.size = 0) || nameB o.volume)
    · go_wp2
      go_meet
      case rel => exact ⟨by simp only [namesB, textsO, List.all_cons, List.all_nil, Bool.false_and, Bool.and_false, Bool.true_and, Bool.and_true, h1, h2, h3, h4, h5], rfl⟩
    go_wp2_with fail
    refine (maybe_any o.source _ z6).mono ?_
    rintro e w' ⟨rfl, rfl⟩
    cases h6 : (decide (o.source.size = 0) || nameB o.source)
    · go_wp2
      go_meet
      case rel => exact ⟨by simp only [namesB, textsO, List.all_cons, List.all_nil, Bool.false_and, Bool.and_false, Bool.true_and, Bool.and_true, h1, h2, h3, h4, h5, h6], rfl⟩
    go_wp2
    go_meet
    case rel => exact ⟨by simp only [namesB, textsO, List.all_cons, List.all_nil, Bool.false_and, Bool.and_false, Bool.true_and, Bool.and_true, h1, h2, h3, h4, h5, h6], rfl⟩
  case rest =>
    obtain ⟨rfl, rfl⟩ := hcut
    obtain ⟨T, hT⟩ : ∃ T, namesB (textsO o) = T := ⟨_, rfl⟩
    rw [hT]
    clear hT
    clear z1 z2 z4 z6
    have hS0 := HX.out.c
    have HX := Lib.hid (HX.out.next (Below.refl _ _).drew)
    go_upto_region 2 with fail
    have hcur := HX.out
    refine wp_region_tree (fun w' => (∀ i, w'.cell? ⟨w.heap.size, i, none⟩ = (cellsO o)[i]?)) (.t 0 (.t 1 (.a 2 (.t 3 (.t 4 (.t 5 (.t 6 (.a 7 (.t 8 (.t 9 (.t 10 (.t 11 (.t 12 (.t 13 (.t 14 (.t 15 (.t 16 (.t 17 (.t 18 (.t 19 (.t 20 (.t 21 (.t 22 (.t 23 (.t 24 (.t 25 (.t 26 (.t 27 (.t 28 (.t 29 (.t 30 (.t 31 (.t 32 (.t 33 .nil)))))))))))))))))))))))))))))))))) (by kernel_rfl) (by kernel_rfl) (by kernel_rfl) ?_ ?_
    · exact (by exact hcur.c)
    apply wpT_takeK rfl _ (by first | rfl | (simp [Region.wanted, yielded]; done))
    · intro w' hS
      have s0 := hS
      clear hS
      go_simp
      try rfl
    intro K hK
    go_simp
    refine hK _ ?_
    clear hK K
    apply wpT_takeK rfl _ (by first | rfl | (simp [Region.wanted, yielded]; done))
    · intro w' hS
      have s0 := hS
      clear hS
      go_simp
      try rfl
    intro K hK
    go_simp
    refine hK _ ?_
    clear hK K
    refine wpT_alone rfl ?_
    focus (go_wp2_with fail; refine (nameR_any o.name _ HF.out.name).mono ?_; rintro e w2 ⟨rfl, rfl⟩; rw [HN.out]; go_wp2)
    refine QS_normal (by exact hcur.c) (fun _ => ?_)
    apply wpT_takeK rfl _ (by first | rfl | (simp [Region.wanted, yielded]; done))
    · intro w' hS
      have s0 := hS
      clear hS
      go_simp
      try rfl
    intro K hK
    go_simp
    refine hK _ ?_
    clear hK K
    apply wpT_takeK rfl _ (by first | rfl | (simp [Region.wanted, yielded]; done))
    · intro w' hS
      have s0 := hS
      clear hS
      go_simp
      try rfl
    intro K hK
    go_simp
    refine hK _ ?_
    clear hK K
    refine wpT_takeK rfl (.agg (cellsO o)) (by first | rfl | (simp [Region.wanted, yielded]; done)) ?_ ?_
    · intro w' hS
      have s0 := hS
      exact exec_loadObj o rfl rfl hS
    intro K hK
    go_simp
    refine hK _ ?_
    clear hK K
    refine wpT_takeK rfl (.agg (cellsO o)) (by first | rfl | (simp [Region.wanted, yielded]; done)) ?_ ?_
    · intro w' hS
      have s0 := hS
      exact exec_loadObj o rfl rfl hS
    intro K hK
    go_simp
    refine hK _ ?_
    clear hK K
    refine wpT_alone rfl ?_
    focus (go_wp2_with fail; refine (bare_any o _).mono ?_; rintro e w2 ⟨rfl, hb2⟩; have hcur := hcur.next hb2; clear hb2; go_wp2)
    refine QS_normal (by exact hcur.c) (fun _ => ?_)
    refine wpT_takeK rfl (.bool true) (by first | rfl | (simp [Region.wanted, yielded]; done)) ?_ ?_
    · intro w' hS
      have s0 := hS
      exact (exec_neqObj o (bareR o) rfl rfl rfl).trans (by rw [← HE.out]; rfl)
    intro K hK
    go_simp
    refine hK _ ?_
    clear hK K
    apply wpT_takeK rfl _ (by first | rfl | (simp [Region.wanted, yielded]; done))
    · intro w' hS
      have s0 := hS
      clear hS
      go_simp
      try rfl
    intro K hK
    go_simp
    refine hK _ ?_
    clear hK K
    apply wpT_takeK rfl _ (by first | rfl | (simp [Region.wanted, yielded]; done))
    · intro w' hS
      have s0 := hS
      clear hS
      go_simp
      try rfl
    intro K hK
    go_simp
    refine hK _ ?_
    clear hK K
    refine wpT_skipT rfl (by first | rfl | (simp [Region.wanted, yielded]; done)) ?_
    intro K hK
    go_simp
    refine hK _ ?_
    clear hK K
    refine wpT_skipT rfl (by first | rfl | (simp [Region.wanted, yielded]; done)) ?_
    intro K hK
    go_simp
    refine hK _ ?_
    clear hK K
    apply wpT_takeK rfl _ (by first | rfl | (simp [Region.wanted, yielded]; done))
    · intro w' hS
      have s0 := hS
      clear hS
      go_simp
      try rfl
    intro K hK
    go_simp
    refine hK _ ?_
    clear hK K
    apply wpT_takeK rfl _ (by first | rfl | (simp [Region.wanted, yielded]; done))
    · intro w' hS
      have s0 := hS
      clear hS
      go_simp
      try rfl
    intro K hK
    go_simp
    refine hK _ ?_
    clear hK K
    refine wpT_skipT rfl (by first | rfl | (simp [Region.wanted, yielded]; done)) ?_
    intro K hK
    go_simp
    refine hK _ ?_
    clear hK K
    refine wpT_skipT rfl (by first | rfl | (simp [Region.wanted, yielded]; done)) ?_
    intro K hK
    go_simp
    refine hK _ ?_
    clear hK K
    refine wpT_skipT rfl (by first | rfl | (simp [Region.wanted, yielded]; done)) ?_
    intro K hK
    go_simp
    refine hK _ ?_
    clear hK K
    apply wpT_takeK rfl _ (by first | rfl | (simp [Region.wanted, yielded]; done))
    · intro w' hS
      have s0 := hS
      clear hS
      go_simp
      try rfl
    intro K hK
    go_simp
    refine hK _ ?_
    clear hK K
    apply wpT_takeK rfl _ (by first | rfl | (simp [Region.wanted, yielded]; done))
    · intro w' hS
      have s0 := hS
      clear hS
      go_simp
      try rfl
    intro K hK
    go_simp
    refine hK _ ?_
    clear hK K
    refine wpT_skipT rfl (by first | rfl | (simp [Region.wanted, yielded]; done)) ?_
    intro K hK
    go_simp
    refine hK _ ?_
    clear hK K
    refine wpT_skipT rfl (by first | rfl | (simp [Region.wanted, yielded]; done)) ?_
    intro K hK
    go_simp
    refine hK _ ?_
    clear hK K
    refine wpT_skipT rfl (by first | rfl | (simp [Region.wanted, yielded]; done)) ?_
    intro K hK
    go_simp
    refine hK _ ?_
    clear hK K
    apply wpT_takeK rfl _ (by first | rfl | (simp [Region.wanted, yielded]; done))
    · intro w' hS
      have s0 := hS
      clear hS
      go_simp
      try rfl
    intro K hK
    go_simp
    refine hK _ ?_
    clear hK K
    apply wpT_takeK rfl _ (by first | rfl | (simp [Region.wanted, yielded]; done))
    · intro w' hS
      have s0 := hS
      clear hS
      go_simp
      try rfl
    intro K hK
    go_simp
    refine hK _ ?_
    clear hK K
    refine wpT_skipT rfl (by first | rfl | (simp [Region.wanted, yielded]; done)) ?_
    intro K hK
    go_simp
    refine hK _ ?_
    clear hK K
    refine wpT_skipT rfl (by first | rfl | (simp [Region.wanted, yielded]; done)) ?_
    intro K hK
    go_simp
    refine hK _ ?_
    clear hK K
    refine wpT_skipT rfl (by first | rfl | (simp [Region.wanted, yielded]; done)) ?_
    intro K hK
    go_simp
    refine hK _ ?_
    clear hK K
    apply wpT_takeK rfl _ (by first | rfl | (simp [Region.wanted, yielded]; done))
    · intro w' hS
      have s0 := hS
      clear hS
      go_simp
      try rfl
    intro K hK
    go_simp
    refine hK _ ?_
    clear hK K
    apply wpT_takeK rfl _ (by first | rfl | (simp [Region.wanted, yielded]; done))
    · intro w' hS
      have s0 := hS
      clear hS
      go_simp
      try rfl
    intro K hK
    go_simp
    refine hK _ ?_
    clear hK K
    refine wpT_skipT rfl (by first | rfl | (simp [Region.wanted, yielded]; done)) ?_
    intro K hK
    go_simp
    refine hK _ ?_
    clear hK K
    refine wpT_skipT rfl (by first | rfl | (simp [Region.wanted, yielded]; done)) ?_
    intro K hK
    go_simp
    refine hK _ ?_
    clear hK K
    refine wpT_skipT rfl (by first | rfl | (simp [Region.wanted, yielded]; done)) ?_
    intro K hK
    go_simp
    refine hK _ ?_
    clear hK K
    apply wpT_takeK rfl _ (by first | rfl | (simp [Region.wanted, yielded]; done))
    · intro w' hS
      have s0 := hS
      clear hS
      go_simp
      try rfl
    intro K hK
    go_simp
    refine hK _ ?_
    clear hK K
    refine wpT_end ?_
    go_wp2
    go_ret
    exact ⟨rfl, hcur.b⟩

set_option maxRecDepth 100000 in
set_option maxHeartbeats 8000000 in
theorem rightR_bad3 (o : Obj) (w : World) (hf : o.Fits) (hn : nameB o.name = true) (hE : decide (o = bareR o) = true) (hT : namesB (textsO o) = false) : Calls Try.prog 12 #[.agg (cellsO o)] w fun e w' => e = .returned (.bool false) ∧ Below w.heap.size w w' := by
  have HF := Lib.hid hf
  have z1 : o.cls.size ≤ maxLen := hf.texts _ (by simp [textsO])
  have z2 : o.zone.size ≤ maxLen := hf.texts _ (by simp [textsO])
  have z3 : o.node.size ≤ maxLen := hf.texts _ (by simp [textsO])
  have z4 : o.claim.size ≤ maxLen := hf.texts _ (by simp [textsO])
  have z5 : o.volume.size ≤ maxLen := hf.texts _ (by simp [textsO])
  have z6 : o.source.size ≤ maxLen := hf.texts _ (by simp [textsO])
  clear hf
  have HN := Lib.hid hn
  have HE := Lib.hid hE.symm
  have HT := Lib.hid hT
  clear hn hE hT
  have hS0 : ∀ k, (w.alloc (.cells (cellsO o) 27)).cell? ⟨w.heap.size, k, none⟩ = (cellsO o)[k]? := cells_all heap_alloc_eq
  have HX := Lib.hid (show BoxO w (w.alloc (.cells (cellsO o) 27)) o from ⟨hS0, by simp, (Below.refl w.heap.size w).alloc (Nat.le_refl _) _⟩)
  go_enter Try.func12, Try.ntmps12
  go_upto_region 1 with fail
  generalize w.alloc (.cells (cellsO o) 27) = W at *
  go_cut [3] from 9 (fun s3 w' => s3 = .bool (namesB (textsO o)) ∧ w' = W)
  case first =>
    go_wp2_with fail
    refine (maybe_any o.cls _ z1).mono ?_
    rintro e w' ⟨rfl, rfl⟩
    cases h1 : (decide (o.cls.size = 0) || nameB o.cls)
    · go_wp2
      go_meet
      case rel => exact ⟨by simp only [namesB, textsO, List.all_cons, List.all_nil, Bool.false_and, Bool.and_false, Bool.true_and, Bool.and_true, h1], rfl⟩
    go_wp2_with fail
    refine (maybe_any o.zone _ z2).mono ?_
    rintro e w' ⟨rfl, rfl⟩
    cases h2 : (decide (o.zone.size = 0) || nameB o.zone)
    · go_wp2
      go_meet
      case rel => exact ⟨by simp only [namesB, textsO, List.all_cons, List.all_nil, Bool.false_and, Bool.and_false, Bool.true_and, Bool.and_true, h1, h2], rfl⟩
    go_wp2_with fail
    refine (maybe_any o.node _ z3).mono ?_
    rintro e w' ⟨rfl, rfl⟩
    cases h3 : (decide (o.node.size = 0) || nameB o.node)
    · go_wp2
      go_meet
      case rel => exact ⟨by simp only [namesB, textsO, List.all_cons, List.all_nil, Bool.false_and, Bool.and_false, Bool.true_and, Bool.and_true, h1, h2, h3], rfl⟩
    go_wp2_with fail
    refine (maybe_any o.claim _ z4).mono ?_
    rintro e w' ⟨rfl, rfl⟩
    cases h4 : (decide (o.claim.size = 0) || nameB o.claim)
    · go_wp2
      go_meet
      case rel => exact ⟨by simp only [namesB, textsO, List.all_cons, List.all_nil, Bool.false_and, Bool.and_false, Bool.true_and, Bool.and_true, h1, h2, h3, h4], rfl⟩
    go_wp2_with fail
    refine (maybe_any o.volume _ z5).mono ?_
    rintro e w' ⟨rfl, rfl⟩
    cases h5 : (decide (o.volume.size = 0) || nameB o.volume)
    · go_wp2
      go_meet
      case rel => exact ⟨by simp only [namesB, textsO, List.all_cons, List.all_nil, Bool.false_and, Bool.and_false, Bool.true_and, Bool.and_true, h1, h2, h3, h4, h5], rfl⟩
    go_wp2_with fail
    refine (maybe_any o.source _ z6).mono ?_
    rintro e w' ⟨rfl, rfl⟩
    cases h6 : (decide (o.source.size = 0) || nameB o.source)
    · go_wp2
      go_meet
      case rel => exact ⟨by simp only [namesB, textsO, List.all_cons, List.all_nil, Bool.false_and, Bool.and_false, Bool.true_and, Bool.and_true, h1, h2, h3, h4, h5, h6], rfl⟩
    go_wp2
    go_meet
    case rel => exact ⟨by simp only [namesB, textsO, List.all_cons, List.all_nil, Bool.false_and, Bool.and_false, Bool.true_and, Bool.and_true, h1, h2, h3, h4, h5, h6], rfl⟩
  case rest =>
    obtain ⟨rfl, rfl⟩ := hcut
    rw [HT.out]
    clear HT
    clear z1 z2 z4 z6
    have hS0 := HX.out.c
    have HX := Lib.hid (HX.out.next (Below.refl _ _).drew)
    go_upto_region 2 with fail
    have hcur := HX.out
    refine wp_region_tree (fun w' => (∀ i, w'.cell? ⟨w.heap.size, i, none⟩ = (cellsO o)[i]?)) (.t 0 (.t 1 (.a 2 (.t 3 (.t 4 (.t 5 (.t 6 (.a 7 (.t 8 (.t 9 (.t 10 (.t 11 (.t 12 (.t 13 (.t 14 (.t 15 (.t 16 (.t 17 (.t 18 (.t 19 (.t 20 (.t 21 (.t 22 (.t 23 (.t 24 (.t 25 (.t 26 (.t 27 (.t 28 (.t 29 (.t 30 (.t 31 (.t 32 (.t 33 .nil)))))))))))))))))))))))))))))))))) (by kernel_rfl) (by kernel_rfl) (by kernel_rfl) ?_ ?_
    · exact (by exact hcur.c)
    apply wpT_takeK rfl _ (by first | rfl | (simp [Region.wanted, yielded]; done))
    · intro w' hS
      have s0 := hS
      clear hS
      go_simp
      try rfl
    intro K hK
    go_simp
    refine hK _ ?_
    clear hK K
    apply wpT_takeK rfl _ (by first | rfl | (simp [Region.wanted, yielded]; done))
    · intro w' hS
      have s0 := hS
      clear hS
      go_simp
      try rfl
    intro K hK
    go_simp
    refine hK _ ?_
    clear hK K
    refine wpT_alone rfl ?_
    focus (go_wp2_with fail; refine (nameR_any o.name _ HF.out.name).mono ?_; rintro e w2 ⟨rfl, rfl⟩; rw [HN.out]; go_wp2)
    refine QS_normal (by exact hcur.c) (fun _ => ?_)
    apply wpT_takeK rfl _ (by first | rfl | (simp [Region.wanted, yielded]; done))
    · intro w' hS
      have s0 := hS
      clear hS
      go_simp
      try rfl
    intro K hK
    go_simp
    refine hK _ ?_
    clear hK K
    apply wpT_takeK rfl _ (by first | rfl | (simp [Region.wanted, yielded]; done))
    · intro w' hS
      have s0 := hS
      clear hS
      go_simp
      try rfl
    intro K hK
    go_simp
    refine hK _ ?_
    clear hK K
    refine wpT_takeK rfl (.agg (cellsO o)) (by first | rfl | (simp [Region.wanted, yielded]; done)) ?_ ?_
    · intro w' hS
      have s0 := hS
      exact exec_loadObj o rfl rfl hS
    intro K hK
    go_simp
    refine hK _ ?_
    clear hK K
    refine wpT_takeK rfl (.agg (cellsO o)) (by first | rfl | (simp [Region.wanted, yielded]; done)) ?_ ?_
    · intro w' hS
      have s0 := hS
      exact exec_loadObj o rfl rfl hS
    intro K hK
    go_simp
    refine hK _ ?_
    clear hK K
    refine wpT_alone rfl ?_
    focus (go_wp2_with fail; refine (bare_any o _).mono ?_; rintro e w2 ⟨rfl, hb2⟩; have hcur := hcur.next hb2; clear hb2; go_wp2)
    refine QS_normal (by exact hcur.c) (fun _ => ?_)
    refine wpT_takeK rfl (.bool false) (by first | rfl | (simp [Region.wanted, yielded]; done)) ?_ ?_
    · intro w' hS
      have s0 := hS
      exact (exec_neqObj o (bareR o) rfl rfl rfl).trans (by rw [← HE.out]; rfl)
    intro K hK
    go_simp
    refine hK _ ?_
    clear hK K
    apply wpT_takeK rfl _ (by first | rfl | (simp [Region.wanted, yielded]; done))
    · intro w' hS
      have s0 := hS
      clear hS
      go_simp
      try rfl
    intro K hK
    go_simp
    refine hK _ ?_
    clear hK K
    apply wpT_takeK rfl _ (by first | rfl | (simp [Region.wanted, yielded]; done))
    · intro w' hS
      have s0 := hS
      clear hS
      go_simp
      try rfl
    intro K hK
    go_simp
    refine hK _ ?_
    clear hK K
    apply wpT_takeK rfl _ (by first | rfl | (simp [Region.wanted, yielded]; done))
    · intro w' hS
      have s0 := hS
      clear hS
      go_simp
      try rfl
    intro K hK
    go_simp
    refine hK _ ?_
    clear hK K
    apply wpT_takeK rfl _ (by first | rfl | (simp [Region.wanted, yielded]; done))
    · intro w' hS
      have s0 := hS
      clear hS
      go_simp
      try rfl
    intro K hK
    go_simp
    refine hK _ ?_
    clear hK K
    apply wpT_takeK rfl _ (by first | rfl | (simp [Region.wanted, yielded]; done))
    · intro w' hS
      have s0 := hS
      clear hS
      go_simp
      try rfl
    intro K hK
    go_simp
    refine hK _ ?_
    clear hK K
    apply wpT_takeK rfl _ (by first | rfl | (simp [Region.wanted, yielded]; done))
    · intro w' hS
      have s0 := hS
      clear hS
      go_simp
      try rfl
    intro K hK
    go_simp
    refine hK _ ?_
    clear hK K
    refine wpT_skipT rfl (by first | rfl | (simp [Region.wanted, yielded]; done)) ?_
    intro K hK
    go_simp
    refine hK _ ?_
    clear hK K
    refine wpT_skipT rfl (by first | rfl | (simp [Region.wanted, yielded]; done)) ?_
    intro K hK
    go_simp
    refine hK _ ?_
    clear hK K
    refine wpT_skipT rfl (by first | rfl | (simp [Region.wanted, yielded]; done)) ?_
    intro K hK
    go_simp
    refine hK _ ?_
    clear hK K
    apply wpT_takeK rfl _ (by first | rfl | (simp [Region.wanted, yielded]; done))
    · intro w' hS
      have s0 := hS
      clear hS
      go_simp
      try rfl
    intro K hK
    go_simp
    refine hK _ ?_
    clear hK K
    apply wpT_takeK rfl _ (by first | rfl | (simp [Region.wanted, yielded]; done))
    · intro w' hS
      have s0 := hS
      clear hS
      go_simp
      try rfl
    intro K hK
    go_simp
    refine hK _ ?_
    clear hK K
    refine wpT_skipT rfl (by first | rfl | (simp [Region.wanted, yielded]; done)) ?_
    intro K hK
    go_simp
    refine hK _ ?_
    clear hK K
    refine wpT_skipT rfl (by first | rfl | (simp [Region.wanted, yielded]; done)) ?_
    intro K hK
    go_simp
    refine hK _ ?_
    clear hK K
    refine wpT_skipT rfl (by first | rfl | (simp [Region.wanted, yielded]; done)) ?_
    intro K hK
    go_simp
    refine hK _ ?_
    clear hK K
    apply wpT_takeK rfl _ (by first | rfl | (simp [Region.wanted, yielded]; done))
    · intro w' hS
      have s0 := hS
      clear hS
      go_simp
      try rfl
    intro K hK
    go_simp
    refine hK _ ?_
    clear hK K
    apply wpT_takeK rfl _ (by first | rfl | (simp [Region.wanted, yielded]; done))
    · intro w' hS
      have s0 := hS
      clear hS
      go_simp
      try rfl
    intro K hK
    go_simp
    refine hK _ ?_
    clear hK K
    refine wpT_skipT rfl (by first | rfl | (simp [Region.wanted, yielded]; done)) ?_
    intro K hK
    go_simp
    refine hK _ ?_
    clear hK K
    refine wpT_skipT rfl (by first | rfl | (simp [Region.wanted, yielded]; done)) ?_
    intro K hK
    go_simp
    refine hK _ ?_
    clear hK K
    refine wpT_skipT rfl (by first | rfl | (simp [Region.wanted, yielded]; done)) ?_
    intro K hK
    go_simp
    refine hK _ ?_
    clear hK K
    apply wpT_takeK rfl _ (by first | rfl | (simp [Region.wanted, yielded]; done))
    · intro w' hS
      have s0 := hS
      clear hS
      go_simp
      try rfl
    intro K hK
    go_simp
    refine hK _ ?_
    clear hK K
    apply wpT_takeK rfl _ (by first | rfl | (simp [Region.wanted, yielded]; done))
    · intro w' hS
      have s0 := hS
      clear hS
      go_simp
      try rfl
    intro K hK
    go_simp
    refine hK _ ?_
    clear hK K
    refine wpT_skipT rfl (by first | rfl | (simp [Region.wanted, yielded]; done)) ?_
    intro K hK
    go_simp
    refine hK _ ?_
    clear hK K
    refine wpT_skipT rfl (by first | rfl | (simp [Region.wanted, yielded]; done)) ?_
    intro K hK
    go_simp
    refine hK _ ?_
    clear hK K
    refine wpT_skipT rfl (by first | rfl | (simp [Region.wanted, yielded]; done)) ?_
    intro K hK
    go_simp
    refine hK _ ?_
    clear hK K
    apply wpT_takeK rfl _ (by first | rfl | (simp [Region.wanted, yielded]; done))
    · intro w' hS
      have s0 := hS
      clear hS
      go_simp
      try rfl
    intro K hK
    go_simp
    refine hK _ ?_
    clear hK K
    refine wpT_end ?_
    go_wp2
    go_ret
    exact ⟨rfl, hcur.b⟩

end Go.Proofs.Ytgplolfkfhhddaa
