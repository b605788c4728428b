/- Layer 3 (object): the document's answer on what is right. -/
import Derived.Test.YtgplolfkfhhddaaO25
import Derived.Deep.Cut
import Derived.Deep.CutRange
namespace Go.Proofs.Ytgplolfkfhhddaa
open Go.RowKit
set_option linter.unusedVariables false
set_option linter.unusedSimpArgs false
open Go.ChangeShapes Go.WideShapes Go.ChangeAt

set_option maxRecDepth 100000 in
set_option maxHeartbeats 8000000 in
theorem rightR_4 (o : Obj) (w : World) (hf : o.Fits) (hk : o.kind = 4) (hform : formB o = true) : Calls Try.prog 12 #[.agg (cellsO o)] w fun e w' => e = .returned (.bool (rightB o)) ∧ Below w.heap.size w w' := by
  have HF := Lib.hid hf
  have z1 : o.cls.size ≤ maxLen := hf.texts _ (by simp [textsO])
  have z2 : o.zone.size ≤ maxLen := hf.texts _ (by simp [textsO])
  have z3 : o.node.size ≤ maxLen := hf.texts _ (by simp [textsO])
  have z4 : o.claim.size ≤ maxLen := hf.texts _ (by simp [textsO])
  have z5 : o.volume.size ≤ maxLen := hf.texts _ (by simp [textsO])
  have z6 : o.source.size ≤ maxLen := hf.texts _ (by simp [textsO])
  clear hf
  have HR := Lib.hid (show rightB o = kindB o by unfold rightB; rw [hform]; rfl)
  have hE := @rightB_form o
  rw [hform] at hE
  have hall := hE.symm
  simp only [Bool.and_eq_true, decide_eq_true_eq] at hall
  obtain ⟨⟨⟨⟨hn, hbr⟩, hnames⟩, hs1, hs2⟩, hg1, hg2⟩ := hall
  have HE := Lib.hid (show true = decide (o = bareR o) from (decide_eq_true hbr).symm)
  have HN := Lib.hid hn
  have HNM := Lib.hid (names_le hnames)
  have HSG := Lib.hid (show 0 ≤ o.size ∧ 0 ≤ o.got from ⟨hs1, hg1⟩)
  have hl := List.all_eq_true.1 hnames
  have N1 := Lib.hid (hl o.cls (by simp [textsO]))
  have N2 := Lib.hid (hl o.zone (by simp [textsO]))
  have N3 := Lib.hid (hl o.node (by simp [textsO]))
  have N4 := Lib.hid (hl o.claim (by simp [textsO]))
  have N5 := Lib.hid (hl o.volume (by simp [textsO]))
  have N6 := Lib.hid (hl o.source (by simp [textsO]))
  clear hE hn hbr hnames hl hform
  have j1 : (o.kind == 1) = false := by rw [hk]; rfl
  have j2 : (o.kind == 2) = false := by rw [hk]; rfl
  have j3 : (o.kind == 3) = false := by rw [hk]; rfl
  have j4 : (o.kind == 4) = true := by rw [hk]; rfl
  have hS0 : ∀ k, (w.alloc (.cells (cellsO o) 27)).cell? ⟨w.heap.size, k, none⟩ = (cellsO o)[k]? := cells_all heap_alloc_eq
  have HX := Lib.hid (show BoxO w (w.alloc (.cells (cellsO o) 27)) o from ⟨hS0, by simp, (Below.refl w.heap.size w).alloc (Nat.le_refl _) _⟩)
  go_enter Try.func12, Try.ntmps12
  go_upto_region 1 with fail
  generalize w.alloc (.cells (cellsO o) 27) = W at *
  go_wp2_with fail
  refine (maybe_any o.cls _ z1).mono ?_
  rw [N1.out]
  rintro e w' ⟨rfl, rfl⟩
  go_wp2_with fail
  refine (maybe_any o.zone _ z2).mono ?_
  rw [N2.out]
  rintro e w' ⟨rfl, rfl⟩
  go_wp2_with fail
  refine (maybe_any o.node _ z3).mono ?_
  rw [N3.out]
  rintro e w' ⟨rfl, rfl⟩
  go_wp2_with fail
  refine (maybe_any o.claim _ z4).mono ?_
  rw [N4.out]
  rintro e w' ⟨rfl, rfl⟩
  go_wp2_with fail
  refine (maybe_any o.volume _ z5).mono ?_
  rw [N5.out]
  rintro e w' ⟨rfl, rfl⟩
  go_wp2_with fail
  refine (maybe_any o.source _ z6).mono ?_
  rw [N6.out]
  rintro e w' ⟨rfl, rfl⟩
  clear z1 z2 z4 z6
  have hS0 := HX.out.c
  have HX := Lib.hid (HX.out.next (Below.refl _ _).drew)
  have c4 := hs1
  have c5 := hs2
  have c6 := hg1
  have c7 := hg2
  clear hs1 hs2 hg1 hg2
  go_upto_region 2 with fail
  have hcur := HX.out
  refine wp_region_tree (fun w' => (∀ i, w'.cell? ⟨w.heap.size, i, none⟩ = (cellsO o)[i]?)) (.t 0 (.t 1 (.a 2 (.t 3 (.t 4 (.t 5 (.t 6 (.a 7 (.t 8 (.t 9 (.t 10 (.t 11 (.t 12 (.t 13 (.t 14 (.t 15 (.t 16 (.t 17 (.t 18 (.t 19 (.t 20 (.t 21 (.t 22 (.t 23 (.t 24 (.t 25 (.t 26 (.t 27 (.t 28 (.t 29 (.t 30 (.t 31 (.t 32 (.t 33 .nil)))))))))))))))))))))))))))))))))) (by kernel_rfl) (by kernel_rfl) (by kernel_rfl) ?_ ?_
  · exact (by exact hcur.c)
  apply wpT_takeK rfl _ (by first | rfl | (simp [Region.wanted, yielded]; done))
  · intro w' hS
    have s0 := hS
    clear hS
    go_simp
    try rfl
  intro K hK
  go_simp
  refine hK _ ?_
  clear hK K
  apply wpT_takeK rfl _ (by first | rfl | (simp [Region.wanted, yielded]; done))
  · intro w' hS
    have s0 := hS
    clear hS
    go_simp
    try rfl
  intro K hK
  go_simp
  refine hK _ ?_
  clear hK K
  refine wpT_alone rfl ?_
  focus (go_wp2_with fail; refine (nameR_any o.name _ HF.out.name).mono ?_; rintro e w2 ⟨rfl, rfl⟩; rw [HN.out]; go_wp2)
  refine QS_normal (by exact hcur.c) (fun _ => ?_)
  apply wpT_takeK rfl _ (by first | rfl | (simp [Region.wanted, yielded]; done))
  · intro w' hS
    have s0 := hS
    clear hS
    go_simp
    try rfl
  intro K hK
  go_simp
  refine hK _ ?_
  clear hK K
  apply wpT_takeK rfl _ (by first | rfl | (simp [Region.wanted, yielded]; done))
  · intro w' hS
    have s0 := hS
    clear hS
    go_simp
    try rfl
  intro K hK
  go_simp
  refine hK _ ?_
  clear hK K
  refine wpT_takeK rfl (.agg (cellsO o)) (by first | rfl | (simp [Region.wanted, yielded]; done)) ?_ ?_
  · intro w' hS
    have s0 := hS
    exact exec_loadObj o rfl rfl hS
  intro K hK
  go_simp
  refine hK _ ?_
  clear hK K
  refine wpT_takeK rfl (.agg (cellsO o)) (by first | rfl | (simp [Region.wanted, yielded]; done)) ?_ ?_
  · intro w' hS
    have s0 := hS
    exact exec_loadObj o rfl rfl hS
  intro K hK
  go_simp
  refine hK _ ?_
  clear hK K
  refine wpT_alone rfl ?_
  focus (go_wp2_with fail; refine (bare_any o _).mono ?_; rintro e w2 ⟨rfl, hb2⟩; have hcur := hcur.next hb2; clear hb2; go_wp2)
  refine QS_normal (by exact hcur.c) (fun _ => ?_)
  refine wpT_takeK rfl (.bool false) (by first | rfl | (simp [Region.wanted, yielded]; done)) ?_ ?_
  · intro w' hS
    have s0 := hS
    exact (exec_neqObj o (bareR o) rfl rfl rfl).trans (by rw [← HE.out]; rfl)
  intro K hK
  go_simp
  refine hK _ ?_
  clear hK K
  apply wpT_takeK rfl _ (by first | rfl | (simp [Region.wanted, yielded]; done))
  · intro w' hS
    have s0 := hS
    clear hS
    go_simp
    try rfl
  intro K hK
  go_simp
  refine hK _ ?_
  clear hK K
  apply wpT_takeK rfl _ (by first | rfl | (simp [Region.wanted, yielded]; done))
  · intro w' hS
    have s0 := hS
    clear hS
    go_simp
    try rfl
  intro K hK
  go_simp
  refine hK _ ?_
  clear hK K
  apply wpT_takeK rfl _ (by first | rfl | (simp [Region.wanted, yielded]; done))
  · intro w' hS
    have s0 := hS
    clear hS
    go_simp
    try rfl
  intro K hK
  go_simp
  refine hK _ ?_
  clear hK K
  apply wpT_takeK rfl _ (by first | rfl | (simp [Region.wanted, yielded]; done))
  · intro w' hS
    have s0 := hS
    clear hS
    go_simp
    try rfl
  intro K hK
  go_simp
  refine hK _ ?_
  clear hK K
  apply wpT_takeK rfl _ (by first | rfl | (simp [Region.wanted, yielded]; done))
  · intro w' hS
    have s0 := hS
    clear hS
    go_simp
    try rfl
  intro K hK
  go_simp
  refine hK _ ?_
  clear hK K
  apply wpT_takeK rfl _ (by first | rfl | (simp [Region.wanted, yielded]; done))
  · intro w' hS
    have s0 := hS
    clear hS
    go_simp
    try rfl
  intro K hK
  go_simp
  refine hK _ ?_
  clear hK K
  apply wpT_takeK rfl _ (by first | rfl | (simp [Region.wanted, yielded]; done))
  · intro w' hS
    have s0 := hS
    clear hS
    go_simp
    try rfl
  intro K hK
  go_simp
  refine hK _ ?_
  clear hK K
  apply wpT_takeK rfl _ (by first | rfl | (simp [Region.wanted, yielded]; done))
  · intro w' hS
    have s0 := hS
    clear hS
    go_simp
    try rfl
  intro K hK
  go_simp
  refine hK _ ?_
  clear hK K
  refine wpT_takeK rfl (.bool false) (by first | rfl | (simp [Region.wanted, yielded]; done)) ?_ ?_
  · intro w' hS
    have s0 := hS
    (go_simp <;> omega)
  intro K hK
  go_simp
  refine hK _ ?_
  clear hK K
  apply wpT_takeK rfl _ (by first | rfl | (simp [Region.wanted, yielded]; done))
  · intro w' hS
    have s0 := hS
    clear hS
    go_simp
    try rfl
  intro K hK
  go_simp
  refine hK _ ?_
  clear hK K
  apply wpT_takeK rfl _ (by first | rfl | (simp [Region.wanted, yielded]; done))
  · intro w' hS
    have s0 := hS
    clear hS
    go_simp
    try rfl
  intro K hK
  go_simp
  refine hK _ ?_
  clear hK K
  apply wpT_takeK rfl _ (by first | rfl | (simp [Region.wanted, yielded]; done))
  · intro w' hS
    have s0 := hS
    clear hS
    go_simp
    try rfl
  intro K hK
  go_simp
  refine hK _ ?_
  clear hK K
  apply wpT_takeK rfl _ (by first | rfl | (simp [Region.wanted, yielded]; done))
  · intro w' hS
    have s0 := hS
    clear hS
    go_simp
    try rfl
  intro K hK
  go_simp
  refine hK _ ?_
  clear hK K
  refine wpT_takeK rfl (.bool false) (by first | rfl | (simp [Region.wanted, yielded]; done)) ?_ ?_
  · intro w' hS
    have s0 := hS
    (go_simp <;> omega)
  intro K hK
  go_simp
  refine hK _ ?_
  clear hK K
  apply wpT_takeK rfl _ (by first | rfl | (simp [Region.wanted, yielded]; done))
  · intro w' hS
    have s0 := hS
    clear hS
    go_simp
    try rfl
  intro K hK
  go_simp
  refine hK _ ?_
  clear hK K
  apply wpT_takeK rfl _ (by first | rfl | (simp [Region.wanted, yielded]; done))
  · intro w' hS
    have s0 := hS
    clear hS
    go_simp
    try rfl
  intro K hK
  go_simp
  refine hK _ ?_
  clear hK K
  apply wpT_takeK rfl _ (by first | rfl | (simp [Region.wanted, yielded]; done))
  · intro w' hS
    have s0 := hS
    clear hS
    go_simp
    try rfl
  intro K hK
  go_simp
  refine hK _ ?_
  clear hK K
  apply wpT_takeK rfl _ (by first | rfl | (simp [Region.wanted, yielded]; done))
  · intro w' hS
    have s0 := hS
    clear hS
    go_simp
    try rfl
  intro K hK
  go_simp
  refine hK _ ?_
  clear hK K
  refine wpT_takeK rfl (.bool false) (by first | rfl | (simp [Region.wanted, yielded]; done)) ?_ ?_
  · intro w' hS
    have s0 := hS
    (go_simp <;> omega)
  intro K hK
  go_simp
  refine hK _ ?_
  clear hK K
  apply wpT_takeK rfl _ (by first | rfl | (simp [Region.wanted, yielded]; done))
  · intro w' hS
    have s0 := hS
    clear hS
    go_simp
    try rfl
  intro K hK
  go_simp
  refine hK _ ?_
  clear hK K
  apply wpT_takeK rfl _ (by first | rfl | (simp [Region.wanted, yielded]; done))
  · intro w' hS
    have s0 := hS
    clear hS
    go_simp
    try rfl
  intro K hK
  go_simp
  refine hK _ ?_
  clear hK K
  apply wpT_takeK rfl _ (by first | rfl | (simp [Region.wanted, yielded]; done))
  · intro w' hS
    have s0 := hS
    clear hS
    go_simp
    try rfl
  intro K hK
  go_simp
  refine hK _ ?_
  clear hK K
  apply wpT_takeK rfl _ (by first | rfl | (simp [Region.wanted, yielded]; done))
  · intro w' hS
    have s0 := hS
    clear hS
    go_simp
    try rfl
  intro K hK
  go_simp
  refine hK _ ?_
  clear hK K
  refine wpT_takeK rfl (.bool false) (by first | rfl | (simp [Region.wanted, yielded]; done)) ?_ ?_
  · intro w' hS
    have s0 := hS
    (go_simp <;> omega)
  intro K hK
  go_simp
  refine hK _ ?_
  clear hK K
  apply wpT_takeK rfl _ (by first | rfl | (simp [Region.wanted, yielded]; done))
  · intro w' hS
    have s0 := hS
    clear hS
    go_simp
    try rfl
  intro K hK
  go_simp
  refine hK _ ?_
  clear hK K
  refine wpT_end ?_
  have HX := Lib.hid hcur
  have hS := hcur.c
  clear hcur
  go_upto_region 4 with fail
  go_cut [4] from 71 (fun s4 w' => s4 = .bool (modeB o.mode) ∧ BoxO w w' o)
  case first =>
    by_cases m1 : o.mode = 1
    · go_wp2
      go_meet
      case rel => exact ⟨by simp [modeB, m1], HX.out⟩
    · have m1' : (o.mode == 1) = false := beq_false_of_ne m1
      by_cases m2 : o.mode = 2
      · go_wp2
        go_meet
        case rel => exact ⟨by simp [modeB, m2], HX.out⟩
      · have m2' : (o.mode == 2) = false := beq_false_of_ne m2
        go_wp2
        go_meet
        case rel => exact ⟨by simp [modeB, m1, m2], HX.out⟩
  case rest =>
    obtain ⟨rfl, hX⟩ := hcut
    have HX := Lib.hid hX
    have hS := hX.c
    clear hX
    go_upto_region 14 with fail
    go_cut [6] from 133 (fun s w' => s = .bool (oneB o.phase [4, 3, 5, 6]) ∧ BoxO w w' o)
    case first =>
      by_cases p4 : o.phase = 4
      · go_wp2
        go_meet
        case rel => exact ⟨by simp [oneB, *], HX.out⟩
      · have q4 : (o.phase == 4) = false := beq_false_of_ne p4
        by_cases p3 : o.phase = 3
        · go_wp2
          go_meet
          case rel => exact ⟨by simp [oneB, *], HX.out⟩
        · have q3 : (o.phase == 3) = false := beq_false_of_ne p3
          by_cases p5 : o.phase = 5
          · go_wp2
            go_meet
            case rel => exact ⟨by simp [oneB, *], HX.out⟩
          · have q5 : (o.phase == 5) = false := beq_false_of_ne p5
            by_cases p6 : o.phase = 6
            · go_wp2
              go_meet
              case rel => exact ⟨by simp [oneB, *], HX.out⟩
            · have q6 : (o.phase == 6) = false := beq_false_of_ne p6
              go_wp2
              go_meet
              case rel => exact ⟨by simp [oneB, *], HX.out⟩
    case rest =>
      obtain ⟨rfl, hX⟩ := hcut
      have HX := Lib.hid hX
      have hS := hX.c
      clear hX
      cases hc : (!o.cls.toList.isEmpty)
      · go_wp2
        go_ret
        exact ⟨ret_bool (by rw [HR.out]; simp [kindB, nonE, *] <;> simp [oneB, bne, *]), HX.out.b⟩
      cases hz : (!o.zone.toList.isEmpty)
      · go_wp2
        go_ret
        exact ⟨ret_bool (by rw [HR.out]; simp [kindB, nonE, *] <;> simp [oneB, bne, *]), HX.out.b⟩
      by_cases z : o.size = 0
      · go_wp2
        go_ret
        exact ⟨ret_bool (by rw [HR.out]; simp [kindB, nonE, *] <;> simp [oneB, bne, *]), HX.out.b⟩
      have z' : (o.size == 0) = false := beq_false_of_ne z
      have zp : 0 < o.size := by have := HSG.out.1; omega
      by_cases y : o.got = 0
      · go_wp2
        go_ret
        exact ⟨ret_bool (by rw [HR.out]; simp [kindB, nonE, *] <;> simp [oneB, bne, *]), HX.out.b⟩
      have y' : (o.got == 0) = false := beq_false_of_ne y
      have yp : 0 < o.got := by have := HSG.out.2; omega
      cases hm : modeB o.mode
      · go_wp2
        go_ret
        exact ⟨ret_bool (by rw [HR.out]; simp [kindB, nonE, *] <;> simp [oneB, bne, *]), HX.out.b⟩
      cases hp : oneB o.phase [4, 3, 5, 6]
      · have hq : oneB o.phase [3, 5] = false ∧ oneB o.phase [4, 6] = false := by simp [oneB] at hp ⊢; omega
        obtain ⟨hq1, hq2⟩ := hq
        go_wp2
        go_ret
        exact ⟨ret_bool (by rw [HR.out]; simp [kindB, nonE, *] <;> simp [oneB, bne, *]), HX.out.b⟩
      have hpp : o.phase = 4 ∨ o.phase = 3 ∨ o.phase = 5 ∨ o.phase = 6 := by simpa [oneB] using hp
      cases hl : (!o.claim.toList.isEmpty)
      all_goals
        rcases hpp with hpp | hpp | hpp | hpp
        · have HPP := Lib.hid hpp
          have q3 : (o.phase == 3) = false := by rw [HPP.out]; rfl
          have q4 : (o.phase == 4) = true := by rw [HPP.out]; rfl
          have q5 : (o.phase == 5) = false := by rw [HPP.out]; rfl
          have q6 : (o.phase == 6) = false := by rw [HPP.out]; rfl
          clear hpp
          go_wp2
          all_goals go_ret
          all_goals exact ⟨ret_bool (by rw [HR.out]; have hpp := HPP.out; simp [kindB, nonE, oneB, *]), HX.out.b⟩
        · have HPP := Lib.hid hpp
          have q3 : (o.phase == 3) = true := by rw [HPP.out]; rfl
          have q4 : (o.phase == 4) = false := by rw [HPP.out]; rfl
          have q5 : (o.phase == 5) = false := by rw [HPP.out]; rfl
          have q6 : (o.phase == 6) = false := by rw [HPP.out]; rfl
          clear hpp
          go_wp2
          all_goals go_ret
          all_goals exact ⟨ret_bool (by rw [HR.out]; have hpp := HPP.out; simp [kindB, nonE, oneB, *]), HX.out.b⟩
        · have HPP := Lib.hid hpp
          have q3 : (o.phase == 3) = false := by rw [HPP.out]; rfl
          have q4 : (o.phase == 4) = false := by rw [HPP.out]; rfl
          have q5 : (o.phase == 5) = true := by rw [HPP.out]; rfl
          have q6 : (o.phase == 6) = false := by rw [HPP.out]; rfl
          clear hpp
          go_wp2
          all_goals go_ret
          all_goals exact ⟨ret_bool (by rw [HR.out]; have hpp := HPP.out; simp [kindB, nonE, oneB, *]), HX.out.b⟩
        · have HPP := Lib.hid hpp
          have q3 : (o.phase == 3) = false := by rw [HPP.out]; rfl
          have q4 : (o.phase == 4) = false := by rw [HPP.out]; rfl
          have q5 : (o.phase == 5) = false := by rw [HPP.out]; rfl
          have q6 : (o.phase == 6) = true := by rw [HPP.out]; rfl
          clear hpp
          go_wp2
          all_goals go_ret
          all_goals exact ⟨ret_bool (by rw [HR.out]; have hpp := HPP.out; simp [kindB, nonE, oneB, *]), HX.out.b⟩

end Go.Proofs.Ytgplolfkfhhddaa
