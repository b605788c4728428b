/- Layer 3 (object): the document's answer on what a user may make. -/
import Derived.Test.YtmhnccbjnlmjpaaF26
import Derived.Test.YtmhnccbjnlmjpaaO11
namespace Go.Proofs.Ytmhnccbjnlmjpaa
open Go.RowKit
set_option linter.unusedVariables false
set_option linter.unusedSimpArgs false
open Go.ChangeShapes Go.WideShapes Go.ChangeAt

theorem app_empty (a b : ByteArray) : nonE (a ++ b) = (nonE a || nonE b) := by
  unfold nonE
  rw [ByteArray.toList_eq, ByteArray.toList_eq, ByteArray.toList_eq, ByteArray.data_append]
  simp only [Array.toList_append]
  cases a.data.toList <;> cases b.data.toList <;> rfl

set_option maxRecDepth 100000 in
set_option maxHeartbeats 8000000 in
theorem userR_any (o : Obj) (w : World) (hf : o.Fits) : Calls Try.prog 14 #[.agg (cellsO o)] w fun e w' => e = .returned (.bool (userB o)) ∧ Below w.heap.size w w' := by
  have HF := Lib.hid hf
  clear hf
  have HB0 := Lib.hid ((Below.refl w.heap.size w).alloc (Nat.le_refl _) (.cells (cellsO o) 27))
  have hS0 : ∀ k, (w.alloc (.cells (cellsO o) 27)).cell? ⟨w.heap.size, k, none⟩ = (cellsO o)[k]? := cells_all heap_alloc_eq
  go_enter Try.func14, Try.ntmps14
  go_wp2_with (refine wpList_loadObj rfl _ rfl _ rfl o hS0 ?_)
  refine (rightR_any o _ HF.out).mono ?_
  rintro e w1 ⟨rfl, hb1⟩
  have hS1 : ∀ k, w1.cell? ⟨w.heap.size, k, none⟩ = (cellsO o)[k]? := fun k => (hb1.cell (p := ⟨w.heap.size, k, none⟩) (by simp)).trans (hS0 k)
  have HB1 := Lib.hid ((HB0.out).trans (hb1.mono (HB0.out).size))
  clear hb1 hS0 HB0
  cases h1 : rightB o
  · have H := Lib.hid (show userB o = false by unfold userB; rw [h1]; rfl)
    go_wp2
    go_ret
    exact ⟨ret_bool H.out.symm, HB1.out⟩
  by_cases x0 : o.version = 0
  rotate_left
  · have H := Lib.hid (show userB o = false by unfold userB newB; simp [x0])
    have y0 : (o.version == 0) = false := beq_false_of_ne x0
    go_wp2
    go_ret
    exact ⟨ret_bool H.out.symm, HB1.out⟩
  by_cases x1 : o.born = 0
  rotate_left
  · have H := Lib.hid (show userB o = false by unfold userB newB; simp [x1])
    have y1 : (o.born == 0) = false := beq_false_of_ne x1
    go_wp2
    go_ret
    exact ⟨ret_bool H.out.symm, HB1.out⟩
  by_cases x2 : o.num = 0
  rotate_left
  · have H := Lib.hid (show userB o = false by unfold userB newB; simp [x2])
    have y2 : (o.num == 0) = false := beq_false_of_ne x2
    go_wp2
    go_ret
    exact ⟨ret_bool H.out.symm, HB1.out⟩
  by_cases x3 : o.tag = 0
  rotate_left
  · have H := Lib.hid (show userB o = false by unfold userB newB; simp [x3])
    have y3 : (o.tag == 0) = false := beq_false_of_ne x3
    go_wp2
    go_ret
    exact ⟨ret_bool H.out.symm, HB1.out⟩
  cases h2 : o.deleting
  rotate_left
  · have H := Lib.hid (show userB o = false by unfold userB; rw [h2]; simp)
    go_wp2
    go_ret
    exact ⟨ret_bool H.out.symm, HB1.out⟩
  have H := Lib.hid (show userB o = askB o by unfold userB newB; rw [h1]; simp [x0, x1, x2, x3, h2])
  by_cases k1 : o.kind = 1
  · go_wp2
    go_ret
    exact ⟨ret_bool (by rw [H.out]; simp [askB, nonE, *] <;> simp [bne, *]), HB1.out⟩
  have j1 : (o.kind == 1) = false := beq_false_of_ne k1
  by_cases k2 : o.kind = 2
  · go_wp2
    go_ret
    exact ⟨ret_bool (by rw [H.out]; simp [askB, nonE, *] <;> simp [bne, *]), HB1.out⟩
  have j2 : (o.kind == 2) = false := beq_false_of_ne k2
  have ha := app_empty o.node o.zone
  unfold nonE at ha
  have HA := Lib.hid ha
  clear ha
  by_cases k3 : o.kind = 3
  · by_cases p : o.phase = 1
    rotate_left
    · have p' : (o.phase == 1) = false := beq_false_of_ne p
      go_wp2
      go_ret
      exact ⟨ret_bool (by rw [H.out]; simp only [askB, nonE]; rw [HA.out]; simp [*] <;> simp [bne, *]), HB1.out⟩
    cases hn : o.node.toList.isEmpty
    all_goals
      have hn' := congrArg (!·) hn
      simp only [Bool.not_false, Bool.not_true] at hn'
      cases hz : o.zone.toList.isEmpty
      all_goals
        have hz' := congrArg (!·) hz
        simp only [Bool.not_false, Bool.not_true] at hz'
        by_cases g : o.got = 0
        · go_wp2
          go_ret
          exact ⟨ret_bool (by rw [H.out]; simp only [askB, nonE]; rw [HA.out]; simp [*] <;> simp [bne, *]), HB1.out⟩
        · have g' : (o.got == 0) = false := beq_false_of_ne g
          go_wp2
          go_ret
          exact ⟨ret_bool (by rw [H.out]; simp only [askB, nonE]; rw [HA.out]; simp [*] <;> simp [bne, *]), HB1.out⟩
  have j3 : (o.kind == 3) = false := beq_false_of_ne k3
  by_cases k4 : o.kind = 4
  · by_cases p : o.phase = 4
    rotate_left
    · have p' : (o.phase == 4) = false := beq_false_of_ne p
      go_wp2
      go_ret
      exact ⟨ret_bool (by rw [H.out]; simp [askB, nonE, *] <;> simp [bne, *]), HB1.out⟩
    cases hn : o.claim.toList.isEmpty
    all_goals
      have hn' := congrArg (!·) hn
      simp only [Bool.not_false, Bool.not_true] at hn'
      cases g : (o.got == o.size)
      all_goals
        go_wp2
        go_ret
        exact ⟨ret_bool (by rw [H.out]; simp [askB, nonE, *] <;> simp [bne, *]), HB1.out⟩
  have j4 : (o.kind == 4) = false := beq_false_of_ne k4
  by_cases k6 : o.kind = 6
  · cases hn : o.node.toList.isEmpty
    all_goals
      have hn' := congrArg (!·) hn
      simp only [Bool.not_false, Bool.not_true] at hn'
      go_wp2
      go_ret
      exact ⟨ret_bool (by rw [H.out]; simp [askB, nonE, *] <;> simp [bne, *]), HB1.out⟩
  have j6 : (o.kind == 6) = false := beq_false_of_ne k6
  by_cases k7 : o.kind = 7
  · by_cases p : o.phase = 1
    rotate_left
    · have p' : (o.phase == 1) = false := beq_false_of_ne p
      go_wp2
      go_ret
      exact ⟨ret_bool (by rw [H.out]; simp [askB, nonE, *] <;> simp [bne, *]), HB1.out⟩
    cases hn : o.volume.toList.isEmpty
    all_goals
      have hn' := congrArg (!·) hn
      simp only [Bool.not_false, Bool.not_true] at hn'
      by_cases g : o.got = 0
      · go_wp2
        go_ret
        exact ⟨ret_bool (by rw [H.out]; simp [askB, nonE, *] <;> simp [bne, *]), HB1.out⟩
      · have g' : (o.got == 0) = false := beq_false_of_ne g
        go_wp2
        go_ret
        exact ⟨ret_bool (by rw [H.out]; simp [askB, nonE, *] <;> simp [bne, *]), HB1.out⟩
  have j7 : (o.kind == 7) = false := beq_false_of_ne k7
  by_cases k5 : o.kind = 5
  · go_wp2
    go_ret
    exact ⟨ret_bool (by rw [H.out]; simp [askB, nonE, *] <;> simp [bne, *]), HB1.out⟩
  have j5 : (o.kind == 5) = false := beq_false_of_ne k5
  go_wp2
  go_ret
  exact ⟨ret_bool (by
    rw [rightB, Bool.and_eq_true] at h1
    have := h1.2
    simp [kindB, *] at this), HB1.out⟩

end Go.Proofs.Ytmhnccbjnlmjpaa
