/- Layer 3 (object): what a user may make. -/
import Derived.Test.YtmhnccbjnlmjpaaO10
namespace Go.Proofs.Ytmhnccbjnlmjpaa
open Go.RowKit
set_option linter.unusedVariables false
set_option linter.unusedSimpArgs false

def newB (o : Obj) : Bool := decide (o.version = 0) && decide (o.born = 0) && decide (o.num = 0) && decide (o.tag = 0)
def askB (o : Obj) : Bool :=
  if o.kind = 3 then decide (o.phase = 1) && !nonE (o.node ++ o.zone) && o.got == 0
  else if o.kind = 4 then decide (o.phase = 4) && !nonE o.claim && (o.got == o.size)
  else if o.kind = 6 then !nonE o.node
  else if o.kind = 7 then decide (o.phase = 1) && !nonE o.volume && o.got == 0
  else (o.kind != 5)
theorem names_user {o : Obj} (h : rightB o = true) : o.node.size + o.zone.size ≤ 9223372036854775807 := by
  have h0 : namesB (textsO o) = true := by
    simp only [rightB, formB, Bool.and_eq_true] at h
    exact h.1.1.1.2
  have h1 := names_le h0 o.zone (by simp [textsO])
  have h2 := names_le h0 o.node (by simp [textsO])
  omega
def userB (o : Obj) : Bool := rightB o && !o.deleting && newB o && askB o

set_option maxRecDepth 100000 in
set_option maxHeartbeats 4000000 in
theorem user_bad0 (o : Obj) (w : World) (hf : o.Fits) (h1 : rightB o = false) :
    Calls Try.prog 13 #[.agg (cellsO o)] w fun e w' => e = .returned (.bool (userB o)) ∧ Below w.heap.size w w' := by
  have HF := Lib.hid hf
  clear hf
  have HB0 := Lib.hid ((Below.refl w.heap.size w).alloc (Nat.le_refl _) (.cells (cellsO o) 27))
  have hS0 : ∀ k, (w.alloc (.cells (cellsO o) 27)).cell? ⟨w.heap.size, k, none⟩ = (cellsO o)[k]? := cells_all heap_alloc_eq
  have H1 := Lib.hid h1
  clear h1
  go_enter Try.func13, Try.ntmps13
  go_wp2_with (refine wpList_loadObj rfl _ rfl _ rfl o hS0 ?_)
  refine (right_any o _ HF.out).mono ?_
  rintro e w1 ⟨rfl, hb1⟩
  have hS1 : ∀ k, w1.cell? ⟨w.heap.size, k, none⟩ = (cellsO o)[k]? := fun k => (hb1.cell (p := ⟨w.heap.size, k, none⟩) (by simp)).trans (hS0 k)
  have HB1 := Lib.hid ((HB0.out).trans (hb1.mono (HB0.out).size))
  clear hb1 hS0 HB0
  rw [H1.out]
  go_wp2
  go_ret
  exact ⟨ret_bool (by simp [userB, H1.out]), HB1.out⟩

set_option maxRecDepth 100000 in
set_option maxHeartbeats 4000000 in
theorem user_bad1 (o : Obj) (w : World) (hf : o.Fits) (h1 : rightB o = true) (h2 : o.deleting = true) :
    Calls Try.prog 13 #[.agg (cellsO o)] w fun e w' => e = .returned (.bool (userB o)) ∧ Below w.heap.size w w' := by
  have HF := Lib.hid hf
  clear hf
  have HB0 := Lib.hid ((Below.refl w.heap.size w).alloc (Nat.le_refl _) (.cells (cellsO o) 27))
  have hS0 : ∀ k, (w.alloc (.cells (cellsO o) 27)).cell? ⟨w.heap.size, k, none⟩ = (cellsO o)[k]? := cells_all heap_alloc_eq
  have H1 := Lib.hid h1
  have H2 := Lib.hid h2
  clear h1
  go_enter Try.func13, Try.ntmps13
  go_wp2_with (refine wpList_loadObj rfl _ rfl _ rfl o hS0 ?_)
  refine (right_any o _ HF.out).mono ?_
  rintro e w1 ⟨rfl, hb1⟩
  have hS1 : ∀ k, w1.cell? ⟨w.heap.size, k, none⟩ = (cellsO o)[k]? := fun k => (hb1.cell (p := ⟨w.heap.size, k, none⟩) (by simp)).trans (hS0 k)
  have HB1 := Lib.hid ((HB0.out).trans (hb1.mono (HB0.out).size))
  clear hb1 hS0 HB0
  rw [H1.out]
  go_wp2
  go_ret
  exact ⟨ret_bool (by simp [userB, H2.out]), HB1.out⟩

set_option maxRecDepth 100000 in
set_option maxHeartbeats 4000000 in
theorem user_new0 (o : Obj) (w : World) (hf : o.Fits) (h1 : rightB o = true) (h2 : o.deleting = false)  (y : ¬ o.version = 0) :
    Calls Try.prog 13 #[.agg (cellsO o)] w fun e w' => e = .returned (.bool (userB o)) ∧ Below w.heap.size w w' := by
  have HF := Lib.hid hf
  clear hf
  have HB0 := Lib.hid ((Below.refl w.heap.size w).alloc (Nat.le_refl _) (.cells (cellsO o) 27))
  have hS0 : ∀ k, (w.alloc (.cells (cellsO o) 27)).cell? ⟨w.heap.size, k, none⟩ = (cellsO o)[k]? := cells_all heap_alloc_eq
  have H1 := Lib.hid h1
  have Y := Lib.hid y
  clear h1
  have z : (o.version == 0) = false := by simpa using y
  clear y 
  go_enter Try.func13, Try.ntmps13
  go_wp2_with (refine wpList_loadObj rfl _ rfl _ rfl o hS0 ?_)
  refine (right_any o _ HF.out).mono ?_
  rintro e w1 ⟨rfl, hb1⟩
  have hS1 : ∀ k, w1.cell? ⟨w.heap.size, k, none⟩ = (cellsO o)[k]? := fun k => (hb1.cell (p := ⟨w.heap.size, k, none⟩) (by simp)).trans (hS0 k)
  have HB1 := Lib.hid ((HB0.out).trans (hb1.mono (HB0.out).size))
  clear hb1 hS0 HB0
  rw [H1.out]
  go_wp2
  all_goals go_ret
  all_goals exact ⟨ret_bool (by simp [userB, newB, Y.out]), HB1.out⟩

set_option maxRecDepth 100000 in
set_option maxHeartbeats 4000000 in
theorem user_new1 (o : Obj) (w : World) (hf : o.Fits) (h1 : rightB o = true) (h2 : o.deleting = false) (x0 : o.version = 0) (y : ¬ o.born = 0) :
    Calls Try.prog 13 #[.agg (cellsO o)] w fun e w' => e = .returned (.bool (userB o)) ∧ Below w.heap.size w w' := by
  have HF := Lib.hid hf
  clear hf
  have HB0 := Lib.hid ((Below.refl w.heap.size w).alloc (Nat.le_refl _) (.cells (cellsO o) 27))
  have hS0 : ∀ k, (w.alloc (.cells (cellsO o) 27)).cell? ⟨w.heap.size, k, none⟩ = (cellsO o)[k]? := cells_all heap_alloc_eq
  have H1 := Lib.hid h1
  have Y := Lib.hid y
  clear h1
  have z0 : (o.version == 0) = true := by simpa using x0
  have z : (o.born == 0) = false := by simpa using y
  clear y x0
  go_enter Try.func13, Try.ntmps13
  go_wp2_with (refine wpList_loadObj rfl _ rfl _ rfl o hS0 ?_)
  refine (right_any o _ HF.out).mono ?_
  rintro e w1 ⟨rfl, hb1⟩
  have hS1 : ∀ k, w1.cell? ⟨w.heap.size, k, none⟩ = (cellsO o)[k]? := fun k => (hb1.cell (p := ⟨w.heap.size, k, none⟩) (by simp)).trans (hS0 k)
  have HB1 := Lib.hid ((HB0.out).trans (hb1.mono (HB0.out).size))
  clear hb1 hS0 HB0
  rw [H1.out]
  go_wp2
  all_goals go_ret
  all_goals exact ⟨ret_bool (by simp [userB, newB, Y.out]), HB1.out⟩

set_option maxRecDepth 100000 in
set_option maxHeartbeats 4000000 in
theorem user_new2 (o : Obj) (w : World) (hf : o.Fits) (h1 : rightB o = true) (h2 : o.deleting = false) (x0 : o.version = 0) (x1 : o.born = 0) (y : ¬ o.num = 0) :
    Calls Try.prog 13 #[.agg (cellsO o)] w fun e w' => e = .returned (.bool (userB o)) ∧ Below w.heap.size w w' := by
  have HF := Lib.hid hf
  clear hf
  have HB0 := Lib.hid ((Below.refl w.heap.size w).alloc (Nat.le_refl _) (.cells (cellsO o) 27))
  have hS0 : ∀ k, (w.alloc (.cells (cellsO o) 27)).cell? ⟨w.heap.size, k, none⟩ = (cellsO o)[k]? := cells_all heap_alloc_eq
  have H1 := Lib.hid h1
  have Y := Lib.hid y
  clear h1
  have z0 : (o.version == 0) = true := by simpa using x0
  have z1 : (o.born == 0) = true := by simpa using x1
  have z : (o.num == 0) = false := by simpa using y
  clear y x0 x1
  go_enter Try.func13, Try.ntmps13
  go_wp2_with (refine wpList_loadObj rfl _ rfl _ rfl o hS0 ?_)
  refine (right_any o _ HF.out).mono ?_
  rintro e w1 ⟨rfl, hb1⟩
  have hS1 : ∀ k, w1.cell? ⟨w.heap.size, k, none⟩ = (cellsO o)[k]? := fun k => (hb1.cell (p := ⟨w.heap.size, k, none⟩) (by simp)).trans (hS0 k)
  have HB1 := Lib.hid ((HB0.out).trans (hb1.mono (HB0.out).size))
  clear hb1 hS0 HB0
  rw [H1.out]
  go_wp2
  all_goals go_ret
  all_goals exact ⟨ret_bool (by simp [userB, newB, Y.out]), HB1.out⟩

set_option maxRecDepth 100000 in
set_option maxHeartbeats 4000000 in
theorem user_new3 (o : Obj) (w : World) (hf : o.Fits) (h1 : rightB o = true) (h2 : o.deleting = false) (x0 : o.version = 0) (x1 : o.born = 0) (x2 : o.num = 0) (y : ¬ o.tag = 0) :
    Calls Try.prog 13 #[.agg (cellsO o)] w fun e w' => e = .returned (.bool (userB o)) ∧ Below w.heap.size w w' := by
  have HF := Lib.hid hf
  clear hf
  have HB0 := Lib.hid ((Below.refl w.heap.size w).alloc (Nat.le_refl _) (.cells (cellsO o) 27))
  have hS0 : ∀ k, (w.alloc (.cells (cellsO o) 27)).cell? ⟨w.heap.size, k, none⟩ = (cellsO o)[k]? := cells_all heap_alloc_eq
  have H1 := Lib.hid h1
  have Y := Lib.hid y
  clear h1
  have z0 : (o.version == 0) = true := by simpa using x0
  have z1 : (o.born == 0) = true := by simpa using x1
  have z2 : (o.num == 0) = true := by simpa using x2
  have z : (o.tag == 0) = false := by simpa using y
  clear y x0 x1 x2
  go_enter Try.func13, Try.ntmps13
  go_wp2_with (refine wpList_loadObj rfl _ rfl _ rfl o hS0 ?_)
  refine (right_any o _ HF.out).mono ?_
  rintro e w1 ⟨rfl, hb1⟩
  have hS1 : ∀ k, w1.cell? ⟨w.heap.size, k, none⟩ = (cellsO o)[k]? := fun k => (hb1.cell (p := ⟨w.heap.size, k, none⟩) (by simp)).trans (hS0 k)
  have HB1 := Lib.hid ((HB0.out).trans (hb1.mono (HB0.out).size))
  clear hb1 hS0 HB0
  rw [H1.out]
  go_wp2
  all_goals go_ret
  all_goals exact ⟨ret_bool (by simp [userB, newB, Y.out]), HB1.out⟩

set_option maxRecDepth 100000 in
set_option maxHeartbeats 4000000 in
theorem user_kind3 (o : Obj) (w : World) (hf : o.Fits) (h1 : rightB o = true) (h2 : o.deleting = false) (x0 : o.version = 0) (x1 : o.born = 0) (x2 : o.num = 0) (x3 : o.tag = 0) (hk : o.kind = 3) :
    Calls Try.prog 13 #[.agg (cellsO o)] w fun e w' => e = .returned (.bool (userB o)) ∧ Below w.heap.size w w' := by
  have hle := names_user h1
  have HF := Lib.hid hf
  clear hf
  have HB0 := Lib.hid ((Below.refl w.heap.size w).alloc (Nat.le_refl _) (.cells (cellsO o) 27))
  have hS0 : ∀ k, (w.alloc (.cells (cellsO o) 27)).cell? ⟨w.heap.size, k, none⟩ = (cellsO o)[k]? := cells_all heap_alloc_eq
  have H1 := Lib.hid h1
  have HN := Lib.hid (show newB o = true by simp [newB, x0, x1, x2, x3])
  have H2 := Lib.hid h2
  clear h1
  have z0 : (o.version == 0) = true := by simpa using x0
  have z1 : (o.born == 0) = true := by simpa using x1
  have z2 : (o.num == 0) = true := by simpa using x2
  have z3 : (o.tag == 0) = true := by simpa using x3
  clear x0 x1 x2 x3
  have e3 : (o.kind == 3) = true := by simp [hk]
  have HK := Lib.hid hk
  clear hk
  go_enter Try.func13, Try.ntmps13
  go_wp2_with (refine wpList_loadObj rfl _ rfl _ rfl o hS0 ?_)
  refine (right_any o _ HF.out).mono ?_
  rintro e w1 ⟨rfl, hb1⟩
  have hS1 : ∀ k, w1.cell? ⟨w.heap.size, k, none⟩ = (cellsO o)[k]? := fun k => (hb1.cell (p := ⟨w.heap.size, k, none⟩) (by simp)).trans (hS0 k)
  have HB1 := Lib.hid ((HB0.out).trans (hb1.mono (HB0.out).size))
  clear hb1 hS0 HB0
  rw [H1.out]
  go_wp2
  all_goals go_ret
  all_goals refine ⟨ret_bool ?_, HB1.out⟩
  all_goals simp_all [userB, askB, H1.out, H2.out, HN.out, HK.out, nonE]

set_option maxRecDepth 100000 in
set_option maxHeartbeats 4000000 in
theorem user_kind4 (o : Obj) (w : World) (hf : o.Fits) (h1 : rightB o = true) (h2 : o.deleting = false) (x0 : o.version = 0) (x1 : o.born = 0) (x2 : o.num = 0) (x3 : o.tag = 0) (hk : o.kind = 4) :
    Calls Try.prog 13 #[.agg (cellsO o)] w fun e w' => e = .returned (.bool (userB o)) ∧ Below w.heap.size w w' := by
  have HF := Lib.hid hf
  clear hf
  have HB0 := Lib.hid ((Below.refl w.heap.size w).alloc (Nat.le_refl _) (.cells (cellsO o) 27))
  have hS0 : ∀ k, (w.alloc (.cells (cellsO o) 27)).cell? ⟨w.heap.size, k, none⟩ = (cellsO o)[k]? := cells_all heap_alloc_eq
  have H1 := Lib.hid h1
  have HN := Lib.hid (show newB o = true by simp [newB, x0, x1, x2, x3])
  have H2 := Lib.hid h2
  clear h1
  have z0 : (o.version == 0) = true := by simpa using x0
  have z1 : (o.born == 0) = true := by simpa using x1
  have z2 : (o.num == 0) = true := by simpa using x2
  have z3 : (o.tag == 0) = true := by simpa using x3
  clear x0 x1 x2 x3
  have e3 : (o.kind == 3) = false := by simp [hk]
  have e4 : (o.kind == 4) = true := by simp [hk]
  have HK := Lib.hid hk
  clear hk
  go_enter Try.func13, Try.ntmps13
  go_wp2_with (refine wpList_loadObj rfl _ rfl _ rfl o hS0 ?_)
  refine (right_any o _ HF.out).mono ?_
  rintro e w1 ⟨rfl, hb1⟩
  have hS1 : ∀ k, w1.cell? ⟨w.heap.size, k, none⟩ = (cellsO o)[k]? := fun k => (hb1.cell (p := ⟨w.heap.size, k, none⟩) (by simp)).trans (hS0 k)
  have HB1 := Lib.hid ((HB0.out).trans (hb1.mono (HB0.out).size))
  clear hb1 hS0 HB0
  rw [H1.out]
  go_wp2
  all_goals go_ret
  all_goals refine ⟨ret_bool ?_, HB1.out⟩
  all_goals simp_all [userB, askB, H1.out, H2.out, HN.out, HK.out, nonE]

set_option maxRecDepth 100000 in
set_option maxHeartbeats 4000000 in
theorem user_kind6 (o : Obj) (w : World) (hf : o.Fits) (h1 : rightB o = true) (h2 : o.deleting = false) (x0 : o.version = 0) (x1 : o.born = 0) (x2 : o.num = 0) (x3 : o.tag = 0) (hk : o.kind = 6) :
    Calls Try.prog 13 #[.agg (cellsO o)] w fun e w' => e = .returned (.bool (userB o)) ∧ Below w.heap.size w w' := by
  have HF := Lib.hid hf
  clear hf
  have HB0 := Lib.hid ((Below.refl w.heap.size w).alloc (Nat.le_refl _) (.cells (cellsO o) 27))
  have hS0 : ∀ k, (w.alloc (.cells (cellsO o) 27)).cell? ⟨w.heap.size, k, none⟩ = (cellsO o)[k]? := cells_all heap_alloc_eq
  have H1 := Lib.hid h1
  have HN := Lib.hid (show newB o = true by simp [newB, x0, x1, x2, x3])
  have H2 := Lib.hid h2
  clear h1
  have z0 : (o.version == 0) = true := by simpa using x0
  have z1 : (o.born == 0) = true := by simpa using x1
  have z2 : (o.num == 0) = true := by simpa using x2
  have z3 : (o.tag == 0) = true := by simpa using x3
  clear x0 x1 x2 x3
  have e3 : (o.kind == 3) = false := by simp [hk]
  have e4 : (o.kind == 4) = false := by simp [hk]
  have e6 : (o.kind == 6) = true := by simp [hk]
  have HK := Lib.hid hk
  clear hk
  go_enter Try.func13, Try.ntmps13
  go_wp2_with (refine wpList_loadObj rfl _ rfl _ rfl o hS0 ?_)
  refine (right_any o _ HF.out).mono ?_
  rintro e w1 ⟨rfl, hb1⟩
  have hS1 : ∀ k, w1.cell? ⟨w.heap.size, k, none⟩ = (cellsO o)[k]? := fun k => (hb1.cell (p := ⟨w.heap.size, k, none⟩) (by simp)).trans (hS0 k)
  have HB1 := Lib.hid ((HB0.out).trans (hb1.mono (HB0.out).size))
  clear hb1 hS0 HB0
  rw [H1.out]
  go_wp2
  all_goals go_ret
  all_goals refine ⟨ret_bool ?_, HB1.out⟩
  all_goals simp_all [userB, askB, H1.out, H2.out, HN.out, HK.out, nonE]

set_option maxRecDepth 100000 in
set_option maxHeartbeats 4000000 in
theorem user_kind7 (o : Obj) (w : World) (hf : o.Fits) (h1 : rightB o = true) (h2 : o.deleting = false) (x0 : o.version = 0) (x1 : o.born = 0) (x2 : o.num = 0) (x3 : o.tag = 0) (hk : o.kind = 7) :
    Calls Try.prog 13 #[.agg (cellsO o)] w fun e w' => e = .returned (.bool (userB o)) ∧ Below w.heap.size w w' := by
  have HF := Lib.hid hf
  clear hf
  have HB0 := Lib.hid ((Below.refl w.heap.size w).alloc (Nat.le_refl _) (.cells (cellsO o) 27))
  have hS0 : ∀ k, (w.alloc (.cells (cellsO o) 27)).cell? ⟨w.heap.size, k, none⟩ = (cellsO o)[k]? := cells_all heap_alloc_eq
  have H1 := Lib.hid h1
  have HN := Lib.hid (show newB o = true by simp [newB, x0, x1, x2, x3])
  have H2 := Lib.hid h2
  clear h1
  have z0 : (o.version == 0) = true := by simpa using x0
  have z1 : (o.born == 0) = true := by simpa using x1
  have z2 : (o.num == 0) = true := by simpa using x2
  have z3 : (o.tag == 0) = true := by simpa using x3
  clear x0 x1 x2 x3
  have e3 : (o.kind == 3) = false := by simp [hk]
  have e4 : (o.kind == 4) = false := by simp [hk]
  have e6 : (o.kind == 6) = false := by simp [hk]
  have e7 : (o.kind == 7) = true := by simp [hk]
  have HK := Lib.hid hk
  clear hk
  go_enter Try.func13, Try.ntmps13
  go_wp2_with (refine wpList_loadObj rfl _ rfl _ rfl o hS0 ?_)
  refine (right_any o _ HF.out).mono ?_
  rintro e w1 ⟨rfl, hb1⟩
  have hS1 : ∀ k, w1.cell? ⟨w.heap.size, k, none⟩ = (cellsO o)[k]? := fun k => (hb1.cell (p := ⟨w.heap.size, k, none⟩) (by simp)).trans (hS0 k)
  have HB1 := Lib.hid ((HB0.out).trans (hb1.mono (HB0.out).size))
  clear hb1 hS0 HB0
  rw [H1.out]
  go_wp2
  all_goals go_ret
  all_goals refine ⟨ret_bool ?_, HB1.out⟩
  all_goals simp_all [userB, askB, H1.out, H2.out, HN.out, HK.out, nonE]

set_option maxRecDepth 100000 in
set_option maxHeartbeats 4000000 in
theorem user_kind0 (o : Obj) (w : World) (hf : o.Fits) (h1 : rightB o = true) (h2 : o.deleting = false) (x0 : o.version = 0) (x1 : o.born = 0) (x2 : o.num = 0) (x3 : o.tag = 0) (hk : o.kind ≠ 3 ∧ o.kind ≠ 4 ∧ o.kind ≠ 6 ∧ o.kind ≠ 7) :
    Calls Try.prog 13 #[.agg (cellsO o)] w fun e w' => e = .returned (.bool (userB o)) ∧ Below w.heap.size w w' := by
  have HF := Lib.hid hf
  clear hf
  have HB0 := Lib.hid ((Below.refl w.heap.size w).alloc (Nat.le_refl _) (.cells (cellsO o) 27))
  have hS0 : ∀ k, (w.alloc (.cells (cellsO o) 27)).cell? ⟨w.heap.size, k, none⟩ = (cellsO o)[k]? := cells_all heap_alloc_eq
  have H1 := Lib.hid h1
  have HN := Lib.hid (show newB o = true by simp [newB, x0, x1, x2, x3])
  have H2 := Lib.hid h2
  clear h1
  have z0 : (o.version == 0) = true := by simpa using x0
  have z1 : (o.born == 0) = true := by simpa using x1
  have z2 : (o.num == 0) = true := by simpa using x2
  have z3 : (o.tag == 0) = true := by simpa using x3
  clear x0 x1 x2 x3
  have HK := Lib.hid hk
  obtain ⟨k3, k4, k6, k7⟩ := hk
  have e3 : (o.kind == 3) = false := by simpa using k3
  have e4 : (o.kind == 4) = false := by simpa using k4
  have e6 : (o.kind == 6) = false := by simpa using k6
  have e7 : (o.kind == 7) = false := by simpa using k7
  clear k3 k4 k6 k7
  go_enter Try.func13, Try.ntmps13
  go_wp2_with (refine wpList_loadObj rfl _ rfl _ rfl o hS0 ?_)
  refine (right_any o _ HF.out).mono ?_
  rintro e w1 ⟨rfl, hb1⟩
  have hS1 : ∀ k, w1.cell? ⟨w.heap.size, k, none⟩ = (cellsO o)[k]? := fun k => (hb1.cell (p := ⟨w.heap.size, k, none⟩) (by simp)).trans (hS0 k)
  have HB1 := Lib.hid ((HB0.out).trans (hb1.mono (HB0.out).size))
  clear hb1 hS0 HB0
  rw [H1.out]
  go_wp2
  all_goals go_ret
  all_goals refine ⟨ret_bool ?_, HB1.out⟩
  all_goals simp_all [userB, askB, H1.out, H2.out, HN.out, HK.out, nonE]


theorem user_any (o : Obj) (w : World) (hf : o.Fits) : Calls Try.prog 13 #[.agg (cellsO o)] w fun e w' => e = .returned (.bool (userB o)) ∧ Below w.heap.size w w' := by
  rcases h1 : rightB o with _ | _
  · exact user_bad0 o w hf h1
  rcases h2 : o.deleting with _ | _
  rotate_left
  · exact user_bad1 o w hf h1 h2
  by_cases x0 : o.version = 0
  rotate_left
  · exact user_new0 o w hf h1 h2 x0
  by_cases x1 : o.born = 0
  rotate_left
  · exact user_new1 o w hf h1 h2 x0 x1
  by_cases x2 : o.num = 0
  rotate_left
  · exact user_new2 o w hf h1 h2 x0 x1 x2
  by_cases x3 : o.tag = 0
  rotate_left
  · exact user_new3 o w hf h1 h2 x0 x1 x2 x3
  by_cases k3 : o.kind = 3
  · exact user_kind3 o w hf h1 h2 x0 x1 x2 x3 k3
  by_cases k4 : o.kind = 4
  · exact user_kind4 o w hf h1 h2 x0 x1 x2 x3 k4
  by_cases k6 : o.kind = 6
  · exact user_kind6 o w hf h1 h2 x0 x1 x2 x3 k6
  by_cases k7 : o.kind = 7
  · exact user_kind7 o w hf h1 h2 x0 x1 x2 x3 k7
  exact user_kind0 o w hf h1 h2 x0 x1 x2 x3 ⟨k3, k4, k6, k7⟩

end Go.Proofs.Ytmhnccbjnlmjpaa
