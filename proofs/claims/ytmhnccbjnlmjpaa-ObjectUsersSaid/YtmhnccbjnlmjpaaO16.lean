/- Layer 3 (object): what a user may make is right, and new. -/
import Derived.Test.YtmhnccbjnlmjpaaO15
namespace Go.Proofs.Ytmhnccbjnlmjpaa
open Go.RowKit
set_option linter.unusedVariables false
set_option linter.unusedSimpArgs false

theorem rest_volume {o : Obj} (h : restO o = bareO o.kind) (hk : o.kind ≠ 3 ∧ o.kind ≠ 5 ∧ o.kind ≠ 7) : o.volume = noText := by
  obtain ⟨h3, h5, h7⟩ := hk
  have := congrArg Obj.volume h
  simp only [restO, bareO] at this
  repeat' split at this
  all_goals first | exact this | contradiction
theorem rest_node {o : Obj} (h : restO o = bareO o.kind) (hk : o.kind ≠ 3 ∧ o.kind ≠ 5 ∧ o.kind ≠ 6) : o.node = noText := by
  obtain ⟨h3, h5, h7⟩ := hk
  have := congrArg Obj.node h
  simp only [restO, bareO] at this
  repeat' split at this
  all_goals first | exact this | contradiction

theorem user_plain {o : Obj} (h : userB o = true) : rightB o = true ∧ o.version = 0 ∧ o.born = 0 ∧ o.deleting = false ∧ o.num = 0 ∧ o.tag = 0 ∧ o.kind ≠ 5 ∧ o.volume.toList = [] ∧ o.node.toList = [] := by
  simp only [userB, newB, Bool.and_eq_true, decide_eq_true_eq, Bool.not_eq_true'] at h
  obtain ⟨⟨⟨hr, hd⟩, ⟨⟨hv, hb⟩, hn⟩, ht⟩, ha⟩ := h
  have hr0 := hr
  simp only [rightB, formB, Bool.and_eq_true, decide_eq_true_eq] at hr
  obtain ⟨⟨⟨⟨⟨_, hrest⟩, _⟩, _⟩, _⟩, hk⟩ := hr
  have e0 : noText.toList = [] := by decide +kernel
  have happ : ∀ a b : ByteArray, (a ++ b).toList = [] → a.toList = [] := by
    intro a b h
    rw [ByteArray.toList_eq] at h ⊢
    simp at h
    simp [h.1]
  refine ⟨hr0, hv, hb, hd, hn, ht, ?_, ?_, ?_⟩
  · intro h5
    simp [askB, h5] at ha
  · by_cases k3 : o.kind = 3
    · simp [askB, k3, nonE] at ha
      simp [kindB, k3, nonE, ha] at hk
      exact hk.2
    by_cases k5 : o.kind = 5
    · simp [askB, k5] at ha
    by_cases k7 : o.kind = 7
    · simp [askB, k7, nonE] at ha
      exact ha.1.2
    rw [rest_volume hrest ⟨k3, k5, k7⟩, e0]
  · by_cases k3 : o.kind = 3
    · simp [askB, k3, nonE] at ha
      exact happ _ _ ha.1.2
    by_cases k5 : o.kind = 5
    · simp [askB, k5] at ha
    by_cases k6 : o.kind = 6
    · simp [askB, k6, nonE] at ha
      exact ha
    rw [rest_node hrest ⟨k3, k5, k6⟩, e0]

namespace objectUsers
open Go.ChangeShapes Go.WideShapes Go.ChangeAt
set_option maxRecDepth 100000 in
set_option maxHeartbeats 4000000 in
theorem walk (o : Obj) (w : World) (hf : o.Fits) : Calls Try.prog 5 #[.agg (cellsO o)] w fun e w' => e = .returned (.bool true) ∧ Below w.heap.size w w' := by
  have HF := Lib.hid hf
  clear hf
  have hS0 : ∀ k, (w.alloc (.cells (cellsO o) 27)).cell? ⟨w.heap.size, k, none⟩ = (cellsO o)[k]? := cells_all heap_alloc_eq
  have HB0 := Lib.hid ((Below.refl w.heap.size w).alloc (Nat.le_refl _) (.cells (cellsO o) 27))
  cases hu : userB o with
  | false =>
    have HU := Lib.hid hu
    clear hu
    go_enter Try.func5, Try.ntmps5
    go_wp2_with (refine wpList_loadObj rfl _ rfl _ rfl o hS0 ?_)
    refine (user_any o _ HF.out).mono ?_
    rintro e w1 ⟨rfl, hb1⟩
    have HB1 := Lib.hid ((HB0.out).trans (hb1.mono (HB0.out).size))
    clear hb1 hS0 HB0
    rw [HU.out]
    go_wp2_with fail
    refine (live_any _).mono ?_
    rintro e w2 ⟨rfl, hb2⟩
    have HB2 := Lib.hid ((HB1.out).trans (hb2.mono (HB1.out).size))
    clear hb2 HB1
    go_wp2
    go_ret
    exact ⟨rfl, HB2.out⟩
  | true =>
    obtain ⟨hr, f1, f2, f3, f4, f5, f6, f7, f8⟩ := user_plain hu
    have HU := Lib.hid hu
    have HR := Lib.hid hr
    have g6 : (o.kind != 5) = true := by simpa using f6
    have g6' : (o.kind == 5) = false := by simpa using f6
    have g7 : (o.volume.toList == []) = true := by simp [f7]
    have g8 : (o.node.toList == []) = true := by simp [f8]
    have g1 : (o.version == 0) = true := by simp [f1]
    have g2 : (o.born == 0) = true := by simp [f2]
    have g4 : (o.num == 0) = true := by simp [f4]
    have g5 : (o.tag == 0) = true := by simp [f5]
    clear hu hr f1 f2 f4 f5 f6 f7 f8
    go_enter Try.func5, Try.ntmps5
    go_wp2_with (refine wpList_loadObj rfl _ rfl _ rfl o hS0 ?_)
    refine (user_any o _ HF.out).mono ?_
    rintro e w1 ⟨rfl, hb1⟩
    have HB1 := Lib.hid ((HB0.out).trans (hb1.mono (HB0.out).size))
    have hS1 : ∀ k, w1.cell? ⟨w.heap.size, k, none⟩ = (cellsO o)[k]? := fun k => (hb1.cell (p := ⟨w.heap.size, k, none⟩) (by simp)).trans (hS0 k)
    have hl1 : w.heap.size < w1.heap.size := Nat.lt_of_lt_of_le (by simp) hb1.size
    clear hb1 hS0 HB0
    rw [HU.out]
    go_wp2_with fail
    refine (live_any _).mono ?_
    rintro e w2 ⟨rfl, hb2⟩
    have HB2 := Lib.hid ((HB1.out).trans (hb2.mono (HB1.out).size))
    have hS2 : ∀ k, w2.cell? ⟨w.heap.size, k, none⟩ = (cellsO o)[k]? := fun k => (hb2.cell (p := ⟨w.heap.size, k, none⟩) hl1).trans (hS1 k)
    have hl2 : w.heap.size < w2.heap.size := Nat.lt_of_lt_of_le hl1 hb2.size
    clear hb2 HB1 hS1 hl1
    go_wp2_with (refine wpList_loadObjG rfl _ rfl _ rfl o hS2 ?_)
    refine (right_any o _ HF.out).mono ?_
    rintro e w3 ⟨rfl, hb3⟩
    have HB3 := Lib.hid ((HB2.out).trans (hb3.mono (HB2.out).size))
    have hS3 : ∀ k, w3.cell? ⟨w.heap.size, k, none⟩ = (cellsO o)[k]? := fun k => (hb3.cell (p := ⟨w.heap.size, k, none⟩) hl2).trans (hS2 k)
    clear hb3 HB2 hS2 hl2
    rw [HR.out]
    go_wp2
    all_goals go_ret
    all_goals exact ⟨ret_bool (by simp_all), HB3.out⟩

--ROW
theorem own : ownKnob Try.prog.godebug = none := by kernel_rfl
theorem laidOut : laidOutB Try.prog = true := by kernel_rfl
set_option maxRecDepth 100000 in
theorem lifted (os : Os) (started : os.Started) (H : Type) (enc : TypeId × Value → H) :
    ReturnsInHanded {} Try.checked os 5 .any (Rows.objectUsersSpec.pre6 enc Try.prog Try.f5 Rows.objectUsersRow.domain false) (Rows.objectUsersSpec.post enc Try.prog Try.f5 false true false false) := by
  refine returnsInHanded_of_change (C := Try.checked) own started (by kernel_rfl) Try.func5
    (ChangeSpec.witness6 (enc := enc) (C := Try.checked) false ⟨#[], #[.agg #[.int .u8 0, .string ByteArray.empty, .int .u64 0, .int .u64 0, .bool false, .bool false, .string ByteArray.empty, .int .i64 0, .int .i64 0, .int .u8 0, .bool false, .bool false, .string ByteArray.empty, .string ByteArray.empty, .string ByteArray.empty, .string ByteArray.empty, .string ByteArray.empty, .int .u8 0, .int .u64 0, .int .u64 0]], []⟩ 8 (by kernel_rfl) (by kernel_rfl) (by kernel_rfl) (by kernel_rfl)) ?_
  intro W base args ds gs before hval0 hW _ _
  have hval : ∀ (j : Nat) t v, Try.f5.params[j]? = some t → args[j]? = some v → Value.okWide Try.prog W .any base t v := hval0
  have hW' := hW
  obtain ⟨p, q, hA0, hV, rfl, hfz, hnd⟩ := hW
  have hA : DataW.TrodAll enc Try.prog W 0 (fun _ => true) true Try.f5.params.toList args.toList ds p := hA0
  rw [Try.params5] at hA hval
  obtain ⟨v0, vs0, d0, ds0, p0, q0, hargs, rfl, rfl, h0, r0⟩ := trodAll_cons hA
  obtain ⟨rfl, rfl, rfl⟩ := trodAll_nil r0
  obtain rfl : args = #[v0] := by cases args; simp_all
  obtain ⟨rfl, rfl⟩ := trodVars_none hV
  have hv0 := hval 0 27 v0 rfl rfl
  simp only [Value.okWide, Try.underlying27] at hv0
  obtain ⟨cs0, rfl, _, _⟩ := hv0
  obtain ⟨fuel0, hf0⟩ := h0
  obtain ⟨o0, e0, ft0, wf0⟩ := open_obj hf0
  obtain rfl : cs0 = cellsO o0 := by
    apply Array.toList_inj.1
    simpa [Value.cells] using e0
  clear hA0
  refine (walk o0 W ft0).mono fun e W' ⟨he, hb⟩ => ?_
  subst he
  exact ⟨_, rfl, law_post rfl hW' laidOut (by rw [Try.params5]; simp only [List.mem_cons, List.not_mem_nil, or_false]; rintro t rfl <;> exact ⟨by kernel_rfl, of_decide_eq_true (by kernel_rfl)⟩) (by kernel_rfl) Try.underlying4 rfl hb⟩

theorem over : Rows.objectUsersRow.holds Try.pinned (OpenSpec.ofChange Rows.objectUsersSpec) :=
  OpenClaim.holds_of_wide 5 Try.f5 rfl rfl rfl rfl rfl rfl rfl ⟨rfl, rfl, rfl, rfl, rfl⟩ rfl rfl rfl rfl rfl (by kernel_rfl) Try.func5 (by kernel_rfl)
    (of_decide_eq_true (by kernel_rfl)) (by unfold Func.isWrapper; first | (rw [if_pos (by decide +kernel)]; kernel_rfl) | (rw [if_neg (by decide +kernel)]; exact ⟨rfl, rfl⟩))
    (fun os started H enc _ => lifted os started H enc)
theorem proved : Rows.ObjectUsersSaid := over
end objectUsers
theorem objectUsers_holds : Rows.ObjectUsersSaid := objectUsers.proved
#print axioms objectUsers_holds

end Go.Proofs.Ytmhnccbjnlmjpaa
