/- Layer 3 (object): which objects are right, and which a user may make: the program answers as the document does. -/
import Derived.Test.YtmhnccbjnlmjpaaO15
import Derived.Test.YtmhnccbjnlmjpaaO27
namespace Go.Proofs.Ytmhnccbjnlmjpaa
open Go.RowKit
set_option linter.unusedVariables false
set_option linter.unusedSimpArgs false

namespace objectRights
open Go.ChangeShapes Go.WideShapes Go.ChangeAt
set_option maxRecDepth 100000 in
set_option maxHeartbeats 8000000 in
theorem walk (o : Obj) (w : World) (hf : o.Fits) : Calls Try.prog 3 #[.agg (cellsO o)] w fun e w' => e = .returned (.bool true) ∧ Below w.heap.size w w' := by
  have HF := Lib.hid hf
  clear hf
  have hS0 : ∀ k, (w.alloc (.cells (cellsO o) 27)).cell? ⟨w.heap.size, k, none⟩ = (cellsO o)[k]? := cells_all heap_alloc_eq
  have HX0 := Lib.hid (show BoxO w (w.alloc (.cells (cellsO o) 27)) o from ⟨hS0, by simp, (Below.refl w.heap.size w).alloc (Nat.le_refl _) _⟩)
  have HX := Lib.hid (HX0.out.next (Below.refl _ _).drew)
  clear HX0 hS0
  obtain ⟨r, hr⟩ : ∃ r, rightB o = r := ⟨_, rfl⟩
  obtain ⟨u, hu⟩ : ∃ u, userB o = u := ⟨_, rfl⟩
  have HR := Lib.hid hr
  have HU := Lib.hid hu
  clear hr hu
  cases r
  all_goals
    cases u
    all_goals
      go_enter Try.func3, Try.ntmps3
      go_upto_region 1 with fail
      generalize w.alloc (.cells (cellsO o) 27) = W at *
      have hcur := HX.out
      refine wp_region_tree (fun w' => (∀ k, w'.cell? ⟨w.heap.size, k, none⟩ = (cellsO o)[k]?)) (.a 0 (.t 1 (.t 2 (.t 4 (.a 3 (.a 5 (.t 6 (.t 7 (.t 8 (.t 9 (.t 11 (.a 10 (.a 12 (.t 13 (.t 14 (.t 15 .nil)))))))))))))))) (by kernel_rfl) (by kernel_rfl) (by kernel_rfl) ?_ ?_
      · exact (by exact hcur.c)
      refine wpT_alone rfl ?_
      focus (go_wp2_with fail; refine (live_any _).mono ?_; rintro e w2 ⟨rfl, hb2⟩; have hcur := hcur.next hb2; clear hb2; go_wp2)
      refine QS_normal (by exact hcur.c) (fun _ => ?_)
      apply wpT_takeK rfl _ (by first | rfl | (simp [Region.wanted, yielded]; done))
      · intro w' hS
        have s0 := hS
        clear hS
        go_simp
        try rfl
      intro K hK
      go_simp
      refine hK _ ?_
      clear hK K
      refine wpT_takeK rfl (.agg (cellsO o)) (by first | rfl | (simp [Region.wanted, yielded]; done)) ?_ ?_
      · intro w' hS
        have s0 := hS
        exact exec_loadObj _ rfl rfl s0
      intro K hK
      go_simp
      refine hK _ ?_
      clear hK K
      refine wpT_takeK rfl (.agg (cellsO o)) (by first | rfl | (simp [Region.wanted, yielded]; done)) ?_ ?_
      · intro w' hS
        have s0 := hS
        exact exec_loadObj _ rfl rfl s0
      intro K hK
      go_simp
      refine hK _ ?_
      clear hK K
      refine wpT_alone rfl ?_
      focus (go_wp2_with fail; refine (right_any o _ HF.out).mono ?_; rintro e w3 ⟨rfl, hb3⟩; have hcur := hcur.next hb3; clear hb3; rw [HR.out]; go_wp2)
      refine QS_normal (by exact hcur.c) (fun _ => ?_)
      refine wpT_alone rfl ?_
      focus (go_wp2_with fail; refine (rightR_any o _ HF.out).mono ?_; rintro e w4 ⟨rfl, hb4⟩; have hcur := hcur.next hb4; clear hb4; rw [HR.out]; go_wp2)
      refine QS_normal (by exact hcur.c) (fun _ => ?_)
      apply wpT_takeK rfl _ (by first | rfl | (simp [Region.wanted, yielded]; done))
      · intro w' hS
        have s0 := hS
        clear hS
        go_simp
        try rfl
      intro K hK
      go_simp
      refine hK _ ?_
      clear hK K
      apply wpT_takeK rfl _ (by first | rfl | (simp [Region.wanted, yielded]; done))
      · intro w' hS
        have s0 := hS
        clear hS
        go_simp
        try rfl
      intro K hK
      go_simp
      refine hK _ ?_
      clear hK K
      apply wpT_takeK rfl _ (by first | rfl | (simp [Region.wanted, yielded]; done))
      · intro w' hS
        have s0 := hS
        clear hS
        go_simp
        try rfl
      intro K hK
      go_simp
      refine hK _ ?_
      clear hK K
      refine wpT_takeK rfl (.agg (cellsO o)) (by first | rfl | (simp [Region.wanted, yielded]; done)) ?_ ?_
      · intro w' hS
        have s0 := hS
        exact exec_loadObj _ rfl rfl s0
      intro K hK
      go_simp
      refine hK _ ?_
      clear hK K
      refine wpT_takeK rfl (.agg (cellsO o)) (by first | rfl | (simp [Region.wanted, yielded]; done)) ?_ ?_
      · intro w' hS
        have s0 := hS
        exact exec_loadObj _ rfl rfl s0
      intro K hK
      go_simp
      refine hK _ ?_
      clear hK K
      refine wpT_alone rfl ?_
      focus (go_wp2_with fail; refine (user_any o _ HF.out).mono ?_; rintro e w5 ⟨rfl, hb5⟩; have hcur := hcur.next hb5; clear hb5; rw [HU.out]; go_wp2)
      refine QS_normal (by exact hcur.c) (fun _ => ?_)
      refine wpT_alone rfl ?_
      focus (go_wp2_with fail; refine (userR_any o _ HF.out).mono ?_; rintro e w6 ⟨rfl, hb6⟩; have hcur := hcur.next hb6; clear hb6; rw [HU.out]; go_wp2)
      refine QS_normal (by exact hcur.c) (fun _ => ?_)
      apply wpT_takeK rfl _ (by first | rfl | (simp [Region.wanted, yielded]; done))
      · intro w' hS
        have s0 := hS
        clear hS
        go_simp
        try rfl
      intro K hK
      go_simp
      refine hK _ ?_
      clear hK K
      apply wpT_takeK rfl _ (by first | rfl | (simp [Region.wanted, yielded]; done))
      · intro w' hS
        have s0 := hS
        clear hS
        go_simp
        try rfl
      intro K hK
      go_simp
      refine hK _ ?_
      clear hK K
      apply wpT_takeK rfl _ (by first | rfl | (simp [Region.wanted, yielded]; done))
      · intro w' hS
        have s0 := hS
        clear hS
        go_simp
        try rfl
      intro K hK
      go_simp
      refine hK _ ?_
      clear hK K
      refine wpT_end ?_
      go_wp2
      go_ret
      exact ⟨rfl, hcur.b⟩

--ROW
theorem own : ownKnob Try.prog.godebug = none := by kernel_rfl
theorem laidOut : laidOutB Try.prog = true := by kernel_rfl
set_option maxRecDepth 100000 in
theorem lifted (os : Os) (started : os.Started) (H : Type) (enc : TypeId × Value → H) :
    ReturnsInHanded {} Try.checked os 3 .any (Rows.objectRightsSpec.pre6 enc Try.prog Try.f3 Rows.objectRightsRow.domain false) (Rows.objectRightsSpec.post enc Try.prog Try.f3 false true false false) := by
  refine returnsInHanded_of_change (C := Try.checked) own started (by kernel_rfl) Try.func3
    (ChangeSpec.witness6 (enc := enc) (C := Try.checked) false ⟨#[], #[.agg #[.int .u8 0, .string ByteArray.empty, .int .u64 0, .int .u64 0, .bool false, .bool false, .string ByteArray.empty, .int .i64 0, .int .i64 0, .int .u8 0, .bool false, .bool false, .string ByteArray.empty, .string ByteArray.empty, .string ByteArray.empty, .string ByteArray.empty, .string ByteArray.empty, .int .u8 0, .int .u64 0, .int .u64 0]], []⟩ 8 (by kernel_rfl) (by kernel_rfl) (by kernel_rfl) (by kernel_rfl)) ?_
  intro W base args ds gs before hval0 hW _ _
  have hval : ∀ (j : Nat) t v, Try.f3.params[j]? = some t → args[j]? = some v → Value.okWide Try.prog W .any base t v := hval0
  have hW' := hW
  obtain ⟨p, q, hA0, hV, rfl, hfz, hnd⟩ := hW
  have hA : DataW.TrodAll enc Try.prog W 0 (fun _ => true) true Try.f3.params.toList args.toList ds p := hA0
  rw [Try.params3] at hA hval
  obtain ⟨v0, vs0, d0, ds0, p0, q0, hargs, rfl, rfl, h0, r0⟩ := trodAll_cons hA
  obtain ⟨rfl, rfl, rfl⟩ := trodAll_nil r0
  obtain rfl : args = #[v0] := by cases args; simp_all
  obtain ⟨rfl, rfl⟩ := trodVars_none hV
  have hv0 := hval 0 27 v0 rfl rfl
  simp only [Value.okWide, Try.underlying27] at hv0
  obtain ⟨cs0, rfl, _, _⟩ := hv0
  obtain ⟨fuel0, hf0⟩ := h0
  obtain ⟨o0, e0, ft0, wf0⟩ := open_obj hf0
  obtain rfl : cs0 = cellsO o0 := by
    apply Array.toList_inj.1
    simpa [Value.cells] using e0
  clear hA0
  refine (walk o0 W ft0).mono fun e W' ⟨he, hb⟩ => ?_
  subst he
  exact ⟨_, rfl, law_post rfl hW' laidOut (by rw [Try.params3]; simp only [List.mem_cons, List.not_mem_nil, or_false]; rintro t rfl <;> exact ⟨by kernel_rfl, of_decide_eq_true (by kernel_rfl)⟩) (by kernel_rfl) Try.underlying4 rfl hb⟩

theorem over : Rows.objectRightsRow.holds Try.pinned (OpenSpec.ofChange Rows.objectRightsSpec) :=
  OpenClaim.holds_of_wide 3 Try.f3 rfl rfl rfl rfl rfl rfl rfl ⟨rfl, rfl, rfl, rfl, rfl⟩ rfl rfl rfl rfl rfl (by kernel_rfl) Try.func3 (by kernel_rfl)
    (of_decide_eq_true (by kernel_rfl)) (by unfold Func.isWrapper; first | (rw [if_pos (by decide +kernel)]; kernel_rfl) | (rw [if_neg (by decide +kernel)]; exact ⟨rfl, rfl⟩))
    (fun os started H enc _ => lifted os started H enc)
theorem proved : Rows.ObjectRightsSaid := over
end objectRights
theorem objectRights_holds : Rows.ObjectRightsSaid := objectRights.proved
#print axioms objectRights_holds

end Go.Proofs.Ytmhnccbjnlmjpaa
