/- wharfingerlaw03.ObjectLess answers true for every three keys, and its argument reads as before. No condition. -/
import Derived.Test.YtmhnccbjnlmjpaaM1
import Derived.Test.YtmhnccbjnlmjpaaP19
import Derived.Test.YtmhnccbjnlmjpaaM2
import Derived.Test.YtmhnccbjnlmjpaaM3
import Derived.Test.YtmhnccbjnlmjpaaM4
import Derived.Test.YtmhnccbjnlmjpaaM5
import Derived.Test.YtmhnccbjnlmjpaaM6
import Derived.Test.YtmhnccbjnlmjpaaM7
namespace Go.Proofs.Ytmhnccbjnlmjpaa
open Go.RowKit
set_option linter.unusedVariables false
set_option linter.unusedSimpArgs false
namespace objectLess
open Go.ChangeShapes Go.WideShapes Go.ChangeAt
theorem walk (a b c : K) (w : World) : Calls Try.prog 9 #[.agg #[.int .u8 a.k, .string a.n, .int .u8 b.k, .string b.n, .int .u8 c.k, .string c.n]] w fun e w' => e = .returned (.bool true) ∧ Below w.heap.size w w' := by
  cases hab : ltK a b with
  | true =>
    have hba := ltK_asymm hab
    cases hbc : ltK b c with
    | true =>
      have hac := ltK_trans hab hbc
      rcases ltK_ne hab with p1 | ⟨p1, p2⟩
      · exact walkTTk a b c w hab hba hbc hac p1
      · exact walkTTn a b c w hab hba hbc hac p1 p2
    | false =>
      rcases ltK_ne hab with p1 | ⟨p1, p2⟩
      · exact walkTFk a b c w hab hba hbc p1
      · exact walkTFn a b c w hab hba hbc p1 p2
  | false =>
    cases hba : ltK b a with
    | true =>
      rcases ltK_ne hba with p1 | ⟨p1, p2⟩
      · exact walkFTk a b c w hab hba (fun e => p1 e.symm)
      · exact walkFTn a b c w hab hba p1.symm (fun e => p2 e.symm)
    | false =>
      obtain ⟨p1, p2⟩ := ltK_total hab hba
      exact walkFF a b c w hab hba p1 p2

--ROW
theorem own : ownKnob Try.prog.godebug = none := by kernel_rfl
theorem laidOut : laidOutB Try.prog = true := by kernel_rfl
set_option maxRecDepth 100000 in
theorem lifted (os : Os) (started : os.Started) (H : Type) (enc : TypeId × Value → H) :
    ReturnsInHanded {} Try.checked os 9 .any (Rows.objectLessSpec.pre6 enc Try.prog Try.f9 Rows.objectLessRow.domain false) (Rows.objectLessSpec.post enc Try.prog Try.f9 false true false false) := by
  refine returnsInHanded_of_change (C := Try.checked) own started (by kernel_rfl) Try.func9
    (ChangeSpec.witness6 (enc := enc) (C := Try.checked) false ⟨#[], #[.agg #[.int .u8 0, .string ByteArray.empty, .int .u8 0, .string ByteArray.empty, .int .u8 0, .string ByteArray.empty]], []⟩ 8 (by kernel_rfl) (by kernel_rfl) (by kernel_rfl) (by kernel_rfl)) ?_
  intro W base args ds gs before hval0 hW _ _
  have hval : ∀ (j : Nat) t v, Try.f9.params[j]? = some t → args[j]? = some v → Value.okWide Try.prog W .any base t v := hval0
  have hW' := hW
  obtain ⟨p, q, hA0, hV, rfl, hfz, hnd⟩ := hW
  have hA : DataW.TrodAll enc Try.prog W 0 (fun _ => true) true Try.f9.params.toList args.toList ds p := hA0
  rw [Try.params9] at hA hval
  obtain ⟨v0, vs0, d0, ds0, p0, q0, hargs, rfl, rfl, h0, r0⟩ := trodAll_cons hA
  obtain ⟨rfl, rfl, rfl⟩ := trodAll_nil r0
  obtain rfl : args = #[v0] := by cases args; simp_all
  obtain ⟨rfl, rfl⟩ := trodVars_none hV
  have hv0 := hval 0 39 v0 rfl rfl
  simp only [Value.okWide, Try.underlying39] at hv0
  obtain ⟨cs0, rfl, _, _⟩ := hv0
  obtain ⟨fuel0, hf0⟩ := h0
  obtain ⟨a, b, c, e0⟩ := open_keys3 hf0
  obtain rfl : cs0 = #[.int .u8 a.k, .string a.n, .int .u8 b.k, .string b.n, .int .u8 c.k, .string c.n] := by
    apply Array.toList_inj.1
    simpa [Value.cells] using e0
  clear hA0
  refine (walk a b c W).mono fun e W' ⟨he, hb⟩ => ?_
  subst he
  exact ⟨_, rfl, law_post rfl hW' laidOut (by rw [Try.params9]; simp only [List.mem_cons, List.not_mem_nil, or_false]; rintro t rfl <;> exact ⟨by kernel_rfl, of_decide_eq_true (by kernel_rfl)⟩) (by kernel_rfl) Try.underlying4 rfl hb⟩

theorem over : Rows.objectLessRow.holds Try.pinned (OpenSpec.ofChange Rows.objectLessSpec) :=
  OpenClaim.holds_of_wide 9 Try.f9 rfl rfl rfl rfl rfl rfl rfl ⟨rfl, rfl, rfl, rfl, rfl⟩ rfl rfl rfl rfl rfl (by kernel_rfl) Try.func9 (by kernel_rfl)
    (of_decide_eq_true (by kernel_rfl)) (by unfold Func.isWrapper; first | (rw [if_pos (by decide +kernel)]; kernel_rfl) | (rw [if_neg (by decide +kernel)]; exact ⟨rfl, rfl⟩))
    (fun os started H enc _ => lifted os started H enc)
theorem proved : Rows.ObjectLessSaid := over
end objectLess
theorem objectLess_holds : Rows.ObjectLessSaid := objectLess.proved
#print axioms objectLess_holds

end Go.Proofs.Ytmhnccbjnlmjpaa
