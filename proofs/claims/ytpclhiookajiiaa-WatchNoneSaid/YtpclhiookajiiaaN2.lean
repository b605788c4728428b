/- wharfingerlaw07.WatchNone answers true at every input, and its arguments read as before. No condition. -/
import Derived.Test.YtpclhiookajiiaaN1
import Derived.Test.YtpclhiookajiiaaOpen
import Derived.Test.YtpclhiookajiiaaLaw
import Derived.RowKit
namespace Go.Proofs.Ytpclhiookajiiaa
open Go.RowKit
set_option linter.unusedVariables false
set_option linter.unusedSimpArgs false

namespace watchNone
open Go.ChangeShapes Go.WideShapes Go.ChangeAt Go.RowKit

theorem own : ownKnob Try.prog.godebug = none := by kernel_rfl
theorem laidOut : laidOutB Try.prog = true := by kernel_rfl
set_option maxRecDepth 100000 in
theorem lifted (os : Os) (started : os.Started) (H : Type) (enc : TypeId × Value → H) :
    ReturnsInHanded {} Try.checked os 5 .any (Rows.watchNoneSpec.pre6 enc Try.prog Try.f5 Rows.watchNoneRow.domain false) (Rows.watchNoneSpec.post enc Try.prog Try.f5 false true false false) := by
  refine returnsInHanded_of_change (C := Try.checked) own started (by kernel_rfl) Try.func5
    (ChangeSpec.witness6 (enc := enc) (C := Try.checked) false ⟨#[], #[.agg #[.int .i64 0, .bool false, .slice none 0 0, .slice none 0 0, .int .u64 0], .agg #[.int .u8 0, .string ByteArray.empty]], []⟩ 8 (by kernel_rfl) (by kernel_rfl) (by kernel_rfl) (by kernel_rfl)) ?_
  intro W base args ds gs before hval0 hW _ _
  have hval : ∀ (j : Nat) t v, Try.f5.params[j]? = some t → args[j]? = some v → Value.okWide Try.prog W .any base t v := hval0
  have hW' := hW
  obtain ⟨p, q, hA0, hV, rfl, hfz, hnd⟩ := hW
  have hA : DataW.TrodAll enc Try.prog W 0 (fun _ => true) true Try.f5.params.toList args.toList ds p := hA0
  rw [Try.params5] at hA hval
  obtain ⟨v0, vs0, d0, ds0, p0, q0, hargs, rfl, rfl, h0, r0⟩ := trodAll_cons hA
  obtain ⟨v1, vs1, d1, ds1, p1, q1, rfl, rfl, rfl, h1, r1⟩ := trodAll_cons r0
  obtain ⟨rfl, rfl, rfl⟩ := trodAll_nil r1
  obtain rfl : args = #[v0, v1] := by cases args; simp_all
  obtain ⟨rfl, rfl⟩ := trodVars_none hV
  have hvk0 := hval 0 65 v0 rfl rfl
  simp only [Value.okWide, Try.underlying65] at hvk0
  obtain ⟨kc0, rfl, _, _⟩ := hvk0
  obtain ⟨fuel0, hf0⟩ := h0
  obtain ⟨d01, d02, d03, d04, d05, d06, d07, d08, d09, ek0⟩ := open_deed7 hf0
  obtain rfl : kc0 = #[.int .i64 d01, .bool d02, .slice d03 d05 d06, .slice d04 d07 d08, .int .u64 d09] := by
    apply Array.toList_inj.1
    simpa [Value.cells] using ek0
  have hvk1 := hval 1 45 v1 rfl rfl
  simp only [Value.okWide, Try.underlying45] at hvk1
  obtain ⟨kc1, rfl, _, _⟩ := hvk1
  obtain ⟨fuel1, hf1⟩ := h1
  obtain ⟨k1, ek1, wk1⟩ := open_key hf1
  obtain rfl : kc1 = #[.int .u8 k1.kind, .string k1.name] := by
    apply Array.toList_inj.1
    simpa [Value.cells] using ek1
  clear hA0
  refine (none_walk _ _ _ _ _ _ _ _ _ _ W).mono fun e W' ⟨he, hb⟩ => ?_
  subst he
  exact ⟨_, rfl, law_post rfl hW' laidOut (by rw [Try.params5]; simp only [List.mem_cons, List.not_mem_nil, or_false]; rintro t (rfl | rfl) <;> exact ⟨by kernel_rfl, of_decide_eq_true (by kernel_rfl)⟩) (by kernel_rfl) Try.underlying4 rfl hb⟩

theorem over : Rows.watchNoneRow.holds Try.pinned (OpenSpec.ofChange Rows.watchNoneSpec) :=
  OpenClaim.holds_of_wide 5 Try.f5 rfl rfl rfl rfl rfl rfl rfl ⟨rfl, rfl, rfl, rfl, rfl⟩ rfl rfl rfl rfl rfl (by kernel_rfl) Try.func5 (by kernel_rfl)
    (of_decide_eq_true (by kernel_rfl)) (by unfold Func.isWrapper; first | (rw [if_pos (by decide +kernel)]; kernel_rfl) | (rw [if_neg (by decide +kernel)]; exact ⟨rfl, rfl⟩))
    (fun os started H enc _ => lifted os started H enc)
theorem proved : Rows.WatchNoneSaid := over
end watchNone
theorem watchNone_holds : Rows.WatchNoneSaid := watchNone.proved
#print axioms watchNone_holds


end Go.Proofs.Ytpclhiookajiiaa
