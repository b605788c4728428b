/- wharfingerlaw04.CodecCuts answers true at every input, and its arguments read as before. No condition. -/
import Derived.Test.YtgplolfkfhhddaaD9
import Derived.Test.YtgplolfkfhhddaaOpen1
import Derived.Test.YtgplolfkfhhddaaK3
import Derived.RowKit
namespace Go.Proofs.Ytgplolfkfhhddaa
open Go.RowKit
set_option linter.unusedVariables false
set_option linter.unusedSimpArgs false
namespace codecCuts
open Go.ChangeShapes Go.WideShapes Go.ChangeAt Go.RowKit

theorem own : ownKnob Try.prog.godebug = none := by kernel_rfl
theorem laidOut : laidOutB Try.prog = true := by kernel_rfl
set_option maxRecDepth 100000 in
theorem lifted (os : Os) (started : os.Started) (H : Type) (enc : TypeId × Value → H) :
    ReturnsInHanded {} Try.checked os 9 .any (Rows.codecCutsSpec.pre6 enc Try.prog Try.f9 Rows.codecCutsRow.domain false) (Rows.codecCutsSpec.post enc Try.prog Try.f9 false true false false) := by
  refine returnsInHanded_of_change (C := Try.checked) own started (by kernel_rfl) Try.func9
    (ChangeSpec.witness6 (enc := enc) (C := Try.checked) false ⟨#[], #[.agg #[.int .u64 0, .bool false, .int .u8 0, .string ByteArray.empty, .int .u64 0, .int .u64 0, .bool false, .bool false, .string ByteArray.empty, .int .i64 0, .int .i64 0, .int .u8 0, .bool false, .bool false, .string ByteArray.empty, .string ByteArray.empty, .string ByteArray.empty, .string ByteArray.empty, .string ByteArray.empty, .int .u8 0, .int .u64 0, .int .u64 0], .int .u16 0], []⟩ 8 (by kernel_rfl) (by kernel_rfl) (by kernel_rfl) (by kernel_rfl)) ?_
  intro W base args ds gs before hval0 hW _ _
  have hval : ∀ (j : Nat) t v, Try.f9.params[j]? = some t → args[j]? = some v → Value.okWide Try.prog W .any base t v := hval0
  have hW' := hW
  obtain ⟨p, q, hA0, hV, rfl, hfz, hnd⟩ := hW
  have hA : DataW.TrodAll enc Try.prog W 0 (fun _ => true) true Try.f9.params.toList args.toList ds p := hA0
  rw [Try.params9] at hA hval
  obtain ⟨v0, vs0, d0, ds0, p0, q0, hargs, rfl, rfl, h0, r0⟩ := trodAll_cons hA
  obtain ⟨v1, vs1, d1, ds1, p1, q1, rfl, rfl, rfl, h1, r1⟩ := trodAll_cons r0
  obtain ⟨rfl, rfl, rfl⟩ := trodAll_nil r1
  obtain rfl : args = #[v0, v1] := by cases args; simp_all
  obtain ⟨rfl, rfl⟩ := trodVars_none hV
  have hv0 := hval 0 39 v0 rfl rfl
  simp only [Value.okWide, Try.underlying39] at hv0
  obtain ⟨cs0, rfl, _, _⟩ := hv0
  obtain ⟨fuel0, hf0⟩ := h0
  obtain ⟨o0, e0, ft0, ty0⟩ := open_ev hf0
  obtain rfl : cs0 = cellsEv o0 := by
    apply Array.toList_inj.1
    simpa [Value.cells] using e0
  obtain ⟨n1, rfl, rfl, rfl, wf1⟩ := open_int Try.underlying46 (hval 1 46 v1 rfl rfl) h1
  have wb1 := wf1
  simp [Lit.wf, IntKind.min, IntKind.max, IntKind.signed, IntKind.bits] at wb1
  clear hA0
  refine (cuts_walk_int o0 n1 W ty0 ft0 (by omega)).mono fun e W' ⟨he, hb⟩ => ?_
  subst he
  exact ⟨_, rfl, law_post rfl hW' laidOut (by rw [Try.params9]; simp only [List.mem_cons, List.not_mem_nil, or_false]; rintro t (rfl | rfl) <;> exact ⟨by kernel_rfl, of_decide_eq_true (by kernel_rfl)⟩) (by kernel_rfl) Try.underlying4 rfl hb⟩

theorem over : Rows.codecCutsRow.holds Try.pinned (OpenSpec.ofChange Rows.codecCutsSpec) :=
  OpenClaim.holds_of_wide 9 Try.f9 rfl rfl rfl rfl rfl rfl rfl ⟨rfl, rfl, rfl, rfl, rfl⟩ rfl rfl rfl rfl rfl (by kernel_rfl) Try.func9 (by kernel_rfl)
    (of_decide_eq_true (by kernel_rfl)) (by unfold Func.isWrapper; first | (rw [if_pos (by decide +kernel)]; kernel_rfl) | (rw [if_neg (by decide +kernel)]; exact ⟨rfl, rfl⟩))
    (fun os started H enc _ => lifted os started H enc)
theorem proved : Rows.CodecCutsSaid := over
end codecCuts
theorem codecCuts_holds : Rows.CodecCutsSaid := codecCuts.proved
#print axioms codecCuts_holds


end Go.Proofs.Ytgplolfkfhhddaa
