/- Layer 3 (object): default of default is default; what is right stays right by it. Where what comes in is of bulk at most 1048576. -/
import Derived.Test.YtmhnccbjnlmjpaaO21
namespace Go.Proofs.Ytmhnccbjnlmjpaa
open Go.RowKit
set_option linter.unusedVariables false
set_option linter.unusedSimpArgs false
open Go.ChangeShapes Go.WideShapes Go.ChangeAt

theorem trod_structX {H : Type} {enc : TypeId × Value → H} {P : Program} {w : World} {base : Nat} {sp : Nat → Bool} {held : Bool} {fuel : Nat} {t : TypeId} {fs : Array Field} {cs : List Value} {x : DataW H × List MemPlace}
    (hu : P.underlying t = some (.struct fs)) (h : DataW.trod enc P w base sp held fuel t cs = some x) :
    ∃ n xs, fs.toList.mapM (fun f => DataW.trod enc P w base sp held n f.type ((cs.drop f.offset).take (P.cellsOf f.type))) = some xs ∧ x = (.agg (xs.map (·.1)), xs.flatMap (·.2)) := by
  cases fuel with
  | zero => simp [DataW.trod] at h
  | succ n =>
    unfold DataW.trod at h
    simp only [hu] at h
    split at h
    · rename_i hl
      cases hm : fs.toList.mapM (fun f => DataW.trod enc P w base sp held n f.type ((cs.drop f.offset).take (P.cellsOf f.type))) with
      | none => rw [hm] at h; simp at h
      | some xs => rw [hm] at h; exact ⟨n, xs, hm, (Option.some.inj h).symm⟩
    · cases h

theorem mapM_get {α β : Type} {g : α → Option β} : ∀ {l : List α} {xs : List β}, l.mapM g = some xs → ∀ (i : Nat) (hi : i < l.length), ∃ y, g l[i] = some y ∧ xs[i]? = some y
  | [], _, _, i, hi => absurd hi (by simp)
  | a :: l, xs, h, i, hi => by
    simp only [List.mapM_cons, Option.bind_eq_bind, Option.bind_eq_some_iff] at h
    obtain ⟨y, hy, ys, hys, e⟩ := h
    obtain rfl : y :: ys = xs := by simpa using e
    cases i with
    | zero => exact ⟨y, hy, rfl⟩
    | succ i => exact mapM_get hys i (by simpa using hi)

theorem bulk_one {H : Type} : ∀ {l : List (DataW H)} {i : Nat} {y : DataW H}, l[i]? = some y → Rows.uptoBulk y ≤ Rows.uptoBulkAll l
  | [], i, y, h => by simp at h
  | x :: l, 0, y, h => by
    obtain rfl : x = y := by simpa using h
    simp only [Rows.uptoBulkAll]; omega
  | x :: l, i + 1, y, h => by
    have := bulk_one (l := l) (i := i) (by simpa using h)
    simp only [Rows.uptoBulkAll]; omega
theorem bulk_two {H : Type} : ∀ {l : List (DataW H)} {i j : Nat} {y z : DataW H}, l[i]? = some y → l[j]? = some z → i < j → Rows.uptoBulk y + Rows.uptoBulk z ≤ Rows.uptoBulkAll l
  | [], i, j, y, z, h, _, _ => by simp at h
  | x :: l, 0, j + 1, y, z, h, h2, _ => by
    obtain rfl : x = y := by simpa using h
    have := bulk_one (l := l) (i := j) (by simpa using h2)
    simp only [Rows.uptoBulkAll]; omega
  | x :: l, 0, 0, y, z, h, h2, hl => by omega
  | x :: l, i + 1, 0, y, z, h, h2, hl => by omega
  | x :: l, i + 1, j + 1, y, z, h, h2, hl => by
    have := bulk_two (l := l) (i := i) (j := j) (by simpa using h) (by simpa using h2) (by omega)
    simp only [Rows.uptoBulkAll]; omega
theorem bulk_string {H : Type} (s : ByteArray) : Rows.uptoBulk (DataW.lit (H := H) (.string s.data.toList)) = s.size + 1 := by
  have e : s.data.toList.length = s.size := by rw [Array.length_toList]; rfl
  simp only [Rows.uptoBulk]; omega

theorem bulk_obj {H : Type} {enc : TypeId × Value → H} {w : World} {base : Nat} {sp : Nat → Bool} {held : Bool} {fuel : Nat} {o : Obj} {x : DataW H × List MemPlace}
    (h : DataW.trod enc Try.prog w base sp held fuel 27 (cellsO o).toList = some x) : o.volume.size + o.node.size + 1 ≤ Rows.uptoBulk x.1 := by
  obtain ⟨n, xs, hm, rfl⟩ := trod_structX Try.underlying27 h
  obtain ⟨y, hy, gy⟩ := mapM_get hm 13 (by simp)
  obtain ⟨z, hz, gz⟩ := mapM_get hm 15 (by simp)
  simp [cells_tStr, cellsO] at hy hz
  obtain ⟨v, ev, rfl, _⟩ := DataW.trod_string Try.underlying9 hy
  obtain ⟨u, eu, rfl, _⟩ := DataW.trod_string Try.underlying9 hz
  obtain rfl : o.node = v := by simpa using ev
  obtain rfl : o.volume = u := by simpa using eu
  have := bulk_two (l := xs.map (·.1)) (i := 13) (j := 15) (by rw [List.getElem?_map, gy]; rfl) (by rw [List.getElem?_map, gz]; rfl) (by omega)
  simp only [bulk_string] at this
  simp only [Rows.uptoBulk]
  omega

namespace objectTwice

--ROW
theorem own : ownKnob Try.prog.godebug = none := by kernel_rfl
theorem laidOut : laidOutB Try.prog = true := by kernel_rfl
set_option maxRecDepth 100000 in
theorem lifted (os : Os) (started : os.Started) (H : Type) (enc : TypeId × Value → H) (F : Stop.Interp) :
    ReturnsInHanded {} Try.checked os 8 .any ((Rows.OpenSpec.upto Rows.objectTwiceSpec).pre6 enc Try.prog Try.f8 Rows.objectTwiceUptoRow.domain false) (((Rows.OpenSpec.upto Rows.objectTwiceSpec).at F).post enc Try.prog Try.f8 false true false false) := by
  refine returnsInHanded_of_cond (C := Try.checked) (s := (Rows.OpenSpec.upto Rows.objectTwiceSpec)) (k := Rows.uptoSmall) rfl own started (by kernel_rfl) Try.func8
    (OpenSpec.witness (enc := enc) (C := Try.checked) (s := (Rows.OpenSpec.upto Rows.objectTwiceSpec)) (k := Rows.uptoSmall) rfl false ⟨#[], #[.agg #[.int .u8 0, .string ByteArray.empty, .int .u64 0, .int .u64 0, .bool false, .bool false, .string ByteArray.empty, .int .i64 0, .int .i64 0, .int .u8 0, .bool false, .bool false, .string ByteArray.empty, .string ByteArray.empty, .string ByteArray.empty, .string ByteArray.empty, .string ByteArray.empty, .int .u8 0, .int .u64 0, .int .u64 0]], []⟩ 8 (by kernel_rfl) (by kernel_rfl) (by kernel_rfl)
      (x := ([.agg [.lit (.int .u8 0), .lit (.string []), .lit (.int .u64 0), .lit (.int .u64 0), .lit (.bool false), .lit (.bool false), .lit (.string []), .lit (.int .i64 0), .lit (.int .i64 0), .lit (.int .u8 0), .lit (.bool false), .lit (.bool false), .lit (.string []), .lit (.string []), .lit (.string []), .lit (.string []), .lit (.string []), .lit (.int .u8 0), .lit (.int .u64 0), .lit (.int .u64 0)]], [], [])) (by kernel_rfl) rfl (by kernel_rfl)) ?_
  intro W base args ds gs before hval0 hW _ hk _
  have hval : ∀ (j : Nat) t v, Try.f8.params[j]? = some t → args[j]? = some v → Value.okWide Try.prog W .any base t v := hval0
  have hW' := hW
  obtain ⟨p, q, hA0, hV, rfl, hfz, hnd⟩ := hW
  have hA : DataW.TrodAll enc Try.prog W 0 (fun _ => true) true Try.f8.params.toList args.toList ds p := hA0
  rw [Try.params8] at hA hval
  obtain ⟨v0, vs0, d0, ds0, p0, q0, hargs, rfl, rfl, h0, r0⟩ := trodAll_cons hA
  obtain ⟨rfl, rfl, rfl⟩ := trodAll_nil r0
  obtain rfl : args = #[v0] := by cases args; simp_all
  obtain ⟨rfl, rfl⟩ := trodVars_none hV
  have hv0 := hval 0 27 v0 rfl rfl
  simp only [Value.okWide, Try.underlying27] at hv0
  obtain ⟨cs0, rfl, _, _⟩ := hv0
  obtain ⟨fuel0, hf0⟩ := h0
  obtain ⟨o0, e0, ft0, wf0⟩ := open_obj hf0
  obtain rfl : cs0 = cellsO o0 := by
    apply Array.toList_inj.1
    simpa [Value.cells] using e0
  have hb0 := bulk_obj hf0
  have hk1 := of_decide_eq_true hk
  simp only [List.append_nil, Rows.uptoBulkAll] at hk1
  clear hA0
  refine (walk o0 W ft0 (by simp only at hb0; omega)).mono fun e W' ⟨he, hb⟩ => ?_
  subst he
  exact ⟨_, rfl, law_post (s := Rows.objectTwiceSpec) rfl hW' laidOut (by rw [Try.params8]; simp only [List.mem_cons, List.not_mem_nil, or_false]; rintro t rfl <;> exact ⟨by kernel_rfl, of_decide_eq_true (by kernel_rfl)⟩) (by kernel_rfl) Try.underlying4 rfl hb⟩

theorem proved : Rows.ObjectTwiceUptoSaid :=
  OpenClaim.holds_of_cond 8 Try.f8 rfl rfl rfl rfl rfl rfl rfl ⟨rfl, rfl, rfl, rfl, rfl⟩ rfl rfl rfl rfl rfl (by kernel_rfl) Try.func8 (by kernel_rfl)
    (of_decide_eq_true (by kernel_rfl)) (by unfold Func.isWrapper; first | (rw [if_pos (by decide +kernel)]; kernel_rfl) | (rw [if_neg (by decide +kernel)]; exact ⟨rfl, rfl⟩))
    (fun os started H enc _ F => lifted os started H enc F)
end objectTwice
theorem objectTwice_holds : Rows.ObjectTwiceUptoSaid := objectTwice.proved
#print axioms objectTwice_holds

end Go.Proofs.Ytmhnccbjnlmjpaa
