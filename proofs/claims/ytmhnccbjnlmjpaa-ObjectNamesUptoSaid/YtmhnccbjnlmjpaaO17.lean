/- Layer 3 (object): the name of an attachment tells its volume and its node. -/
import Derived.Test.YtmhnccbjnlmjpaaO15
namespace Go.Proofs.Ytmhnccbjnlmjpaa
open Go.RowKit
set_option linter.unusedVariables false
set_option linter.unusedSimpArgs false

theorem slash_none {s : ByteArray} (h : slashIn s = false) : (47 : UInt8) ∉ s.data.toList := by
  intro hm
  have h1 : Lib.indexByte s.data.toList 47 < 0 := by simpa [slashIn] using h
  have h2 := Lib.indexByte_ge s.data.toList 47
  have h3 : Lib.indexByte s.data.toList 47 = -1 := by omega
  obtain ⟨k, hk⟩ := List.mem_iff_getElem?.1 hm
  exact Lib.indexByte_none h3 k hk
theorem split_slash : ∀ {v1 v2 n1 n2 : List UInt8}, (47 : UInt8) ∉ n1 → (47 : UInt8) ∉ n2 → v1 ++ 47 :: n1 = v2 ++ 47 :: n2 → v1 = v2 ∧ n1 = n2
  | [], [], _, _, _, _, h => by simpa using h
  | [], b :: v2, n1, n2, h1, _, h => by
    simp at h
    exact absurd (by rw [h.2]; simp) h1
  | a :: v1, [], n1, n2, _, h2, h => by
    simp at h
    exact absurd (by rw [← h.2]; simp) h2
  | a :: v1, b :: v2, n1, n2, h1, h2, h => by
    simp only [List.cons_append, List.cons.injEq] at h
    obtain ⟨e1, e2⟩ := split_slash h1 h2 h.2
    exact ⟨by rw [h.1, e1], e2⟩
theorem parts_plain {a b : Obj} (ha : rightB a = true) (hb : rightB b = true) (ka : a.kind = 5) (kb : b.kind = 5) (hn : a.name = b.name) : a.volume = b.volume ∧ a.node = b.node := by
  have g : ∀ o : Obj, rightB o = true → o.kind = 5 → slashIn o.node = false ∧ o.name = attachN o.volume o.node := by
    intro o h k
    simp only [rightB, Bool.and_eq_true] at h
    have := h.2
    simp [kindB, k] at this
    exact ⟨this.1.1.2, this.1.2⟩
  obtain ⟨sa, na⟩ := g a ha ka
  obtain ⟨sb, nb⟩ := g b hb kb
  rw [na, nb] at hn
  have := congrArg (fun x => x.data.toList) hn
  simp only [attachN] at this
  obtain ⟨e1, e2⟩ := split_slash (slash_none sa) (slash_none sb) this
  exact ⟨ByteArray.ext (Array.toList_inj.1 e1), ByteArray.ext (Array.toList_inj.1 e2)⟩

namespace objectParts
open Go.ChangeShapes Go.WideShapes Go.ChangeAt
/-- both objects lie where the law has put them -/
structure St (w0 : World) (a b : Obj) (W : World) : Prop where
  a : ∀ k, W.cell? ⟨w0.heap.size, k, none⟩ = (cellsO a)[k]?
  b : ∀ k, W.cell? ⟨w0.heap.size + 1, k, none⟩ = (cellsO b)[k]?
  lt : w0.heap.size + 1 < W.heap.size
  below : Below w0.heap.size w0 W
theorem St.next {w0 W W' : World} {a b : Obj} (h : St w0 a b W) (hb : Below W.heap.size W W') : St w0 a b W' :=
  ⟨fun k => (hb.cell (p := ⟨w0.heap.size, k, none⟩) (Nat.lt_trans (Nat.lt_succ_self _) h.lt)).trans (h.a k), fun k => (hb.cell (p := ⟨w0.heap.size + 1, k, none⟩) h.lt).trans (h.b k), Nat.lt_of_lt_of_le h.lt hb.size, h.below.trans (hb.mono h.below.size)⟩
theorem St.first (w : World) (a b : Obj) : St w a b ((w.alloc (.cells (cellsO a) 27)).alloc (.cells (cellsO b) 27)) :=
  ⟨cells_all ((heap_alloc_lt (by simp)).trans heap_alloc_eq), cells_all (by rw [show w.heap.size + 1 = (w.alloc (.cells (cellsO a) 27)).heap.size by simp]; exact heap_alloc_eq), by simp, ((Below.refl _ _).alloc (Nat.le_refl _) _).alloc (by simp) _⟩

set_option maxRecDepth 100000 in
set_option maxHeartbeats 4000000 in
theorem walk1 (a b : Obj) (w : World) (fa : a.Fits) (fb : b.Fits) (ka : ¬ a.kind = 5) : Calls Try.prog 7 #[.agg (cellsO a), .agg (cellsO b)] w fun e w' => e = .returned (.bool true) ∧ Below w.heap.size w w' := by
  have FA := Lib.hid fa
  have FB := Lib.hid fb
  have S0 := Lib.hid (St.first w a b)
  have ka1 : (a.kind != 5) = true := by simpa using ka
  clear ka
  clear fa fb 
  have s0 := S0.out.a
  have r0 := S0.out.b
  go_enter Try.func7, Try.ntmps7
  go_wp2_with fail
  refine (live_any _).mono ?_
  rintro e w1 ⟨rfl, hb1⟩
  have S1 := Lib.hid (S0.out.next hb1)
  have s1 := S1.out.a
  have r1 := S1.out.b
  clear hb1 s0 r0 S0
  go_wp2
  all_goals go_ret
  all_goals exact ⟨ret_bool (by simp_all), S1.out.below⟩

set_option maxRecDepth 100000 in
set_option maxHeartbeats 4000000 in
theorem walk2 (a b : Obj) (w : World) (fa : a.Fits) (fb : b.Fits) (ka : a.kind = 5) (kb : ¬ b.kind = 5) : Calls Try.prog 7 #[.agg (cellsO a), .agg (cellsO b)] w fun e w' => e = .returned (.bool true) ∧ Below w.heap.size w w' := by
  have FA := Lib.hid fa
  have FB := Lib.hid fb
  have S0 := Lib.hid (St.first w a b)
  have ka1 : (a.kind != 5) = false := by simpa using ka
  have kb1 : (b.kind != 5) = true := by simpa using kb
  clear ka kb
  clear fa fb 
  have s0 := S0.out.a
  have r0 := S0.out.b
  go_enter Try.func7, Try.ntmps7
  go_wp2_with fail
  refine (live_any _).mono ?_
  rintro e w1 ⟨rfl, hb1⟩
  have S1 := Lib.hid (S0.out.next hb1)
  have s1 := S1.out.a
  have r1 := S1.out.b
  clear hb1 s0 r0 S0
  go_wp2
  all_goals go_ret
  all_goals exact ⟨ret_bool (by simp_all), S1.out.below⟩

set_option maxRecDepth 100000 in
set_option maxHeartbeats 4000000 in
theorem walk3 (a b : Obj) (w : World) (fa : a.Fits) (fb : b.Fits) (ka : a.kind = 5) (kb : b.kind = 5) (ra : rightB a = false) : Calls Try.prog 7 #[.agg (cellsO a), .agg (cellsO b)] w fun e w' => e = .returned (.bool true) ∧ Below w.heap.size w w' := by
  have FA := Lib.hid fa
  have FB := Lib.hid fb
  have S0 := Lib.hid (St.first w a b)
  have Hra := Lib.hid ra
  have ka1 : (a.kind != 5) = false := by simpa using ka
  have kb1 : (b.kind != 5) = false := by simpa using kb
  clear ka kb
  clear fa fb ra
  have s0 := S0.out.a
  have r0 := S0.out.b
  go_enter Try.func7, Try.ntmps7
  go_wp2_with (first | (refine wpList_loadObjG rfl _ rfl _ rfl a s0 ?_) | (refine wpList_loadObjG rfl _ rfl _ rfl b r0 ?_))
  refine (right_any a _ FA.out).mono ?_
  rintro e w1 ⟨rfl, hb1⟩
  have S1 := Lib.hid (S0.out.next hb1)
  have s1 := S1.out.a
  have r1 := S1.out.b
  clear hb1 s0 r0 S0
  rw [Hra.out]
  go_wp2_with fail
  refine (live_any _).mono ?_
  rintro e w2 ⟨rfl, hb2⟩
  have S2 := Lib.hid (S1.out.next hb2)
  have s2 := S2.out.a
  have r2 := S2.out.b
  clear hb2 s1 r1 S1
  go_wp2
  all_goals go_ret
  all_goals exact ⟨ret_bool (by simp_all), S2.out.below⟩

set_option maxRecDepth 100000 in
set_option maxHeartbeats 4000000 in
theorem walk4 (a b : Obj) (w : World) (fa : a.Fits) (fb : b.Fits) (ka : a.kind = 5) (kb : b.kind = 5) (ra : rightB a = true) (rb : rightB b = false) : Calls Try.prog 7 #[.agg (cellsO a), .agg (cellsO b)] w fun e w' => e = .returned (.bool true) ∧ Below w.heap.size w w' := by
  have FA := Lib.hid fa
  have FB := Lib.hid fb
  have S0 := Lib.hid (St.first w a b)
  have Hra := Lib.hid ra
  have Hrb := Lib.hid rb
  have ka1 : (a.kind != 5) = false := by simpa using ka
  have kb1 : (b.kind != 5) = false := by simpa using kb
  clear ka kb
  clear fa fb ra rb
  have s0 := S0.out.a
  have r0 := S0.out.b
  go_enter Try.func7, Try.ntmps7
  go_wp2_with (first | (refine wpList_loadObjG rfl _ rfl _ rfl a s0 ?_) | (refine wpList_loadObjG rfl _ rfl _ rfl b r0 ?_))
  refine (right_any a _ FA.out).mono ?_
  rintro e w1 ⟨rfl, hb1⟩
  have S1 := Lib.hid (S0.out.next hb1)
  have s1 := S1.out.a
  have r1 := S1.out.b
  clear hb1 s0 r0 S0
  rw [Hra.out]
  go_wp2_with (first | (refine wpList_loadObjG rfl _ rfl _ rfl a s1 ?_) | (refine wpList_loadObjG rfl _ rfl _ rfl b r1 ?_))
  refine (right_any b _ FB.out).mono ?_
  rintro e w2 ⟨rfl, hb2⟩
  have S2 := Lib.hid (S1.out.next hb2)
  have s2 := S2.out.a
  have r2 := S2.out.b
  clear hb2 s1 r1 S1
  rw [Hrb.out]
  go_wp2_with fail
  refine (live_any _).mono ?_
  rintro e w3 ⟨rfl, hb3⟩
  have S3 := Lib.hid (S2.out.next hb3)
  have s3 := S3.out.a
  have r3 := S3.out.b
  clear hb3 s2 r2 S2
  go_wp2
  all_goals go_ret
  all_goals exact ⟨ret_bool (by simp_all), S3.out.below⟩

set_option maxRecDepth 100000 in
set_option maxHeartbeats 4000000 in
theorem walk5 (a b : Obj) (w : World) (fa : a.Fits) (fb : b.Fits) (ka : a.kind = 5) (kb : b.kind = 5) (ra : rightB a = true) (rb : rightB b = true) (hn : ¬ a.name = b.name) : Calls Try.prog 7 #[.agg (cellsO a), .agg (cellsO b)] w fun e w' => e = .returned (.bool true) ∧ Below w.heap.size w w' := by
  have FA := Lib.hid fa
  have FB := Lib.hid fb
  have S0 := Lib.hid (St.first w a b)
  have Hra := Lib.hid ra
  have Hrb := Lib.hid rb
  have ka1 : (a.kind != 5) = false := by simpa using ka
  have kb1 : (b.kind != 5) = false := by simpa using kb
  have n0 : (a.name.toList == b.name.toList) = false := by simpa [toList_eq_iff] using hn
  have n1 : (a.name.toList != b.name.toList) = true := by simpa [toList_eq_iff] using hn
  clear ka kb hn
  clear fa fb ra rb
  have s0 := S0.out.a
  have r0 := S0.out.b
  go_enter Try.func7, Try.ntmps7
  go_wp2_with (first | (refine wpList_loadObjG rfl _ rfl _ rfl a s0 ?_) | (refine wpList_loadObjG rfl _ rfl _ rfl b r0 ?_))
  refine (right_any a _ FA.out).mono ?_
  rintro e w1 ⟨rfl, hb1⟩
  have S1 := Lib.hid (S0.out.next hb1)
  have s1 := S1.out.a
  have r1 := S1.out.b
  clear hb1 s0 r0 S0
  rw [Hra.out]
  go_wp2_with (first | (refine wpList_loadObjG rfl _ rfl _ rfl a s1 ?_) | (refine wpList_loadObjG rfl _ rfl _ rfl b r1 ?_))
  refine (right_any b _ FB.out).mono ?_
  rintro e w2 ⟨rfl, hb2⟩
  have S2 := Lib.hid (S1.out.next hb2)
  have s2 := S2.out.a
  have r2 := S2.out.b
  clear hb2 s1 r1 S1
  rw [Hrb.out]
  go_wp2_with fail
  refine (live_any _).mono ?_
  rintro e w3 ⟨rfl, hb3⟩
  have S3 := Lib.hid (S2.out.next hb3)
  have s3 := S3.out.a
  have r3 := S3.out.b
  clear hb3 s2 r2 S2
  go_wp2
  all_goals go_ret
  all_goals exact ⟨ret_bool (by simp_all), S3.out.below⟩

set_option maxRecDepth 100000 in
set_option maxHeartbeats 4000000 in
theorem walk6 (a b : Obj) (w : World) (fa : a.Fits) (fb : b.Fits) (ka : a.kind = 5) (kb : b.kind = 5) (ra : rightB a = true) (rb : rightB b = true) (hn : a.name = b.name) : Calls Try.prog 7 #[.agg (cellsO a), .agg (cellsO b)] w fun e w' => e = .returned (.bool true) ∧ Below w.heap.size w w' := by
  have FA := Lib.hid fa
  have FB := Lib.hid fb
  have S0 := Lib.hid (St.first w a b)
  have Hra := Lib.hid ra
  have Hrb := Lib.hid rb
  have ka1 : (a.kind != 5) = false := by simpa using ka
  have kb1 : (b.kind != 5) = false := by simpa using kb
  obtain ⟨ev, en⟩ := parts_plain ra rb ka kb hn
  have n0 : (a.name.toList == b.name.toList) = true := by simp [hn]
  have n1 : (a.name.toList != b.name.toList) = false := by simp [hn]
  have n2 : (a.volume.toList == b.volume.toList) = true := by simp [ev]
  have n3 : (a.node.toList == b.node.toList) = true := by simp [en]
  clear ka kb hn ev en
  clear fa fb ra rb
  have s0 := S0.out.a
  have r0 := S0.out.b
  go_enter Try.func7, Try.ntmps7
  go_wp2_with (first | (refine wpList_loadObjG rfl _ rfl _ rfl a s0 ?_) | (refine wpList_loadObjG rfl _ rfl _ rfl b r0 ?_))
  refine (right_any a _ FA.out).mono ?_
  rintro e w1 ⟨rfl, hb1⟩
  have S1 := Lib.hid (S0.out.next hb1)
  have s1 := S1.out.a
  have r1 := S1.out.b
  clear hb1 s0 r0 S0
  rw [Hra.out]
  go_wp2_with (first | (refine wpList_loadObjG rfl _ rfl _ rfl a s1 ?_) | (refine wpList_loadObjG rfl _ rfl _ rfl b r1 ?_))
  refine (right_any b _ FB.out).mono ?_
  rintro e w2 ⟨rfl, hb2⟩
  have S2 := Lib.hid (S1.out.next hb2)
  have s2 := S2.out.a
  have r2 := S2.out.b
  clear hb2 s1 r1 S1
  rw [Hrb.out]
  go_wp2_with fail
  refine (live_any _).mono ?_
  rintro e w3 ⟨rfl, hb3⟩
  have S3 := Lib.hid (S2.out.next hb3)
  have s3 := S3.out.a
  have r3 := S3.out.b
  clear hb3 s2 r2 S2
  go_wp2
  all_goals go_ret
  all_goals exact ⟨ret_bool (by simp_all), S3.out.below⟩

theorem walk (a b : Obj) (w : World) (fa : a.Fits) (fb : b.Fits) : Calls Try.prog 7 #[.agg (cellsO a), .agg (cellsO b)] w fun e w' => e = .returned (.bool true) ∧ Below w.heap.size w w' := by
  by_cases ka : a.kind = 5
  rotate_left
  · exact walk1 a b w fa fb ka
  by_cases kb : b.kind = 5
  rotate_left
  · exact walk2 a b w fa fb ka kb
  cases ra : rightB a with
  | false => exact walk3 a b w fa fb ka kb ra
  | true =>
    cases rb : rightB b with
    | false => exact walk4 a b w fa fb ka kb ra rb
    | true =>
      by_cases hn : a.name = b.name
      · exact walk6 a b w fa fb ka kb ra rb hn
      · exact walk5 a b w fa fb ka kb ra rb hn

--ROW
theorem own : ownKnob Try.prog.godebug = none := by kernel_rfl
theorem laidOut : laidOutB Try.prog = true := by kernel_rfl
set_option maxRecDepth 100000 in
theorem lifted (os : Os) (started : os.Started) (H : Type) (enc : TypeId × Value → H) :
    ReturnsInHanded {} Try.checked os 7 .any (Rows.objectPartsSpec.pre6 enc Try.prog Try.f7 Rows.objectPartsRow.domain false) (Rows.objectPartsSpec.post enc Try.prog Try.f7 false true false false) := by
  refine returnsInHanded_of_change (C := Try.checked) own started (by kernel_rfl) Try.func7
    (ChangeSpec.witness6 (enc := enc) (C := Try.checked) false ⟨#[], #[.agg #[.int .u8 0, .string ByteArray.empty, .int .u64 0, .int .u64 0, .bool false, .bool false, .string ByteArray.empty, .int .i64 0, .int .i64 0, .int .u8 0, .bool false, .bool false, .string ByteArray.empty, .string ByteArray.empty, .string ByteArray.empty, .string ByteArray.empty, .string ByteArray.empty, .int .u8 0, .int .u64 0, .int .u64 0], .agg #[.int .u8 0, .string ByteArray.empty, .int .u64 0, .int .u64 0, .bool false, .bool false, .string ByteArray.empty, .int .i64 0, .int .i64 0, .int .u8 0, .bool false, .bool false, .string ByteArray.empty, .string ByteArray.empty, .string ByteArray.empty, .string ByteArray.empty, .string ByteArray.empty, .int .u8 0, .int .u64 0, .int .u64 0]], []⟩ 8 (by kernel_rfl) (by kernel_rfl) (by kernel_rfl) (by kernel_rfl)) ?_
  intro W base args ds gs before hval0 hW _ _
  have hval : ∀ (j : Nat) t v, Try.f7.params[j]? = some t → args[j]? = some v → Value.okWide Try.prog W .any base t v := hval0
  have hW' := hW
  obtain ⟨p, q, hA0, hV, rfl, hfz, hnd⟩ := hW
  have hA : DataW.TrodAll enc Try.prog W 0 (fun _ => true) true Try.f7.params.toList args.toList ds p := hA0
  rw [Try.params7] at hA hval
  obtain ⟨v0, vs0, d0, ds0, p0, q0, hargs, rfl, rfl, h0, r0⟩ := trodAll_cons hA
  obtain ⟨v1, vs1, d1, ds1, p1, q1, rfl, rfl, rfl, h1, r1⟩ := trodAll_cons r0
  obtain ⟨rfl, rfl, rfl⟩ := trodAll_nil r1
  obtain rfl : args = #[v0, v1] := by cases args; simp_all
  obtain ⟨rfl, rfl⟩ := trodVars_none hV
  have hv0 := hval 0 27 v0 rfl rfl
  simp only [Value.okWide, Try.underlying27] at hv0
  obtain ⟨cs0, rfl, _, _⟩ := hv0
  obtain ⟨fuel0, hf0⟩ := h0
  obtain ⟨o0, e0, ft0, wf0⟩ := open_obj hf0
  obtain rfl : cs0 = cellsO o0 := by
    apply Array.toList_inj.1
    simpa [Value.cells] using e0
  have hv1 := hval 1 27 v1 rfl rfl
  simp only [Value.okWide, Try.underlying27] at hv1
  obtain ⟨cs1, rfl, _, _⟩ := hv1
  obtain ⟨fuel1, hf1⟩ := h1
  obtain ⟨o1, e1, ft1, wf1⟩ := open_obj hf1
  obtain rfl : cs1 = cellsO o1 := by
    apply Array.toList_inj.1
    simpa [Value.cells] using e1
  clear hA0
  refine (walk o0 o1 W ft0 ft1).mono fun e W' ⟨he, hb⟩ => ?_
  subst he
  exact ⟨_, rfl, law_post rfl hW' laidOut (by rw [Try.params7]; simp only [List.mem_cons, List.not_mem_nil, or_false]; rintro t (rfl | rfl) <;> exact ⟨by kernel_rfl, of_decide_eq_true (by kernel_rfl)⟩) (by kernel_rfl) Try.underlying4 rfl hb⟩

theorem over : Rows.objectPartsRow.holds Try.pinned (OpenSpec.ofChange Rows.objectPartsSpec) :=
  OpenClaim.holds_of_wide 7 Try.f7 rfl rfl rfl rfl rfl rfl rfl ⟨rfl, rfl, rfl, rfl, rfl⟩ rfl rfl rfl rfl rfl (by kernel_rfl) Try.func7 (by kernel_rfl)
    (of_decide_eq_true (by kernel_rfl)) (by unfold Func.isWrapper; first | (rw [if_pos (by decide +kernel)]; kernel_rfl) | (rw [if_neg (by decide +kernel)]; exact ⟨rfl, rfl⟩))
    (fun os started H enc _ => lifted os started H enc)
theorem proved : Rows.ObjectPartsSaid := over
end objectParts
theorem objectParts_holds : Rows.ObjectPartsSaid := objectParts.proved
#print axioms objectParts_holds

end Go.Proofs.Ytmhnccbjnlmjpaa
