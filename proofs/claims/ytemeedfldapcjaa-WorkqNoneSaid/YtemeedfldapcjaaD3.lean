/- wharfingerlaw08.WorkqNone answers true for every deed, and its argument reads as before. No condition. -/
import Derived.Test.YtemeedfldapcjaaQ4
import Derived.Test.YtemeedfldapcjaaLaw
import Derived.Test.YtemeedfldapcjaaOpen
import Derived.Lib.SmallJoins
import Derived.WalkMore
import Derived.OwnWalk
import Derived.RegionTactic
namespace Go.Proofs.Ytemeedfldapcjaa
open Go.RowKit
set_option linter.unusedVariables false
set_option linter.unusedSimpArgs false
namespace workqNone
open Go.ChangeShapes Go.WideShapes Go.ChangeAt Go.RowKit

abbrev keyV (k : GKey) : Value := .agg #[.int .u8 k.kind, .string k.name]

set_option maxRecDepth 100000 in
theorem put_nil (k : GKey) (due : Value) (w : World) : Calls Try.prog 29 #[.pointer none, .agg #[.int .u8 k.kind, .string k.name], due] w fun e w' => e = .returned (.int .i64 1) ∧ Below w.heap.size w w' := by
  go_enter Try.func29, Try.ntmps29
  go_wp2
  go_ret
  exact ⟨rfl, (Below.refl _ _).alloc (Nat.le_refl _) _⟩

theorem add_nil (k : GKey) (w : World) : Calls Try.prog 14 #[.pointer none, .agg #[.int .u8 k.kind, .string k.name]] w fun e w' => e = .returned (.int .i64 1) ∧ Below w.heap.size w w' := by
  go_enter Try.func14, Try.ntmps14
  go_wp2_with fail
  refine (put_nil k _ _).mono ?_
  rintro e w1 ⟨rfl, hb⟩
  go_wp2
  go_ret
  exact ⟨rfl, ((Below.refl _ _).alloc (Nat.le_refl _) _).trans (hb.mono (by simp))⟩

theorem fail_nil (k : GKey) (now : Int) (w : World) : Calls Try.prog 15 #[.pointer none, .agg #[.int .u8 k.kind, .string k.name], .int .u64 now] w fun e w' => e = .returned (.int .i64 1) ∧ Below w.heap.size w w' := by
  go_enter Try.func15, Try.ntmps15
  go_wp2_with fail
  refine (put_nil k _ _).mono ?_
  rintro e w1 ⟨rfl, hb⟩
  go_wp2
  go_ret
  exact ⟨rfl, ((((Below.refl _ _).alloc (Nat.le_refl _) _).alloc (by simp) _).alloc (by simp; omega) _).trans (hb.mono (by simp; omega))⟩

theorem forget_nil (k : GKey) (w : World) : Calls Try.prog 19 #[.pointer none, .agg #[.int .u8 k.kind, .string k.name]] w fun e w' => e = .returned (.int .i64 1) ∧ Below w.heap.size w w' := by
  go_enter Try.func19, Try.ntmps19
  go_wp2
  go_ret
  exact ⟨rfl, (Below.refl _ _).alloc (Nat.le_refl _) _⟩

theorem fails_nil (k : GKey) (w : World) : Calls Try.prog 17 #[.pointer none, .agg #[.int .u8 k.kind, .string k.name]] w fun e w' => e = .returned (.int .i64 0) ∧ Below w.heap.size w w' := by
  go_enter Try.func17, Try.ntmps17
  go_wp2
  go_ret
  exact ⟨rfl, (Below.refl _ _).alloc (Nat.le_refl _) _⟩

theorem due_nil (k : GKey) (w : World) : Calls Try.prog 20 #[.pointer none, .agg #[.int .u8 k.kind, .string k.name]] w fun e w' => e = .returned (.tuple #[.int .u64 0, .bool false]) ∧ Below w.heap.size w w' := by
  go_enter Try.func20, Try.ntmps20
  go_wp2
  go_ret2
  exact ⟨rfl, (Below.refl _ _).alloc (Nat.le_refl _) _⟩

theorem len_nil (w : World) : Calls Try.prog 16 #[.pointer none] w fun e w' => e = .returned (.int .i64 0) ∧ w = w' := by
  go_enter Try.func16, Try.ntmps16
  go_wp2
  go_ret
  exact ⟨rfl, rfl⟩

theorem fork_nil (w : World) : Calls Try.prog 21 #[.pointer none] w fun e w' => e = .returned (.pointer none) ∧ w = w' := by
  go_enter Try.func21, Try.ntmps21
  go_wp2
  go_ret
  exact ⟨rfl, rfl⟩

set_option maxRecDepth 100000 in
theorem first_nil (w : World) : Calls Try.prog 35 #[.pointer none] w fun e w' => e = .returned (.tuple #[.agg #[.int .u8 0, .string ⟨#[]⟩], .agg #[.int .i64 0, .int .u64 0], .bool false]) ∧ Below w.heap.size w w' := by
  go_enter Try.func35, Try.ntmps35
  go_wp2
  go_step3
  go_wp2
  go_region
  all_goals go_wp2
  all_goals rw [Exit.noGoto_ret]
  all_goals refine bodyPost_ret (v := .tuple #[.agg #[.int .u8 0, .string ⟨#[]⟩], .agg #[.int .i64 0, .int .u64 0], .bool false]) (by simp [results, Try.results35, go_sem]) rfl ⟨rfl, ?_⟩
  all_goals exact (((Below.refl _ _).alloc (Nat.le_refl _) _).alloc (by simp) _).drew

theorem next_nil (w : World) : Calls Try.prog 22 #[.pointer none] w fun e w' => e = .returned (.tuple #[.int .u64 0, .bool false]) ∧ Below w.heap.size w w' := by
  go_enter Try.func22, Try.ntmps22
  go_wp2_with fail
  refine (first_nil _).mono ?_
  rintro e w1 ⟨rfl, hb⟩
  go_wp2
  go_ret2
  exact ⟨rfl, (hb.alloc (hb.size) _).alloc (by have := hb.size; simp; omega) _⟩

set_option maxRecDepth 100000 in
theorem take_nil (now : Int) (w : World) : Calls Try.prog 23 #[.pointer none, .int .u64 now] w fun e w' => e = .returned (.tuple #[.agg #[.int .u8 0, .string ⟨#[]⟩], .bool false]) ∧ Below w.heap.size w w' := by
  go_enter Try.func23, Try.ntmps23
  go_wp2_with fail
  refine (first_nil _).mono ?_
  rintro e w1 ⟨rfl, hb⟩
  have hs := hb.size
  have hb' := ((Below.refl w.heap.size w).alloc (Nat.le_refl _) (.cells #[.int .u8 0, .string ⟨#[]⟩] 28)).trans (hb.mono (by simp))
  have HB := Lib.hid hb'
  have hk := (hb.block w.heap.size (by simp)).trans heap_alloc_eq
  have HK := Lib.hid hk
  obtain ⟨c0, f0⟩ := cells_of_block hk 0 (.int .u8 0) rfl
  obtain ⟨c1, f1⟩ := cells_of_block hk 1 (.string ⟨#[]⟩) rfl
  simp at hs
  have hs1 : w.heap.size < w1.heap.size := by omega
  have hs2 : w.heap.size < w1.heap.size + 1 := by omega
  clear hb hb' hk hs
  go_wp2
  have hb2 : ((((w1.setCell ⟨w.heap.size, 0, none⟩ (.int .u8 0)).setCell ⟨w.heap.size, 1, none⟩ (.string ⟨#[]⟩)).alloc (.cells #[.int .u8 0, .string ⟨#[]⟩] 28)).alloc (.cells #[.int .i64 0, .int .u64 0] 66)).heap[w.heap.size]? = some (.cells #[.int .u8 0, .string ⟨#[]⟩] 28) :=
    (heap_alloc_lt (by simp; omega)).trans ((heap_alloc_lt (by simp; omega)).trans (by rw [heap_setCell_same (heap_setCell_same HK.out)]; rfl))
  have q0 := (cells_of_block hb2 0 _ rfl).1
  have q1 := (cells_of_block hb2 1 _ rfl).1
  simp only [List.getElem_toArray, List.getElem_cons_zero, List.getElem_cons_succ] at q0 q1
  refine bodyPost_ret (v := .tuple #[.agg #[.int .u8 0, .string ⟨#[]⟩], .bool false]) (by simp [results, Try.results23, go_sem, q0, q1]) rfl ⟨rfl, ?_⟩
  exact ((((HB.out).setCell (by simp) _).setCell (by simp) _).alloc (by simp; omega) _).alloc (by simp; omega) _

set_option maxRecDepth 100000 in
theorem list_nil (w : World) : Calls Try.prog 24 #[.pointer none] w fun e w' => e = .returned (.slice none 0 0) ∧ Below w.heap.size w w' := by
  go_enter Try.func24, Try.ntmps24
  go_wp2_with fail
  refine (fork_nil _).mono ?_
  rintro e w1 ⟨rfl, rfl⟩
  go_wp2_with fail
  refine (take_nil _ _).mono ?_
  rintro e w1 ⟨rfl, hb⟩
  have HB := Lib.hid hb
  have hs := hb.size
  clear hb
  go_wp2_with fail
  refine wp_loop_rounds 1 ?_
  rw [rounds_succ]
  go_wp2
  go_ret
  exact ⟨rfl, (HB.out).alloc (by omega) _⟩


/-- what stays while a law asks: its argument's box, and the key that was taken -/
structure St (w0 : World) (xb kb : Nat) (kind now : Int) (k : GKey) (W : World) : Prop where
  x : W.heap[xb]? = some (.cells #[.int .i64 kind, .int .u8 k.kind, .string k.name, .int .u64 now] 56)
  y : W.heap[kb]? = some (.cells #[.int .u8 0, .string ⟨#[]⟩] 28)
  b : Below w0.heap.size w0 W

theorem St.next {w0 W W' : World} {xb kb : Nat} {kind now : Int} {k : GKey} (h : St w0 xb kb kind now k W) (hb : Below W.heap.size W W') : St w0 xb kb kind now k W' :=
  ⟨(hb.block _ (heap_lt h.x)).trans h.x, (hb.block _ (heap_lt h.y)).trans h.y, h.b.trans (hb.mono h.b.size)⟩

theorem St.cells {w0 W : World} {xb kb : Nat} {kind now : Int} {k : GKey} (h : St w0 xb kb kind now k W) :
    W.cell? ⟨xb, 1, none⟩ = some (.int .u8 k.kind) ∧ W.cell? ⟨xb, 2, none⟩ = some (.string k.name) ∧ W.cell? ⟨xb, 3, none⟩ = some (.int .u64 now) ∧
    W.cell? ⟨kb, 0, none⟩ = some (.int .u8 0) ∧ W.cell? ⟨kb, 1, none⟩ = some (.string ⟨#[]⟩) :=
  ⟨(cells_of_block h.x 1 _ rfl).1, (cells_of_block h.x 2 _ rfl).1, (cells_of_block h.x 3 _ rfl).1, (cells_of_block h.y 0 _ rfl).1, (cells_of_block h.y 1 _ rfl).1⟩

set_option maxRecDepth 100000 in
set_option maxHeartbeats 2000000 in
theorem walk (kind : Int) (k : GKey) (now : Int) (w : World) : Calls Try.prog 10 #[.agg #[.int .i64 kind, .int .u8 k.kind, .string k.name, .int .u64 now]] w fun e w' => e = .returned (.bool true) ∧ Below w.heap.size w w' := by
  go_enter Try.func10, Try.ntmps10
  go_wp2_with fail
  refine (take_nil _ _).mono ?_
  rintro e w1 ⟨rfl, hb⟩
  have hB0 := (Below.refl w.heap.size w).alloc (Nat.le_refl _) (.cells #[.int .i64 kind, .int .u8 k.kind, .string k.name, .int .u64 now] 56)
  have hx := (hb.block w.heap.size (by simp)).trans heap_alloc_eq
  have hB1 := hB0.trans (hb.mono (by simp))
  have hs := hb.size
  simp at hs
  have hSt : Hid (St w w.heap.size w1.heap.size kind now k (w1.alloc (.cells #[.int .u8 0, .string ⟨#[]⟩] 28))) :=
    ⟨(heap_alloc_lt (by omega)).trans hx, heap_alloc_eq, hB1.alloc (by omega) _⟩
  clear hb hB0 hx hB1
  obtain ⟨c1, c2, c3, c4, c5⟩ := (hSt.out).cells
  have hs1 : w.heap.size < w1.heap.size := by omega
  clear hs
  go_wp2_with fail
  refine (due_nil k _).mono ?_
  rintro e w2 ⟨rfl, hb⟩
  have hS2 : Hid _ := (hSt.out).next hb
  clear c1 c2 c3 c4 c5 hSt hb
  obtain ⟨c1, c2, c3, c4, c5⟩ := (hS2.out).cells
  go_wp2_with fail
  refine (next_nil _).mono ?_
  rintro e w3 ⟨rfl, hb⟩
  have hS3 : Hid _ := (hS2.out).next hb
  clear c1 c2 c3 c4 c5 hS2 hb
  obtain ⟨c1, c2, c3, c4, c5⟩ := (hS3.out).cells
  go_wp2_with fail
  refine (live_any _).mono ?_
  rintro e w4 ⟨rfl, hb⟩
  have hS4 : Hid _ := (hS3.out).next hb
  clear c1 c2 c3 c4 c5 hS3 hb
  obtain ⟨c1, c2, c3, c4, c5⟩ := (hS4.out).cells
  go_wp2_with fail
  refine (add_nil k _).mono ?_
  rintro e w5 ⟨rfl, hb⟩
  have hS5 : Hid _ := (hS4.out).next hb
  clear c1 c2 c3 c4 c5 hS4 hb
  obtain ⟨c1, c2, c3, c4, c5⟩ := (hS5.out).cells
  go_wp2_with fail
  refine (fail_nil k _ _).mono ?_
  rintro e w6 ⟨rfl, hb⟩
  have hS6 : Hid _ := (hS5.out).next hb
  clear c1 c2 c3 c4 c5 hS5 hb
  obtain ⟨c1, c2, c3, c4, c5⟩ := (hS6.out).cells
  go_wp2_with fail
  refine (forget_nil k _).mono ?_
  rintro e w7 ⟨rfl, hb⟩
  have hS7 : Hid _ := (hS6.out).next hb
  clear c1 c2 c3 c4 c5 hS6 hb
  obtain ⟨c1, c2, c3, c4, c5⟩ := (hS7.out).cells
  go_wp2_with fail
  refine (fails_nil k _).mono ?_
  rintro e w8 ⟨rfl, hb⟩
  have hS8 : Hid _ := (hS7.out).next hb
  clear c1 c2 c3 c4 c5 hS7 hb
  obtain ⟨c1, c2, c3, c4, c5⟩ := (hS8.out).cells
  go_wp2_with fail
  refine (list_nil _).mono ?_
  rintro e w9 ⟨rfl, hb⟩
  have hS9 : Hid _ := (hS8.out).next hb
  clear c1 c2 c3 c4 c5 hS8 hb
  obtain ⟨c1, c2, c3, c4, c5⟩ := (hS9.out).cells
  go_wp2_with fail
  refine (len_nil _).mono ?_
  rintro e w20 ⟨rfl, rfl⟩
  go_wp2_with fail
  refine (fork_nil _).mono ?_
  rintro e w21 ⟨rfl, rfl⟩
  go_wp2
  go_ret
  exact ⟨rfl, (hS9.out).b⟩

theorem own : ownKnob Try.prog.godebug = none := by kernel_rfl
theorem laidOut : laidOutB Try.prog = true := by kernel_rfl
set_option maxRecDepth 100000 in
theorem lifted (os : Os) (started : os.Started) (H : Type) (enc : TypeId × Value → H) :
    ReturnsInHanded {} Try.checked os 10 .any (Rows.workqNoneSpec.pre6 enc Try.prog Try.f10 Rows.workqNoneRow.domain false) (Rows.workqNoneSpec.post enc Try.prog Try.f10 false true false false) := by
  refine returnsInHanded_of_change (C := Try.checked) own started (by kernel_rfl) Try.func10
    (ChangeSpec.witness6 (enc := enc) (C := Try.checked) false ⟨#[], #[.agg #[.int .i64 0, .int .u8 0, .string ByteArray.empty, .int .u64 0]], []⟩ 8 (by kernel_rfl) (by kernel_rfl) (by kernel_rfl) (by kernel_rfl)) ?_
  intro W base args ds gs before hval0 hW _ _
  have hval : ∀ (j : Nat) t v, Try.f10.params[j]? = some t → args[j]? = some v → Value.okWide Try.prog W .any base t v := hval0
  have hW' := hW
  obtain ⟨p, q, hA0, hV, rfl, hfz, hnd⟩ := hW
  have hA : DataW.TrodAll enc Try.prog W 0 (fun _ => true) true Try.f10.params.toList args.toList ds p := hA0
  rw [Try.params10] at hA hval
  obtain ⟨v0, vs0, d0, ds0, p0, q0, hargs, rfl, rfl, h0, r0⟩ := trodAll_cons hA
  obtain ⟨rfl, rfl, rfl⟩ := trodAll_nil r0
  obtain rfl : args = #[v0] := by cases args; simp_all
  obtain ⟨rfl, rfl⟩ := trodVars_none hV
  have hv := hval 0 56 v0 rfl rfl
  simp only [Value.okWide, Try.underlying56] at hv
  obtain ⟨cs, rfl, _, _⟩ := hv
  obtain ⟨fuel, hf⟩ := h0
  obtain ⟨kind, k, now, e0, _, _, _⟩ := open_deed hf
  obtain rfl : cs = #[.int .i64 kind, .int .u8 k.kind, .string k.name, .int .u64 now] := by
    apply Array.toList_inj.1
    simpa [Value.cells] using e0
  clear hA0
  refine (walk kind k now W).mono fun e W' ⟨he, hb⟩ => ?_
  subst he
  exact ⟨_, rfl, law_post rfl hW' laidOut (by rw [Try.params10]; simp only [List.mem_cons, List.not_mem_nil, or_false]; rintro t rfl <;> exact ⟨by kernel_rfl, of_decide_eq_true (by kernel_rfl)⟩) (by kernel_rfl) Try.underlying4 rfl hb⟩

theorem over : Rows.workqNoneRow.holds Try.pinned (OpenSpec.ofChange Rows.workqNoneSpec) :=
  OpenClaim.holds_of_wide 10 Try.f10 rfl rfl rfl rfl rfl rfl rfl ⟨rfl, rfl, rfl, rfl, rfl⟩ rfl rfl rfl rfl rfl (by kernel_rfl) Try.func10 (by kernel_rfl)
    (of_decide_eq_true (by kernel_rfl)) (by unfold Func.isWrapper; first | (rw [if_pos (by decide +kernel)]; kernel_rfl) | (rw [if_neg (by decide +kernel)]; exact ⟨rfl, rfl⟩))
    (fun os started H enc _ => lifted os started H enc)
theorem proved : Rows.WorkqNoneSaid := over
end workqNone
theorem workqNone_holds : Rows.WorkqNoneSaid := workqNone.proved
#print axioms workqNone_holds
end Go.Proofs.Ytemeedfldapcjaa
