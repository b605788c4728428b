/- wharfingerlaw08.WorkqDue answers true for every deeds and time, and its arguments read as before. No condition. -/
import Derived.Test.YtemeedfldapcjaaS7
import Derived.Test.YtemeedfldapcjaaLaw
import Derived.Lib.SmallJoins
import Derived.WalkMore
import Derived.OwnWalk
import Derived.RegionTactic
namespace Go.Proofs.Ytemeedfldapcjaa
open Go.RowKit
set_option linter.unusedVariables false
set_option linter.unusedSimpArgs false
namespace workqDue
open Go.ChangeShapes Go.WideShapes Go.ChangeAt Go.RowKit

theorem due_facts {q : WQ} {r : RQ} {n : Nat} (h : Rel q r n) {p : GKey × (Int × Int)} (hb : bestL q.waits = some p) :
    assoc q.waits p.1 = some p.2 ∧ (q.drop p.1).waits.length = q.waits.length - 1 ∧ 1 ≤ q.waits.length ∧ Since (q.drop p.1).waits ∧ (bestL (q.drop p.1).waits = none ∨ ∃ p', bestL (q.drop p.1).waits = some p' ∧ p.2.2 ≤ p'.2.2) := by
  have hm := bestL_mem hb
  refine ⟨assoc_of_mem h.keys hm, del_len hm, List.length_pos_of_mem hm, since_del h.since, ?_⟩
  cases hb' : bestL (q.drop p.1).waits with
  | none => exact .inl rfl
  | some p' =>
    refine .inr ⟨p', rfl, ?_⟩
    have hm' := bestL_mem hb'
    have hin : p' ∈ q.waits := del_sub.subset hm'
    have hne : p' ≠ p := by
      rintro rfl
      have h1 := assoc_of_mem (l := assocDel q.waits p'.1) ((del_sub.map _).nodup h.keys) hm'
      rw [assoc_del h.keys, if_pos rfl] at h1
      cases h1
    have := bestL_ahead h.since hb p' hin hne
    unfold ahead at this; omega

set_option maxRecDepth 100000 in
set_option maxHeartbeats 4000000 in
theorem walk (v : Value) (ds : List Deed) (now : Int) (w : World) (h : DeedsAt w v ds) : Calls Try.prog 6 #[v, .int .u64 now] w fun e w' => e = .returned (.bool true) ∧ Below w.heap.size w w' := by
  have H := play_any v ds w h
  obtain ⟨⟨ao, cap, rfl, _⟩, _⟩ := h
  go_enter Try.func6, Try.ntmps6
  go_wp2_with fail
  refine H.mono ?_
  clear H
  rintro e w1 ⟨L, R, q, r, rfl, hp⟩
  have HP := Lib.hid hp
  clear hp
  go_wp2_with fail
  refine (live_any w1).mono ?_
  rintro e w2 ⟨rfl, hb⟩
  have HQ2 := Lib.hid (HP.out.both.qa.keep (Keeps.of_below (F := fun _ => False) hb) (by simp) (by simp) (by simp))
  have HB2 := Lib.hid (HP.out.b.trans (hb.mono HP.out.b.size))
  have HL := Lib.hid (show ∀ k, L.mine k → w.heap.size ≤ k from fun k hk => HP.out.new k (.inl hk))
  have HREL := Lib.hid HP.out.both.rel
  clear hb HP
  go_wp2_with fail
  refine (fork_any L q w2 HQ2.out).mono ?_
  rintro e w3 ⟨M, rfl, hm, hb, g1, g2, g3⟩
  have hlt := HQ2.out.lt
  have HM3 := Lib.hid hm
  have HQ3 := Lib.hid (HQ2.out.keep (Keeps.of_below (F := fun _ => False) hb) (by simp) (by simp) (by simp))
  have HB3 := Lib.hid (HB2.out.trans (hb.mono HB2.out.size))
  have HAP := Lib.hid (show ∀ k, M.mine k → ¬ L.mine k by
    rintro k hk hl
    have := hlt k hl
    rcases hk with rfl | rfl | rfl <;> omega)
  clear hb hm g1 g2 g3 hlt HQ2 HB2
  go_wp2_with fail
  refine (next_any L q w3 HQ3.out HREL.out.since).mono ?_
  rintro e w4 ⟨rfl, hb⟩
  have HQ4 := Lib.hid (HQ3.out.keep (Keeps.of_below (F := fun _ => False) hb) (by simp) (by simp) (by simp))
  have HM4 := Lib.hid (HM3.out.keep (Keeps.of_below (F := fun _ => False) hb) (by simp) (by simp) (by simp))
  have HB4 := Lib.hid (HB3.out.trans (hb.mono HB3.out.size))
  clear hb HQ3 HM3 HB3
  cases hbest : bestL q.waits with
  | none =>
    have e1 : nextV q = .tuple #[.int .u64 0, .bool false] := by simp [nextV, hbest]
    have e2 : takeR q now = none := by simp [takeR, hbest]
    have e3 : q.took now = q := by simp [WQ.took, e2]
    have E2 := Lib.hid e2
    have E3 := Lib.hid e3
    rw [e1]
    clear e1 e2 e3 hbest
    go_wp2_with fail
    refine (took_any L q now w4 HQ4.out HREL.out.since).mono ?_
    rintro e w5 ⟨rfl, hq, hk⟩
    rw [E2.out]
    rw [E3.out] at hq
    simp only [takeV]
    have HQ5 := Lib.hid (hq.keep ((Keeps.refl (fun _ => False) w5).alloc (.cells #[.int .u8 0, .string ⟨#[]⟩] 28)) (by simp) (by simp) (by simp))
    have HM5 := Lib.hid ((HM4.out.keepM hk HAP.out).keep ((Keeps.refl (fun _ => False) w5).alloc (.cells #[.int .u8 0, .string ⟨#[]⟩] 28)) (by simp) (by simp) (by simp))
    have hb5 := below_mine HB4.out hk HL.out
    have HB5 := Lib.hid (hb5.alloc hb5.size (.cells #[.int .u8 0, .string ⟨#[]⟩] 28))
    clear hq hk hb5
    go_wp2_with fail
    refine (len_any L q _ HQ5.out).mono ?_
    rintro e w6 ⟨rfl, rfl⟩
    go_wp2_with fail
    refine (len_any M q _ HM5.out).mono ?_
    rintro e w6 ⟨rfl, rfl⟩
    go_wp2
    go_ret
    exact ⟨ret_true (by simp), HB5.out⟩
  | some p =>
    have e1 : nextV q = .tuple #[.int .u64 p.2.2, .bool true] := by simp [nextV, hbest]
    rw [e1]
    clear e1
    by_cases hdue : p.2.2 ≤ now
    · have e2 : takeR q now = some p.1 := by simp [takeR, hbest, hdue]
      have e3 : q.took now = q.drop p.1 := by simp [WQ.took, e2]
      obtain ⟨f1, f2, f3, f4, f5⟩ := due_facts HREL.out hbest
      have E2 := Lib.hid e2
      have E3 := Lib.hid e3
      have F1 := Lib.hid f1
      have F2 := Lib.hid f2
      have F3 := Lib.hid f3
      have F4 := Lib.hid f4
      have F5 := Lib.hid f5
      clear e2 e3 hbest f1 f2 f3 f4 f5
      go_wp2_with fail
      refine (took_any L q now w4 HQ4.out HREL.out.since).mono ?_
      rintro e w5 ⟨rfl, hq, hk⟩
      rw [E2.out]
      rw [E3.out] at hq
      simp only [takeV]
      have HQ5 := Lib.hid (hq.keep ((Keeps.refl (fun _ => False) w5).alloc (.cells #[.int .u8 p.1.kind, .string p.1.name] 28)) (by simp) (by simp) (by simp))
      have HM5 := Lib.hid ((HM4.out.keepM hk HAP.out).keep ((Keeps.refl (fun _ => False) w5).alloc (.cells #[.int .u8 p.1.kind, .string p.1.name] 28)) (by simp) (by simp) (by simp))
      have hb5 := below_mine HB4.out hk HL.out
      have HB5 := Lib.hid (hb5.alloc hb5.size (.cells #[.int .u8 p.1.kind, .string p.1.name] 28))
      clear hq hk hb5
      go_wp2_with fail
      refine (due_any M q p.1 _ HM5.out).mono ?_
      rintro e w6 ⟨rfl, hb⟩
      rw [F1.out]
      have HQ6 := Lib.hid (HQ5.out.keep (Keeps.of_below (F := fun _ => False) hb) (by simp) (by simp) (by simp))
      have HM6 := Lib.hid (HM5.out.keep (Keeps.of_below (F := fun _ => False) hb) (by simp) (by simp) (by simp))
      have HB6 := Lib.hid (HB5.out.trans (hb.mono HB5.out.size))
      clear hb HQ5 HM5 HB5
      simp only [Option.getD_some, Option.isSome_some]
      go_wp2_with fail
      refine (next_any L (q.drop p.1) w6 HQ6.out F4.out).mono ?_
      rintro e w7 ⟨rfl, hb⟩
      have HQ7 := Lib.hid (HQ6.out.keep (Keeps.of_below (F := fun _ => False) hb) (by simp) (by simp) (by simp))
      have HM7 := Lib.hid (HM6.out.keep (Keeps.of_below (F := fun _ => False) hb) (by simp) (by simp) (by simp))
      have HB7 := Lib.hid (HB6.out.trans (hb.mono HB6.out.size))
      clear hb HQ6 HM6 HB6
      have hl1 : IntKind.i64.wrap ((q.waits.length : Int) - 1) = (q.waits.length : Int) - 1 := by
        have := HREL.out.len
        simp [IntKind.wrap, IntKind.bits, IntKind.signed]; omega
      have hl2 : ((q.drop p.1).waits.length : Int) = (q.waits.length : Int) - 1 := by have := F2.out; have := F3.out; omega
      rcases F5.out with hb0 | ⟨p', hb0, hge⟩
      · have e7 : nextV (q.drop p.1) = .tuple #[.int .u64 0, .bool false] := by simp [nextV, hb0]
        rw [e7]
        clear e7 hb0
        go_wp2_with fail
        refine (len_any L (q.drop p.1) _ HQ7.out).mono ?_
        rintro e w8 ⟨rfl, rfl⟩
        rw [hl2]
        go_wp2_with fail
        refine (len_any M q _ HM7.out).mono ?_
        rintro e w8 ⟨rfl, rfl⟩
        go_wp2
        go_ret
        exact ⟨ret_true (by simp), HB7.out⟩
      · have e7 : nextV (q.drop p.1) = .tuple #[.int .u64 p'.2.2, .bool true] := by simp [nextV, hb0]
        rw [e7]
        clear e7 hb0
        go_wp2_with fail
        refine (len_any L (q.drop p.1) _ HQ7.out).mono ?_
        rintro e w8 ⟨rfl, rfl⟩
        rw [hl2]
        go_wp2_with fail
        refine (len_any M q _ HM7.out).mono ?_
        rintro e w8 ⟨rfl, rfl⟩
        go_wp2
        go_ret
        exact ⟨ret_true (by simp [hge]), HB7.out⟩
    · have e2 : takeR q now = none := by simp [takeR, hbest, hdue]
      have e3 : q.took now = q := by simp [WQ.took, e2]
      have E2 := Lib.hid e2
      have E3 := Lib.hid e3
      clear e2 e3 hbest
      go_wp2_with fail
      refine (took_any L q now w4 HQ4.out HREL.out.since).mono ?_
      rintro e w5 ⟨rfl, hq, hk⟩
      rw [E2.out]
      rw [E3.out] at hq
      simp only [takeV]
      have HQ5 := Lib.hid (hq.keep ((Keeps.refl (fun _ => False) w5).alloc (.cells #[.int .u8 0, .string ⟨#[]⟩] 28)) (by simp) (by simp) (by simp))
      have HM5 := Lib.hid ((HM4.out.keepM hk HAP.out).keep ((Keeps.refl (fun _ => False) w5).alloc (.cells #[.int .u8 0, .string ⟨#[]⟩] 28)) (by simp) (by simp) (by simp))
      have hb5 := below_mine HB4.out hk HL.out
      have HB5 := Lib.hid (hb5.alloc hb5.size (.cells #[.int .u8 0, .string ⟨#[]⟩] 28))
      clear hq hk hb5
      go_wp2_with fail
      refine (len_any L q _ HQ5.out).mono ?_
      rintro e w6 ⟨rfl, rfl⟩
      go_wp2_with fail
      refine (len_any M q _ HM5.out).mono ?_
      rintro e w6 ⟨rfl, rfl⟩
      go_wp2
      go_ret
      exact ⟨ret_true (by simp), HB5.out⟩

theorem own : ownKnob Try.prog.godebug = none := by kernel_rfl
theorem laidOut : laidOutB Try.prog = true := by kernel_rfl
set_option maxRecDepth 100000 in
theorem lifted (os : Os) (started : os.Started) (H : Type) (enc : TypeId × Value → H) :
    ReturnsInHanded {} Try.checked os 6 .any (Rows.workqDueSpec.pre6 enc Try.prog Try.f6 Rows.workqDueRow.domain false) (Rows.workqDueSpec.post enc Try.prog Try.f6 false true false false) := by
  refine returnsInHanded_of_change (C := Try.checked) own started (by kernel_rfl) Try.func6
    (ChangeSpec.witness6 (enc := enc) (C := Try.checked) false ⟨#[], #[.slice none 0 0, .int .u64 0], []⟩ 8 (by kernel_rfl) (by kernel_rfl) (by kernel_rfl) (by kernel_rfl)) ?_
  intro W base args ds gs before hval0 hW _ _
  have hval : ∀ (j : Nat) t v, Try.f6.params[j]? = some t → args[j]? = some v → Value.okWide Try.prog W .any base t v := hval0
  have hW' := hW
  obtain ⟨p, q, hA0, hV, rfl, hfz, hnd⟩ := hW
  have hA : DataW.TrodAll enc Try.prog W 0 (fun _ => true) true Try.f6.params.toList args.toList ds p := hA0
  rw [Try.params6] at hA hval
  obtain ⟨v0, vs0, d0, ds0, p0, q0, hargs, rfl, rfl, h0, r0⟩ := trodAll_cons hA
  obtain ⟨v1, vs1, d1, ds1, p1, q1, rfl, rfl, rfl, h1, r1⟩ := trodAll_cons r0
  obtain ⟨rfl, rfl, rfl⟩ := trodAll_nil r1
  obtain rfl : args = #[v0, v1] := by cases args; simp_all
  obtain ⟨rfl, rfl⟩ := trodVars_none hV
  obtain ⟨fuel0, hf0⟩ := h0
  obtain ⟨vv0, l0, e0, hd0⟩ := open_deeds hf0
  obtain ⟨sa0, sl0, sc0, rfl⟩ := okWide_slice Try.underlying38 (hval 0 38 v0 rfl rfl)
  obtain rfl : vv0 = .slice sa0 sl0 sc0 := by simpa [Value.cells] using e0.symm
  obtain ⟨a1, rfl, rfl, rfl, w1⟩ := open_int Try.underlying23 (hval 1 23 v1 rfl rfl) h1
  clear hA0
  refine (walk _ l0 a1 W hd0).mono fun e W' ⟨he, hb⟩ => ?_
  subst he
  exact ⟨_, rfl, law_post rfl hW' laidOut (by rw [Try.params6]; simp only [List.mem_cons, List.not_mem_nil, or_false]; rintro t (rfl | rfl) <;> exact ⟨by kernel_rfl, of_decide_eq_true (by kernel_rfl)⟩) (by kernel_rfl) Try.underlying4 rfl hb⟩

theorem over : Rows.workqDueRow.holds Try.pinned (OpenSpec.ofChange Rows.workqDueSpec) :=
  OpenClaim.holds_of_wide 6 Try.f6 rfl rfl rfl rfl rfl rfl rfl ⟨rfl, rfl, rfl, rfl, rfl⟩ rfl rfl rfl rfl rfl (by kernel_rfl) Try.func6 (by kernel_rfl)
    (of_decide_eq_true (by kernel_rfl)) (by unfold Func.isWrapper; first | (rw [if_pos (by decide +kernel)]; kernel_rfl) | (rw [if_neg (by decide +kernel)]; exact ⟨rfl, rfl⟩))
    (fun os started H enc _ => lifted os started H enc)
theorem proved : Rows.WorkqDueSaid := over
end workqDue
theorem workqDue_holds : Rows.WorkqDueSaid := workqDue.proved
#print axioms workqDue_holds

end Go.Proofs.Ytemeedfldapcjaa
