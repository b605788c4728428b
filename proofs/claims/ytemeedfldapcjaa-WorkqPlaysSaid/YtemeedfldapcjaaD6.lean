/- wharfingerlaw08.WorkqPlays answers true for every deeds, key and number, and its arguments read as before. No condition. -/
import Derived.Test.YtemeedfldapcjaaT5
import Derived.Test.YtemeedfldapcjaaLaw
import Derived.Lib.SmallJoins
import Derived.WalkMore
import Derived.OwnWalk
import Derived.RegionTactic
namespace Go.Proofs.Ytemeedfldapcjaa
open Go.RowKit
set_option linter.unusedVariables false
set_option linter.unusedSimpArgs false
theorem DeedsAt.below {w w' : World} {v : Value} {ds : List Deed} (h : DeedsAt w v ds) (hb : Below w.heap.size w w') : DeedsAt w' v ds := by
  obtain ⟨⟨ao, cap, hv, h1, h2, h3⟩, hn⟩ := h
  refine ⟨⟨ao, cap, hv, h1, h2, fun h0 => ?_⟩, hn⟩
  obtain ⟨a, ha, hlt, hc⟩ := h3 h0
  exact ⟨a, ha, Nat.lt_of_lt_of_le hlt hb.size, fun j hj o ho => (hb.cell (p := (a.add (j * 4)).add o) (by rw [add_block, add_block]; exact hlt)).trans (hc j hj o ho)⟩

theorem delayR_all (n : Int) (w : World) (h1 : -9223372036854775808 ≤ n) (h2 : n ≤ 9223372036854775807) : Calls Try.prog 26 #[.int .i64 n] w fun e w' => e = .returned (.int .u64 (delayB n)) ∧ w = w' := by
  by_cases h : 1 ≤ n
  · go_enter Try.func26, Try.ntmps26
    go_wp2
    go_loop [3, 4] (fun d i => ∃ m : Nat, m ≤ 6 ∧ (m : Int) + 1 ≤ n ∧ d = .int .u64 (2 ^ m) ∧ i = .int .i64 (m + 1)) (fun _ i => 64 - (intOf i).toNat)
    case atStart => exact ⟨0, by omega, by omega, rfl, rfl⟩
    case round =>
      obtain ⟨m, hm, hn, rfl, rfl⟩ := hrel
      by_cases hc : (m : Int) + 1 < n
      · by_cases h6 : m = 6
        · subst h6
          go_wp2
          go_ret
          exact ⟨ret_int (by unfold delayB; rw [if_neg (by omega), show (min (n - 1) 6).toNat = 6 by omega]; rfl), rfl⟩
        · have hlt : (2 : Int) ^ m < 64 := by
            have : ∀ j : Fin 6, (2 : Int) ^ (j : Nat) < 64 := by decide
            exact this ⟨m, by omega⟩
          have hw : IntKind.u64.wrap (2 ^ m * 2) = 2 ^ (m + 1) := by
            have : ∀ j : Fin 6, IntKind.u64.wrap (2 ^ (j : Nat) * 2) = 2 ^ ((j : Nat) + 1) := by decide
            exact this ⟨m, by omega⟩
          go_wp2
          go_round
          case rel => exact ⟨m + 1, by omega, by omega, by simp [hw], by simp⟩
          case measure => simp [intOf]; omega
      · go_wp2
        go_ret
        exact ⟨ret_int (by unfold delayB; rw [if_neg (by omega), show (min (n - 1) 6).toNat = m by omega]), rfl⟩
  · have hz : delayB n = 0 := by unfold delayB; rw [if_pos (by omega)]
    rw [hz]
    have hc : ¬ (1 : Int) < n := by omega
    have hc2 : n < 1 := by omega
    go_enter Try.func26, Try.ntmps26
    go_wp2
    refine wp_loop_rounds 1 ?_
    simp only [rounds_succ]
    go_wp2
    go_ret
    exact ⟨rfl, rfl⟩

namespace workqPlays
open Go.ChangeShapes Go.WideShapes Go.ChangeAt Go.RowKit

set_option maxRecDepth 100000 in
set_option maxHeartbeats 4000000 in
theorem walk (v : Value) (ds : List Deed) (k : GKey) (n : Int) (hn : -9223372036854775808 ≤ n ∧ n ≤ 9223372036854775807) (w : World) (h : DeedsAt w v ds) : Calls Try.prog 8 #[v, .agg #[.int .u8 k.kind, .string k.name], .int .i64 n] w fun e w' => e = .returned (.bool true) ∧ Below w.heap.size w w' := by
  have H := play_any v ds _ (DeedsAt.below h ((Below.refl w.heap.size w).alloc (Nat.le_refl _) (.cells #[.int .u8 k.kind, .string k.name] 28)))
  have HX0 := Lib.hid (show (w.alloc (.cells #[.int .u8 k.kind, .string k.name] 28)).heap[w.heap.size]? = some (.cells #[.int .u8 k.kind, .string k.name] 28) from heap_alloc_eq)
  have HB0 := Lib.hid ((Below.refl w.heap.size w).alloc (Nat.le_refl _) (.cells #[.int .u8 k.kind, .string k.name] 28))
  have HSZ := Lib.hid (show (w.alloc (.cells #[.int .u8 k.kind, .string k.name] 28)).heap.size = w.heap.size + 1 by simp)
  obtain ⟨⟨ao, cap, rfl, _⟩, _⟩ := h
  have HN := Lib.hid hn
  clear hn
  go_enter Try.func8, Try.ntmps8
  go_wp2_with fail
  refine H.mono ?_
  clear H
  rintro e w1 ⟨L, R, q, r, rfl, hp⟩
  have HX1 := Lib.hid ((hp.b.block _ (by rw [HSZ.out]; omega)).trans HX0.out)
  have HB1 := Lib.hid (HB0.out.trans (hp.b.mono HB0.out.size))
  have HBO := Lib.hid hp.both
  clear hp
  go_wp2_with fail
  refine (live_any w1).mono ?_
  rintro e w2 ⟨rfl, hb⟩
  have hx2 := (hb.block _ (heap_lt HX1.out)).trans HX1.out
  have HB2 := Lib.hid (HB1.out.trans (hb.mono HB1.out.size))
  have HBO2 := Lib.hid (show Both w2 L R q r 60 from ⟨HBO.out.qa.keep (Keeps.of_below (F := fun _ => False) hb) (by simp) (by simp) (by simp), HBO.out.ra.keep (Keeps.of_below (F := fun _ => False) hb) (by simp), HBO.out.rel⟩)
  clear hb HBO
  obtain ⟨b0, _⟩ := cells_of_block hx2 0 _ rfl
  obtain ⟨b1, _⟩ := cells_of_block hx2 1 _ rfl
  simp only [List.getElem_toArray, List.getElem_cons_zero, List.getElem_cons_succ] at b0 b1
  clear hx2
  go_wp2_with fail
  refine (same_any L R q r 60 k w2 HBO2.out (by omega)).mono ?_
  rintro e w3 ⟨rfl, hb⟩
  have HB3 := Lib.hid (HB2.out.trans (hb.mono HB2.out.size))
  clear hb b0 b1
  go_wp2_with fail
  refine (delay_any n w3 HN.out.1 HN.out.2).mono ?_
  rintro e w4 ⟨rfl, rfl⟩
  go_wp2_with fail
  refine (delayR_all n w4 HN.out.1 HN.out.2).mono ?_
  rintro e w5 ⟨rfl, rfl⟩
  go_wp2
  go_ret
  exact ⟨ret_true (by simp), HB3.out⟩

theorem own : ownKnob Try.prog.godebug = none := by kernel_rfl
theorem laidOut : laidOutB Try.prog = true := by kernel_rfl
set_option maxRecDepth 100000 in
theorem lifted (os : Os) (started : os.Started) (H : Type) (enc : TypeId × Value → H) :
    ReturnsInHanded {} Try.checked os 8 .any (Rows.workqPlaysSpec.pre6 enc Try.prog Try.f8 Rows.workqPlaysRow.domain false) (Rows.workqPlaysSpec.post enc Try.prog Try.f8 false true false false) := by
  refine returnsInHanded_of_change (C := Try.checked) own started (by kernel_rfl) Try.func8
    (ChangeSpec.witness6 (enc := enc) (C := Try.checked) false ⟨#[], #[.slice none 0 0, .agg #[.int .u8 0, .string ByteArray.empty], .int .i64 0], []⟩ 8 (by kernel_rfl) (by kernel_rfl) (by kernel_rfl) (by kernel_rfl)) ?_
  intro W base args ds gs before hval0 hW _ _
  have hval : ∀ (j : Nat) t v, Try.f8.params[j]? = some t → args[j]? = some v → Value.okWide Try.prog W .any base t v := hval0
  have hW' := hW
  obtain ⟨p, q, hA0, hV, rfl, hfz, hnd⟩ := hW
  have hA : DataW.TrodAll enc Try.prog W 0 (fun _ => true) true Try.f8.params.toList args.toList ds p := hA0
  rw [Try.params8] at hA hval
  obtain ⟨v0, vs0, d0, ds0, p0, q0, hargs, rfl, rfl, h0, r0⟩ := trodAll_cons hA
  obtain ⟨v1, vs1, d1, ds1, p1, q1, rfl, rfl, rfl, h1, r1⟩ := trodAll_cons r0
  obtain ⟨v2, vs2, d2, ds2, p2, q2, rfl, rfl, rfl, h2, r2⟩ := trodAll_cons r1
  obtain ⟨rfl, rfl, rfl⟩ := trodAll_nil r2
  obtain rfl : args = #[v0, v1, v2] := by cases args; simp_all
  obtain ⟨rfl, rfl⟩ := trodVars_none hV
  obtain ⟨fuel0, hf0⟩ := h0
  obtain ⟨vv0, l0, e0, hd0⟩ := open_deeds hf0
  obtain ⟨sa0, sl0, sc0, rfl⟩ := okWide_slice Try.underlying38 (hval 0 38 v0 rfl rfl)
  obtain rfl : vv0 = .slice sa0 sl0 sc0 := by simpa [Value.cells] using e0.symm
  have hvk1 := hval 1 28 v1 rfl rfl
  simp only [Value.okWide, Try.underlying28] at hvk1
  obtain ⟨kc1, rfl, _, _⟩ := hvk1
  obtain ⟨fuel1, hf1⟩ := h1
  obtain ⟨k1, ek1, wk1⟩ := open_key hf1
  obtain rfl : kc1 = #[.int .u8 k1.kind, .string k1.name] := by
      apply Array.toList_inj.1
      simpa [Value.cells] using ek1
  obtain ⟨a2, rfl, rfl, rfl, w2⟩ := open_int Try.underlying3 (hval 2 3 v2 rfl rfl) h2
  clear hA0
  refine (walk _ l0 k1 a2 (by simpa [Lit.wf, IntKind.min, IntKind.max, IntKind.signed, IntKind.bits] using w2) W hd0).mono fun e W' ⟨he, hb⟩ => ?_
  subst he
  exact ⟨_, rfl, law_post rfl hW' laidOut (by rw [Try.params8]; simp only [List.mem_cons, List.not_mem_nil, or_false]; rintro t (rfl | rfl | rfl) <;> exact ⟨by kernel_rfl, of_decide_eq_true (by kernel_rfl)⟩) (by kernel_rfl) Try.underlying4 rfl hb⟩

theorem over : Rows.workqPlaysRow.holds Try.pinned (OpenSpec.ofChange Rows.workqPlaysSpec) :=
  OpenClaim.holds_of_wide 8 Try.f8 rfl rfl rfl rfl rfl rfl rfl ⟨rfl, rfl, rfl, rfl, rfl⟩ rfl rfl rfl rfl rfl (by kernel_rfl) Try.func8 (by kernel_rfl)
    (of_decide_eq_true (by kernel_rfl)) (by unfold Func.isWrapper; first | (rw [if_pos (by decide +kernel)]; kernel_rfl) | (rw [if_neg (by decide +kernel)]; exact ⟨rfl, rfl⟩))
    (fun os started H enc _ => lifted os started H enc)
theorem proved : Rows.WorkqPlaysSaid := over
end workqPlays
theorem workqPlays_holds : Rows.WorkqPlaysSaid := workqPlays.proved
#print axioms workqPlays_holds

end Go.Proofs.Ytemeedfldapcjaa
