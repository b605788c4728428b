/- wharfingerlaw08.WorkqDelays answers true for every int, and its argument reads as before. No condition. -/
import Derived.Test.YtemeedfldapcjaaQ4
import Derived.Test.YtemeedfldapcjaaLaw
namespace Go.Proofs.Ytemeedfldapcjaa
open Go.RowKit
set_option linter.unusedVariables false
set_option linter.unusedSimpArgs false
namespace workqDelays
open Go.ChangeShapes Go.WideShapes Go.ChangeAt Go.RowKit

theorem delayB_one : delayB 1 = 1 := by decide
theorem delayB_double (n : Int) (h : 2 ≤ n) (h2 : n ≤ 7) : delayB n = 2 * delayB (n - 1) := by
  have : ∀ j : Fin 8, 2 ≤ (j : Nat) → delayB ((j : Nat) : Int) = 2 * delayB (((j : Nat) : Int) - 1) := by decide
  have := this ⟨n.toNat, by omega⟩ (by simp; omega)
  simpa [Int.toNat_of_nonneg (show 0 ≤ n by omega)] using this
theorem delayB_top (n : Int) (h : 7 ≤ n) : delayB n = 64 := by
  unfold delayB
  rw [if_neg (by omega), show (min (n - 1) 6).toNat = 6 by omega]
  decide
theorem delayB_lo (n : Int) (h : 1 ≤ n) : 1 ≤ delayB n := by
  unfold delayB
  rw [if_neg (by omega)]
  have : (min (n - 1) 6).toNat ≤ 6 := by omega
  generalize (min (n - 1) 6).toNat = m at *
  have : ∀ j : Fin 7, (1 : Int) ≤ 2 ^ (j : Nat) := by decide
  exact this ⟨m, by omega⟩

set_option maxRecDepth 100000 in
set_option maxHeartbeats 1000000 in
theorem walk (n : Int) (w0 : (Lit.int .i64 n).wf = true) (w : World) : Calls Try.prog 3 #[.int .i64 n] w fun e w' => e = .returned (.bool true) ∧ Below w.heap.size w w' := by
  have hx : -9223372036854775808 ≤ n ∧ n ≤ 9223372036854775807 := by simpa [Lit.wf, IntKind.min, IntKind.max, IntKind.signed, IntKind.bits] using w0
  obtain ⟨x1, x2⟩ := hx
  clear w0
  by_cases h0 : n ≤ 0
  · have hd : delayB n = 0 := by simp [delayB, h0]
    have HD := Lib.hid hd
    clear hd
    go_enter Try.func3, Try.ntmps3
    go_wp2_with fail
    refine (live_any w).mono ?_
    rintro e w1 ⟨rfl, hb⟩
    go_wp2_with fail
    refine (delay_any n w1 x1 x2).mono ?_
    rintro e w2 ⟨rfl, rfl⟩
    rw [HD.out]
    go_wp2
    go_ret
    exact ⟨rfl, hb⟩
  · by_cases h7 : n ≤ 7
    · by_cases h1 : n = 1
      · subst h1
        go_enter Try.func3, Try.ntmps3
        go_wp2_with fail
        refine (delay_any 1 w (by decide) (by decide)).mono ?_
        rintro e w2 ⟨rfl, rfl⟩
        rw [delayB_one]
        go_wp2_with fail
        refine (delay_any _ w2 (by decide) (by decide)).mono ?_
        rintro e w2 ⟨rfl, rfl⟩
        go_wp2_with fail
        refine (live_any _).mono ?_
        rintro e w1 ⟨rfl, hb⟩
        go_wp2
        go_ret
        exact ⟨rfl, hb⟩
      · have hd := delayB_double n (by omega) h7
        have h5 := delayB_lo (n - 1) (by omega)
        have h6 := delayB_le n
        have H5 := Lib.hid h5
        have H6 := Lib.hid h6
        have HD := Lib.hid hd
        clear hd h5 h6
        go_enter Try.func3, Try.ntmps3
        go_wp2_with fail
        refine (delay_any n w x1 x2).mono ?_
        rintro e w2 ⟨rfl, rfl⟩
        rw [HD.out]
        go_wp2_with fail
        refine (delay_any _ w2 (by omega) (by omega)).mono ?_
        rintro e w2 ⟨rfl, rfl⟩
        have h5 := H5.out
        have h6 := H6.out
        rw [HD.out] at h6
        clear HD H5 H6
        generalize delayB (n - 1) = d at *
        obtain ⟨h61, h62⟩ := h6
        go_wp2_with fail
        refine (live_any _).mono ?_
        rintro e w1 ⟨rfl, hb⟩
        have hb1 := Lib.hid hb
        clear hb
        have hw : IntKind.u64.wrap (2 * d) = 2 * d := by simp [IntKind.wrap, IntKind.bits, IntKind.signed]; omega
        have hb1 : (n == 1) = false := by simpa using h1
        go_wp2
        go_ret
        exact ⟨by simp, by assumption⟩
    · have hd := delayB_top n (by omega)
      have hd1 := delayB_top (n - 1) (by omega)
      have HD := Lib.hid hd
      have HD1 := Lib.hid hd1
      clear hd hd1
      go_enter Try.func3, Try.ntmps3
      go_wp2_with fail
      refine (delay_any n w x1 x2).mono ?_
      rintro e w2 ⟨rfl, rfl⟩
      rw [HD.out]
      go_wp2_with fail
      refine (delay_any _ w2 (by omega) (by omega)).mono ?_
      rintro e w2 ⟨rfl, rfl⟩
      rw [HD1.out]
      go_wp2_with fail
      refine (live_any _).mono ?_
      rintro e w1 ⟨rfl, hb⟩
      have hb1 : (n == 1) = false := by simp; omega
      go_wp2
      go_ret
      exact ⟨rfl, hb⟩

theorem own : ownKnob Try.prog.godebug = none := by kernel_rfl
theorem laidOut : laidOutB Try.prog = true := by kernel_rfl
set_option maxRecDepth 100000 in
theorem lifted (os : Os) (started : os.Started) (H : Type) (enc : TypeId × Value → H) :
    ReturnsInHanded {} Try.checked os 3 .any (Rows.workqDelaysSpec.pre6 enc Try.prog Try.f3 Rows.workqDelaysRow.domain false) (Rows.workqDelaysSpec.post enc Try.prog Try.f3 false true false false) := by
  refine returnsInHanded_of_change (C := Try.checked) own started (by kernel_rfl) Try.func3
    (ChangeSpec.witness6 (enc := enc) (C := Try.checked) false ⟨#[], #[.int .i64 0], []⟩ 8 (by kernel_rfl) (by kernel_rfl) (by kernel_rfl) (by kernel_rfl)) ?_
  intro W base args ds gs before hval0 hW _ _
  have hval : ∀ (j : Nat) t v, Try.f3.params[j]? = some t → args[j]? = some v → Value.okWide Try.prog W .any base t v := hval0
  have hW' := hW
  obtain ⟨p, q, hA0, hV, rfl, hfz, hnd⟩ := hW
  have hA : DataW.TrodAll enc Try.prog W 0 (fun _ => true) true Try.f3.params.toList args.toList ds p := hA0
  rw [Try.params3] at hA hval
  obtain ⟨v0, vs0, d0, ds0, p0, q0, hargs, rfl, rfl, h0, r0⟩ := trodAll_cons hA
  obtain ⟨rfl, rfl, rfl⟩ := trodAll_nil r0
  obtain rfl : args = #[v0] := by cases args; simp_all
  obtain ⟨rfl, rfl⟩ := trodVars_none hV
  obtain ⟨a0, rfl, rfl, rfl, w0⟩ := open_int Try.underlying3 (hval 0 3 v0 rfl rfl) h0
  clear hA0
  refine (walk a0 w0 W).mono fun e W' ⟨he, hb⟩ => ?_
  subst he
  exact ⟨_, rfl, law_post rfl hW' laidOut (by rw [Try.params3]; simp; exact ⟨by kernel_rfl, of_decide_eq_true (by kernel_rfl)⟩) (by kernel_rfl) Try.underlying4 rfl hb⟩

theorem over : Rows.workqDelaysRow.holds Try.pinned (OpenSpec.ofChange Rows.workqDelaysSpec) :=
  OpenClaim.holds_of_wide 3 Try.f3 rfl rfl rfl rfl rfl rfl rfl ⟨rfl, rfl, rfl, rfl, rfl⟩ rfl rfl rfl rfl rfl (by kernel_rfl) Try.func3 (by kernel_rfl)
    (of_decide_eq_true (by kernel_rfl)) (by unfold Func.isWrapper; first | (rw [if_pos (by decide +kernel)]; kernel_rfl) | (rw [if_neg (by decide +kernel)]; exact ⟨rfl, rfl⟩))
    (fun os started H enc _ => lifted os started H enc)
theorem proved : Rows.WorkqDelaysSaid := over
end workqDelays
theorem workqDelays_holds : Rows.WorkqDelaysSaid := workqDelays.proved
#print axioms workqDelays_holds
end Go.Proofs.Ytemeedfldapcjaa
