/- Layer 1 (quant): Up, Fits. -/
import Derived.Test.YtcokgpjmhacmeaaDoorQ6
namespace Go.Proofs.YtcokgpjmhacmeaaDoor
open Go.RowKit
set_option linter.unusedVariables false
set_option linter.unusedSimpArgs false
open Go.Shelf

def fitF (n m : Int) : Bool := decide (0 ≤ n) && decide (n ≤ m)
theorem fits_any (n m : Int) (w : World) : Calls Tryd.prog 18 #[.int .i64 n, .int .i64 m] w fun e w' => e = .returned (.bool (fitF n m)) ∧ w' = w := by
  unfold fitF
  by_cases h1 : 0 ≤ n
  · by_cases h2 : n ≤ m
    · go_enter Tryd.func18, Tryd.ntmps18
      go_wp2
      go_ret
      simp [h1, h2]
    · go_enter Tryd.func18, Tryd.ntmps18
      go_wp2
      go_ret
      simp [h1, h2]
  · go_enter Tryd.func18, Tryd.ntmps18
    go_wp2
    go_ret
    simp [h1]; omega
theorem fitsR_any (n m : Int) (w : World) : Calls Tryd.prog 21 #[.int .i64 n, .int .i64 m] w fun e w' => e = .returned (.bool (fitF n m)) ∧ w' = w := by
  unfold fitF
  by_cases h1 : 0 ≤ n
  · by_cases h2 : n ≤ m
    · go_enter Tryd.func21, Tryd.ntmps21
      go_wp2
      go_ret
      simp [h1, h2]
    · go_enter Tryd.func21, Tryd.ntmps21
      go_wp2
      go_ret
      simp [h1, h2]
  · go_enter Tryd.func21, Tryd.ntmps21
    go_wp2
    go_ret
    simp [h1]; omega

theorem up_any (n u : Int) (w : World) : Calls Tryd.prog 17 #[.int .i64 n, .int .i64 u] w fun e w' => e = .returned (pRes (upF n u)) ∧ w' = w := by
  by_cases hb : n < 0 ∨ 1125899906842624 < n ∨ u < 1 ∨ 1125899906842624 < u
  · have HP := Lib.hid (show upF n u = (0, 3) from if_pos hb)
    by_cases hf : 0 ≤ n ∧ n ≤ 1125899906842624
    · have e1 : fitF n 1125899906842624 = true := by simp [fitF, hf]
      rcases (show u < 1 ∨ (¬ u < 1 ∧ 1125899906842624 < u) by omega) with h3 | ⟨h3, h4⟩
      all_goals
        clear hb
        go_enter Tryd.func17, Tryd.ntmps17
        go_wp2_with (go_at_call 18; refine (fits_any _ _ _).mono ?_; rw [e1]; rintro e w1 ⟨rfl, rfl⟩)
        go_ret2
        rw [HP.out]
        exact ⟨rfl, rfl⟩
    · have e1 : fitF n 1125899906842624 = false := by simp [fitF]; omega
      clear hb hf
      go_enter Tryd.func17, Tryd.ntmps17
      go_wp2_with (go_at_call 18; refine (fits_any _ _ _).mono ?_; rw [e1]; rintro e w1 ⟨rfl, rfl⟩)
      go_ret2
      rw [HP.out]
      exact ⟨rfl, rfl⟩
  · have HP := Lib.hid (show upF n u = _ from if_neg hb)
    have h1 : 0 ≤ n := by omega
    have h2 : n ≤ 1125899906842624 := by omega
    have h3 : ¬ u < 1 := by omega
    have h4 : ¬ 1125899906842624 < u := by omega
    have e1 : fitF n 1125899906842624 = true := by simp [fitF, h1, h2]
    obtain ⟨f1, f2, _⟩ := up_fact h1 (by omega : 1 ≤ u)
    have ht : (n + u - 1).tdiv u = (n + u - 1) / u := Int.tdiv_eq_ediv_of_nonneg (by omega)
    have w1 : IntKind.i64.wrap (n + u) = n + u := IntWalk.i64_in _ (by omega)
    have w2 : IntKind.i64.wrap (n + u - 1) = n + u - 1 := IntWalk.i64_in _ (by omega)
    have w3 : wrap64 (n + u) = n + u := by unfold wrap64; omega
    have w4 : wrap64 (n + u - 1) = n + u - 1 := by unfold wrap64; omega
    obtain ⟨q, hq⟩ : ∃ q, q = (n + u - 1) / u := ⟨_, rfl⟩
    rw [← hq] at ht f1 f2 HP
    have HQ := Lib.hid hq
    have q0 : 0 ≤ q := by rw [hq]; exact Int.ediv_nonneg (by omega) (by omega)
    have q1 : q ≤ 2251799813685248 := by rw [hq]; exact Int.le_trans (Int.ediv_le_self _ (by omega)) (by omega)
    have hq' : (n + u - 1) / u = q := hq.symm
    have hq2 : wrap64 q = q := by unfold wrap64; omega
    have hq3 : wrap64 (q * u) = q * u := by unfold wrap64; omega
    clear hb hq
    by_cases hm : 1125899906842624 < q * u
    · go_enter Tryd.func17, Tryd.ntmps17
      go_wp2_with (go_at_call 18; refine (fits_any _ _ _).mono ?_; rw [e1]; rintro e w1 ⟨rfl, rfl⟩)
      go_ret2
      rw [HP.out, if_pos hm]
      exact ⟨rfl, rfl⟩
    · go_enter Tryd.func17, Tryd.ntmps17
      go_wp2_with (go_at_call 18; refine (fits_any _ _ _).mono ?_; rw [e1]; rintro e w1 ⟨rfl, rfl⟩)
      go_ret2
      rw [HP.out, if_neg (Int.not_lt.2 hm)]
      exact ⟨by simp [pRes], rfl⟩

theorem upR_any (n u : Int) (w : World) : Calls Tryd.prog 20 #[.int .i64 n, .int .i64 u] w fun e w' => e = .returned (pRes (upF n u)) ∧ w' = w := by
  by_cases hb : n < 0 ∨ 1125899906842624 < n ∨ u < 1 ∨ 1125899906842624 < u
  · have HP := Lib.hid (show upF n u = (0, 3) from if_pos hb)
    rcases (show n < 0 ∨ (¬ n < 0 ∧ 1125899906842624 < n) ∨ (¬ n < 0 ∧ ¬ 1125899906842624 < n ∧ u < 1) ∨ (¬ n < 0 ∧ ¬ 1125899906842624 < n ∧ ¬ u < 1 ∧ 1125899906842624 < u) by omega) with h1 | ⟨h1, h2⟩ | ⟨h1, h2, h3⟩ | ⟨h1, h2, h3, h4⟩
    all_goals
      clear hb
      go_enter Tryd.func20, Tryd.ntmps20
      go_wp2
      go_ret2
      rw [HP.out]
      exact ⟨rfl, rfl⟩
  · have HP := Lib.hid (show upF n u = _ from if_neg hb)
    have h1 : ¬ n < 0 := by omega
    have h2 : ¬ 1125899906842624 < n := by omega
    have h3 : ¬ u < 1 := by omega
    have h4 : ¬ 1125899906842624 < u := by omega
    obtain ⟨f1, f2, _⟩ := up_fact (by omega : 0 ≤ n) (by omega : 1 ≤ u)
    have hr := up_ref (by omega : 0 ≤ n) (by omega : 1 ≤ u)
    have ht : n.tdiv u = n / u := Int.tdiv_eq_ediv_of_nonneg (by omega)
    have hm : n.tmod u = n % u := Int.tmod_eq_emod_of_nonneg (by omega)
    rw [hr] at f1 f2 HP
    have q0 : 0 ≤ n / u := Int.ediv_nonneg (by omega) (by omega)
    have q1 : n / u ≤ 1125899906842624 := Int.le_trans (Int.ediv_le_self _ (by omega)) (by omega)
    generalize hq : n / u = q at *
    generalize hp : n % u = p at *
    have HR := Lib.hid hr
    have hq2 : wrap64 q = q := by unfold wrap64; omega
    have hq4 : wrap64 (q + 1) = q + 1 := by unfold wrap64; omega
    clear hb hr
    by_cases hz : p = 0
    · rw [if_pos hz] at f1 f2 HP
      rw [Int.add_zero] at f1 f2 HP
      have hq3 : wrap64 (q * u) = q * u := by unfold wrap64; omega
      by_cases hm2 : 1125899906842624 < q * u
      · go_enter Tryd.func20, Tryd.ntmps20
        go_wp2
        go_ret2
        rw [HP.out, if_pos hm2]
        exact ⟨rfl, rfl⟩
      · go_enter Tryd.func20, Tryd.ntmps20
        go_wp2
        go_ret2
        rw [HP.out, if_neg (Int.not_lt.2 hm2)]
        exact ⟨by simp [pRes], rfl⟩
    · rw [if_neg hz] at f1 f2 HP
      have hz' : (p == 0) = false := beq_false_of_ne hz
      have hq3 : wrap64 ((q + 1) * u) = (q + 1) * u := by unfold wrap64; omega
      by_cases hm2 : 1125899906842624 < (q + 1) * u
      · go_enter Tryd.func20, Tryd.ntmps20
        go_wp2
        go_ret2
        rw [HP.out, if_pos hm2]
        exact ⟨rfl, rfl⟩
      · go_enter Tryd.func20, Tryd.ntmps20
        go_wp2
        go_ret2
        rw [HP.out, if_neg (Int.not_lt.2 hm2)]
        exact ⟨by simp [pRes], rfl⟩

end Go.Proofs.YtcokgpjmhacmeaaDoor
