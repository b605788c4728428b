/- Layer 1 (quant): the document's Print. -/
import Derived.Test.YtcokgpjmhacmeaaDoorQ8
namespace Go.Proofs.YtcokgpjmhacmeaaDoor
open Go.RowKit
set_option linter.unusedVariables false
set_option linter.unusedSimpArgs false
open Go.Shelf

theorem format_at (x : Int) (m : Nat) (hx : x = (m : Int)) (h1 : m ≤ 1125899906842624) (w : World) (hT : Tabs w) : Calls Tryd.prog 28 #[.int .i64 x, .int .i64 10] w fun e w' => e = .returned (.string ⟨(Lib.decDigits m).toArray⟩) ∧ Below w.heap.size w w' := by
  subst hx; exact format_any m h1 w hT
theorem tz_more {N j : Nat} (h0 : N ≠ 0) (h : N < 2 ^ 64) (hj : j < tz N) : N / 1024 ^ j % 1024 = 0 := by
  have h1 : 1024 ^ (j + 1) ∣ N := Nat.dvd_trans (Nat.pow_dvd_pow 1024 (by omega)) (tz_dvd h0 h)
  obtain ⟨q, rfl⟩ := h1
  rw [Nat.pow_succ, Nat.mul_assoc, Nat.mul_div_cancel_left _ (Nat.pow_pos (by decide)), Nat.mul_mod_right]
theorem printN_at (N : Nat) : printN N = Lib.decDigits (N / 1024 ^ (if N = 0 then 0 else tz N)) ++ sfxI (if N = 0 then 0 else tz N) := by
  unfold printN
  by_cases h : N = 0
  · subst h
    rw [if_pos rfl, if_pos rfl, Nat.zero_div, Lib.decDigits_one (by omega)]; rfl
  · rw [if_neg h, if_neg h]

set_option maxRecDepth 100000 in
set_option maxHeartbeats 4000000 in
theorem printR_any (n : Int) (w : World) (hT : Tabs w) : Calls Tryd.prog 19 #[.int .i64 n] w fun e w' => e = .returned (sRes (printF n)) ∧ Below w.heap.size w w' := by
  have HT := Lib.hid hT
  clear hT
  by_cases hb : n < 0 ∨ 1125899906842624 < n
  · have HP := Lib.hid (show printF n = ([], 3) from if_pos hb)
    rcases (show n < 0 ∨ (¬ n < 0 ∧ 1125899906842624 < n) by omega) with h1 | ⟨h1, h2⟩
    all_goals
      clear hb
      go_enter Tryd.func19, Tryd.ntmps19
      go_wp2
      go_ret2
      rw [HP.out]
      exact ⟨rfl, Below.refl _ _⟩
  · have h1 : ¬ n < 0 := by omega
    have h2 : ¬ 1125899906842624 < n := by omega
    obtain ⟨N, rfl⟩ : ∃ N : Nat, n = (N : Int) := ⟨n.toNat, by omega⟩
    have HP := Lib.hid (show printF (N : Int) = (printN N, 0) by unfold printF; rw [if_neg hb, Int.toNat_natCast])
    have HPN := Lib.hid (printN_at N)
    have hN : N ≤ 1125899906842624 := by omega
    obtain ⟨k, hk⟩ : ∃ k, k = if N = 0 then 0 else tz N := ⟨_, rfl⟩
    have hk4 : k ≤ 4 := by rw [hk]; split; omega; exact tz_le N
    have HMore := Lib.hid (show ∀ j, j < k → N ≠ 0 ∧ N / 1024 ^ j % 1024 = 0 ∧ N / 1024 ^ j ≠ 0 from fun j hj => by
      rw [hk] at hj
      split at hj
      · omega
      · rename_i h
        refine ⟨h, tz_more h (by omega) hj, fun e => ?_⟩
        have h3 := Nat.le_of_dvd (by omega) (Nat.dvd_trans (Nat.pow_dvd_pow 1024 (Nat.le_of_lt hj)) (tz_dvd h (by omega)))
        have := Nat.div_pos h3 (Nat.pow_pos (by decide))
        omega)
    have HEnd := Lib.hid (show k < 4 → N = 0 ∨ N / 1024 ^ k % 1024 ≠ 0 from fun h4 => by
      by_cases h : N = 0
      · exact .inl h
      · rw [if_neg h] at hk
        rw [hk] at h4 ⊢
        exact .inr (tz_odd h (by omega) h4))
    rw [← hk] at HPN
    clear hb hk
    go_enter Tryd.func19, Tryd.ntmps19
    go_wp2
    go_loopw [0, 4, 6] (fun v u i wr => ∃ j : Nat, j ≤ k ∧ i = .int .i64 j ∧ v = .int .i64 ((N / 1024 ^ j : Nat) : Int) ∧ u = .string ⟨(sfxI j).toArray⟩ ∧ wr = w.alloc (.cells #[.string ⟨#[75, 105]⟩, .string ⟨#[77, 105]⟩, .string ⟨#[71, 105]⟩, .string ⟨#[84, 105]⟩] 9)) (fun _ _ i _ => 4 - (intOf i).toNat)
    case atStart => exact ⟨0, by omega, by rfl, by simp, by rfl, by rfl⟩
    case round =>
      obtain ⟨j, hj, rfl, rfl, rfl, hw⟩ := hrel
      have hbl : Below w.heap.size w wr := hw ▸ (Below.refl _ w).alloc (Nat.le_refl _) _
      have hcells : wr.heap[w.heap.size]? = some (.cells #[.string ⟨#[75, 105]⟩, .string ⟨#[77, 105]⟩, .string ⟨#[71, 105]⟩, .string ⟨#[84, 105]⟩] 9 (0, 0)) := by rw [hw]; exact World.alloc_heap_new w _
      have HB := Lib.hid hbl
      have k0 : wr.cell? ⟨w.heap.size, 0, none⟩ = some (.string ⟨#[75, 105]⟩) := by simp only [World.cell?, hcells]; rfl
      have k1 : wr.cell? ⟨w.heap.size, 1, none⟩ = some (.string ⟨#[77, 105]⟩) := by simp only [World.cell?, hcells]; rfl
      have k2 : wr.cell? ⟨w.heap.size, 2, none⟩ = some (.string ⟨#[71, 105]⟩) := by simp only [World.cell?, hcells]; rfl
      have k3 : wr.cell? ⟨w.heap.size, 3, none⟩ = some (.string ⟨#[84, 105]⟩) := by simp only [World.cell?, hcells]; rfl
      have HW := Lib.hid hw
      have HTr := Lib.hid (HT.out.below hbl)
      clear hbl hcells hw HT
      have hle : N / 1024 ^ j ≤ 1125899906842624 := Nat.le_trans (Nat.div_le_self _ _) hN
      by_cases hjk : j < k
      · obtain ⟨hn0, hmod, hv0⟩ := HMore.out j hjk
        have HNx := Lib.hid (show N / 1024 ^ j / 1024 = N / 1024 ^ (j + 1) by rw [Nat.div_div_eq_div_mul, Nat.pow_succ])
        generalize hV : N / 1024 ^ j = V at *
        have hm1 : (V : Int) % 1024 = 0 := by omega
        have hm2 : (V : Int).tmod 1024 = 0 := by rw [Int.tmod_eq_emod_of_nonneg (by omega)]; exact hm1
        have hq1 : (V : Int).tdiv 1024 = (V : Int) / 1024 := Int.tdiv_eq_ediv_of_nonneg (by omega)
        have hz : ((V : Int) == 0) = false := beq_false_of_ne (by omega)
        clear hV hmod hn0
        rcases (show j = 0 ∨ j = 1 ∨ j = 2 ∨ j = 3 by omega) with rfl | rfl | rfl | rfl
        all_goals
          go_wp2
          go_roundw
          case rel => exact ⟨_, hjk, by rfl, by rw [← HNx.out]; simp, by rfl, HW.out⟩
          case measure => simp [intOf]
      · obtain rfl : k = j := by omega
        have hdl := dec_len (N / 1024 ^ k) hle
        have HE := Lib.hid (app_str (Lib.decDigits (N / 1024 ^ k)) (sfxI k))
        rw [← HPN.out] at HE
        have hend := HEnd.out
        have HV0 := Lib.hid (show N = 0 → N / 1024 ^ k = 0 from fun h => by rw [h, Nat.zero_div])
        generalize hdd : Lib.decDigits (N / 1024 ^ k) = dd at *
        have HDD := Lib.hid hdd
        clear hdd
        generalize hV : N / 1024 ^ k = V at *
        have hc : k = 4 ∨ (k < 4 ∧ V = 0) ∨ (k < 4 ∧ V ≠ 0 ∧ V % 1024 ≠ 0) := by
          by_cases h4 : k = 4
          · exact .inl h4
          · by_cases hv : V = 0
            · exact .inr (.inl ⟨by omega, hv⟩)
            · rcases hend (by omega) with h | h
              · exact absurd (HV0.out h) hv
              · exact .inr (.inr ⟨by omega, hv, h⟩)
        have hq1 : (V : Int).tmod 1024 = (V : Int) % 1024 := Int.tmod_eq_emod_of_nonneg (by omega)
        clear hV hj hjk hend
        have hsl : (sfxI k).length ≤ 2 := by unfold sfxI; split <;> simp
        rcases hc with rfl | ⟨hc, rfl⟩ | ⟨hc, hc2, hc3⟩
        · go_wp2_with (go_at_call 28; refine (format_at _ V rfl hle _ HTr.out).mono ?_; rw [HDD.out]; rintro e w3 ⟨rfl, hb⟩; have HB := Lib.hid (HB.out.trans (hb.mono HB.out.size)); clear hb)
          go_ret2
          rw [HP.out]
          refine ⟨?_, HB.out⟩
          have h := HE.out
          simp only [sRes]
          rw [← h]
          rfl
        · go_wp2_with (go_at_call 28; refine (format_at _ 0 rfl hle _ HTr.out).mono ?_; rw [HDD.out]; rintro e w3 ⟨rfl, hb⟩; have HB := Lib.hid (HB.out.trans (hb.mono HB.out.size)); clear hb)
          go_ret2
          rw [HP.out]
          refine ⟨?_, HB.out⟩
          have h := HE.out
          simp only [sRes]
          rw [← h]
          rfl
        · have hz : ((V : Int) == 0) = false := beq_false_of_ne (by omega)
          have hm : (((V : Int) % 1024) == 0) = false := beq_false_of_ne (by omega)
          go_wp2_with (go_at_call 28; refine (format_at _ V rfl hle _ HTr.out).mono ?_; rw [HDD.out]; rintro e w3 ⟨rfl, hb⟩; have HB := Lib.hid (HB.out.trans (hb.mono HB.out.size)); clear hb)
          go_ret2
          rw [HP.out]
          refine ⟨?_, HB.out⟩
          have h := HE.out
          simp only [sRes]
          rw [← h]
          rfl

end Go.Proofs.YtcokgpjmhacmeaaDoor
