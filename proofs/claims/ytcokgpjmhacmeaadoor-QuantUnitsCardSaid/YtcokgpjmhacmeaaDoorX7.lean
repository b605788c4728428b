/- Layer 1 (quant): the walk of QuantUnits. -/
import Derived.Test.YtcokgpjmhacmeaaDoorX4
namespace Go.Proofs.YtcokgpjmhacmeaaDoor
open Go.RowKit
set_option linter.unusedVariables false
set_option linter.unusedSimpArgs false
open Go.Shelf

theorem tz_zero {N : Nat} (h : N % 1024 = 1) (hN : N < 2 ^ 64) : tz N = 0 := by
  refine Classical.byContradiction fun h0 => ?_
  have h1 : 1024 ∣ N := Nat.dvd_trans ⟨1024 ^ (tz N - 1), by rw [← Nat.pow_succ', show (tz N - 1).succ = tz N by omega]⟩ (tz_dvd (by omega) hN)
  have := Nat.mod_eq_zero_of_dvd h1
  omega
theorem app_toList (a b : ByteArray) : (a ++ b).data.toList = a.data.toList ++ b.data.toList := by simp
theorem sfx_head {r : Bs} {u : Nat} (h : unitOf r = some u) : ∀ c, r.head? = some c → isD c = false := by
  unfold unitOf at h
  cases hf : sfx.find? (fun x => decide (x.1 = r)) with
  | none => rw [hf] at h; cases h
  | some x =>
    have hm := List.mem_of_find?_eq_some hf
    have hx := List.find?_some hf
    have hx' : x.1 = r := by simpa using hx
    subst hx'
    have : ∀ x ∈ sfx, ∀ c, x.1.head? = some c → isD c = false := by
      intro x hx
      simp only [sfx, List.mem_cons, List.not_mem_nil, or_false] at hx
      rcases hx with rfl | rfl | rfl | rfl | rfl | rfl | rfl | rfl | rfl <;> intro c hc <;> simp at hc <;> subst hc <;> decide
    exact this x hm

set_option maxRecDepth 100000 in
set_option maxHeartbeats 4000000 in
theorem units_walk (n : Int) (s : ByteArray) (hn0 : 0 ≤ n) (hn1 : n ≤ 65535) (hs : s.size ≤ 1000000000000000) (w : World) (hT : Tabs w) : Calls Tryd.prog 7 #[.int .u16 n, .string s] w fun e w' => e = .returned (.bool true) ∧ Below w.heap.size w w' := by
  have HT := Lib.hid hT
  have HB := Lib.hid (Below.refl w.heap.size w)
  clear hT
  obtain ⟨N0, rfl⟩ : ∃ N0 : Nat, n = (N0 : Int) := ⟨n.toNat, by omega⟩
  obtain ⟨N, hN⟩ : ∃ N, N = N0 * 1024 + 1 := ⟨_, rfl⟩
  have ht : tz N = 0 := tz_zero (by omega) (by omega)
  have hpr : printN N = Lib.decDigits N := by unfold printN; rw [if_neg (by omega), ht]; simp [sfxI]
  obtain ⟨P, hP⟩ : ∃ P : ByteArray, P = ⟨(Lib.decDigits N).toArray⟩ := ⟨_, rfl⟩
  have HS1 := Lib.hid (show sRes (printF (N : Int)) = .tuple #[.string P, .int .i64 0] by unfold printF; rw [if_neg (by omega), Int.toNat_natCast, hpr, hP]; rfl)
  have hPl : P.data.toList = Lib.decDigits N := by rw [hP]
  have hPs : P.size ≤ 16 := by have := dec_len N (by omega); rw [hP]; simpa [ByteArray.size] using this
  have w1 : IntKind.i64.wrap (N0 : Int) = (N0 : Int) := IntWalk.i64_in _ (by omega)
  have w2 : wrap64 ((N0 : Int) * 1024) = (N0 : Int) * 1024 := by unfold wrap64; omega
  have w3 : wrap64 ((N0 : Int) * 1024 + 1) = (N : Int) := by unfold wrap64; omega
  have w4 : (N0 : Int) * 1024 + 1 = (N : Int) := by omega
  have hap : (P ++ s).data.toList = Lib.decDigits N ++ s.data.toList := by rw [app_toList, hPl]
  have hsz : (P ++ s).size = P.size + s.size := ByteArray.size_append
  have HPar := Lib.hid (fun w => parse_any (P ++ s) (by omega) w)
  rw [hap] at HPar
  have hNm : N ≤ 67108864 := by omega
  have hN1 : 1 ≤ N := by omega
  have HSz := Lib.hid hsz
  have hlim : (P.size : Int) + (s.size : Int) ≤ 9223372036854775807 := by omega
  have hlim2 : P.size + s.size ≤ 9223372036854775807 := by omega
  clear hP hpr ht hPl hap hsz hN
  cases hu : unitOf s.data.toList with
  | none =>
    have HU := Lib.hid (show uRes (unitOf s.data.toList) = .tuple #[.int .i64 0, .bool false] by rw [hu]; rfl)
    have hs0 : 0 < s.size := by
      refine Nat.pos_of_ne_zero fun e => ?_
      have : s.data.toList = [] := List.eq_nil_of_length_eq_zero (by rw [Array.length_toList]; exact e)
      rw [this] at hu
      exact absurd hu (by decide)
    have hs0' : (0 : Int) < (s.size : Int) := by omega
    have hhd : s.data.toList.head? = some (s[0]'hs0) := by
      rw [List.head?_eq_getElem?, Array.getElem?_toList]
      exact Array.getElem?_eq_some_iff.2 ⟨hs0, rfl⟩
    cases hd : isD (s[0]'hs0) with
    | true =>
      simp only [isD, Bool.and_eq_true, decide_eq_true_eq] at hd
      have d1 : (48 : Int) ≤ ((s[0]'hs0).toNat : Int) := by omega
      have d2 : ((s[0]'hs0).toNat : Int) ≤ 57 := by omega
      obtain ⟨a, b, hab⟩ := pRes_is (parseF (Lib.decDigits N ++ s.data.toList))
      have HA := Lib.hid hab
      clear hab hu hhd hd
      by_cases hb2 : b = 2
      · subst hb2
        go_enter Tryd.func7, Tryd.ntmps7
        go_wp2_with (first | (go_at_call 16; refine (print_any _ _ HT.out).mono ?_; rw [HS1.out]; rintro e w1 ⟨rfl, hb⟩; have HT := Lib.hid (HT.out.below hb); have HB := Lib.hid (HB.out.trans (hb.mono HB.out.size)); clear hb) | (go_at_call 13; refine (unit_any s _).mono ?_; rw [HU.out]; rintro e w2 ⟨rfl, hb⟩; have HT := Lib.hid (HT.out.below hb); have HB := Lib.hid (HB.out.trans (hb.mono HB.out.size)); clear hb) | (go_at_call 11; refine (HPar.out _).mono ?_; rw [HA.out]; rintro e w3 ⟨rfl, hb⟩; have HT := Lib.hid (HT.out.below hb); have HB := Lib.hid (HB.out.trans (hb.mono HB.out.size)); clear hb) | (go_at_call 15; refine (live_any _ HT.out).mono ?_; rintro e w6 ⟨rfl, hb⟩; have HT := Lib.hid (HT.out.below hb); have HB := Lib.hid (HB.out.trans (hb.mono HB.out.size)); clear hb))
        go_ret
        exact ⟨rfl, HB.out⟩
      · have hb2' : (b == 2) = false := beq_false_of_ne hb2
        go_enter Tryd.func7, Tryd.ntmps7
        go_wp2_with (first | (go_at_call 16; refine (print_any _ _ HT.out).mono ?_; rw [HS1.out]; rintro e w1 ⟨rfl, hb⟩; have HT := Lib.hid (HT.out.below hb); have HB := Lib.hid (HB.out.trans (hb.mono HB.out.size)); clear hb) | (go_at_call 13; refine (unit_any s _).mono ?_; rw [HU.out]; rintro e w2 ⟨rfl, hb⟩; have HT := Lib.hid (HT.out.below hb); have HB := Lib.hid (HB.out.trans (hb.mono HB.out.size)); clear hb) | (go_at_call 11; refine (HPar.out _).mono ?_; rw [HA.out]; rintro e w3 ⟨rfl, hb⟩; have HT := Lib.hid (HT.out.below hb); have HB := Lib.hid (HB.out.trans (hb.mono HB.out.size)); clear hb) | (go_at_call 15; refine (live_any _ HT.out).mono ?_; rintro e w6 ⟨rfl, hb⟩; have HT := Lib.hid (HT.out.below hb); have HB := Lib.hid (HB.out.trans (hb.mono HB.out.size)); clear hb))
        go_ret
        exact ⟨rfl, HB.out⟩
    | false =>
      have HA := Lib.hid (show pRes (parseF (Lib.decDigits N ++ s.data.toList)) = .tuple #[.int .i64 0, .int .i64 2] by
        obtain ⟨h1, h2⟩ := digs_app (decDigits_isD N) (b := s.data.toList) (fun c hc => by rw [hhd] at hc; cases hc; exact hd)
        unfold parseF; rw [h2, hu]; rfl)
      clear hu hhd hd
      go_enter Tryd.func7, Tryd.ntmps7
      go_wp2_with (first | (go_at_call 16; refine (print_any _ _ HT.out).mono ?_; rw [HS1.out]; rintro e w1 ⟨rfl, hb⟩; have HT := Lib.hid (HT.out.below hb); have HB := Lib.hid (HB.out.trans (hb.mono HB.out.size)); clear hb) | (go_at_call 13; refine (unit_any s _).mono ?_; rw [HU.out]; rintro e w2 ⟨rfl, hb⟩; have HT := Lib.hid (HT.out.below hb); have HB := Lib.hid (HB.out.trans (hb.mono HB.out.size)); clear hb) | (go_at_call 11; refine (HPar.out _).mono ?_; rw [HA.out]; rintro e w3 ⟨rfl, hb⟩; have HT := Lib.hid (HT.out.below hb); have HB := Lib.hid (HB.out.trans (hb.mono HB.out.size)); clear hb) | (go_at_call 15; refine (live_any _ HT.out).mono ?_; rintro e w6 ⟨rfl, hb⟩; have HT := Lib.hid (HT.out.below hb); have HB := Lib.hid (HB.out.trans (hb.mono HB.out.size)); clear hb))
      go_ret
      exact ⟨rfl, HB.out⟩
  | some u =>
    obtain ⟨hu1, hu2⟩ := unitOf_bnd hu
    have HU := Lib.hid (show uRes (unitOf s.data.toList) = .tuple #[.int .i64 (u : Int), .bool true] by rw [hu]; rfl)
    have hpa := parse_num (m := N) (u := u) (b := s.data.toList) (sfx_head hu) hu (by omega) (by omega)
    have hq : (N ≤ 1125899906842624 / u) ↔ N * u ≤ 1125899906842624 := Nat.le_div_iff_mul_le (by omega)
    obtain ⟨Q, hQ⟩ : ∃ Q, Q = 1125899906842624 / u := ⟨_, rfl⟩
    have hqi : ((1125899906842624 : Int) / (u : Int)) = (Q : Int) := by rw [hQ]; simp
    have hqt : (1125899906842624 : Int).tdiv (u : Int) = (Q : Int) := by rw [Int.tdiv_eq_ediv_of_nonneg (by omega)]; exact hqi
    rw [← hQ] at hq
    have hqb : Q ≤ 1125899906842624 := by rw [hQ]; exact Nat.div_le_self _ _
    have hmul : ((N * u : Nat) : Int) = (N : Int) * (u : Int) := by simp
    clear hu hQ
    by_cases hNQ : N ≤ Q
    · have hle := hq.1 hNQ
      have hNQ' : (N : Int) ≤ (Q : Int) := by omega
      have HA := Lib.hid (show pRes (parseF (Lib.decDigits N ++ s.data.toList)) = .tuple #[.int .i64 ((N : Int) * (u : Int)), .int .i64 0] by rw [hpa, if_pos (show N * u ≤ maxSize from hle), ← hmul]; rfl)
      have hw : wrap64 ((N : Int) * (u : Int)) = (N : Int) * (u : Int) := by rw [← hmul]; unfold wrap64; omega
      clear hpa hq hle hmul
      go_enter Tryd.func7, Tryd.ntmps7
      go_wp2_with (first | (go_at_call 16; refine (print_any _ _ HT.out).mono ?_; rw [HS1.out]; rintro e w1 ⟨rfl, hb⟩; have HT := Lib.hid (HT.out.below hb); have HB := Lib.hid (HB.out.trans (hb.mono HB.out.size)); clear hb) | (go_at_call 13; refine (unit_any s _).mono ?_; rw [HU.out]; rintro e w2 ⟨rfl, hb⟩; have HT := Lib.hid (HT.out.below hb); have HB := Lib.hid (HB.out.trans (hb.mono HB.out.size)); clear hb) | (go_at_call 11; refine (HPar.out _).mono ?_; rw [HA.out]; rintro e w3 ⟨rfl, hb⟩; have HT := Lib.hid (HT.out.below hb); have HB := Lib.hid (HB.out.trans (hb.mono HB.out.size)); clear hb) | (go_at_call 15; refine (live_any _ HT.out).mono ?_; rintro e w6 ⟨rfl, hb⟩; have HT := Lib.hid (HT.out.below hb); have HB := Lib.hid (HB.out.trans (hb.mono HB.out.size)); clear hb))
      go_ret
      exact ⟨rfl, HB.out⟩
    · have hNQ' : ¬ (N : Int) ≤ (Q : Int) := by omega
      have HA := Lib.hid (show pRes (parseF (Lib.decDigits N ++ s.data.toList)) = .tuple #[.int .i64 0, .int .i64 3] by rw [hpa, if_neg (show ¬ N * u ≤ maxSize from fun h => hNQ (hq.2 h))]; rfl)
      clear hpa hq hmul
      go_enter Tryd.func7, Tryd.ntmps7
      go_wp2_with (first | (go_at_call 16; refine (print_any _ _ HT.out).mono ?_; rw [HS1.out]; rintro e w1 ⟨rfl, hb⟩; have HT := Lib.hid (HT.out.below hb); have HB := Lib.hid (HB.out.trans (hb.mono HB.out.size)); clear hb) | (go_at_call 13; refine (unit_any s _).mono ?_; rw [HU.out]; rintro e w2 ⟨rfl, hb⟩; have HT := Lib.hid (HT.out.below hb); have HB := Lib.hid (HB.out.trans (hb.mono HB.out.size)); clear hb) | (go_at_call 11; refine (HPar.out _).mono ?_; rw [HA.out]; rintro e w3 ⟨rfl, hb⟩; have HT := Lib.hid (HT.out.below hb); have HB := Lib.hid (HB.out.trans (hb.mono HB.out.size)); clear hb) | (go_at_call 15; refine (live_any _ HT.out).mono ?_; rintro e w6 ⟨rfl, hb⟩; have HT := Lib.hid (HT.out.below hb); have HB := Lib.hid (HB.out.trans (hb.mono HB.out.size)); clear hb))
      go_ret
      exact ⟨rfl, HB.out⟩

end Go.Proofs.YtcokgpjmhacmeaaDoor
