/- Layer 4 (codec): the program's reader: a number. -/
import Derived.Test.YtgplolfkfhhddaaR1
import Derived.Laws.BitsAllLaws
namespace Go.Proofs.Ytgplolfkfhhddaa
open Go.RowKit
set_option linter.unusedVariables false
set_option linter.unusedSimpArgs false

variable {B : Nat}
theorem rdbyte_some {w : World} {p : Nat} {c : UInt8} {r : Bs} (h : RCur w B p (c :: r)) {C : Nat} (hC : c.toNat = C) : Calls Try.prog 40 #[.pointer (some ⟨p, 0, none⟩)] w fun e w' => e = .returned (.int .u8 (C : Int)) ∧ RCur w' B p r ∧ KeepP p w w' := by
  subst hC
  exact (rdbyte_any w p _ h).mono fun _ _ h => h.yes rfl
theorem rdbyte_none {w : World} {p : Nat} (h : RCur w B p []) : Calls Try.prog 40 #[.pointer (some ⟨p, 0, none⟩)] w fun e w' => e = .panicked bad ∧ KeepP p w w' :=
  (rdbyte_any w p _ h).mono fun _ _ h => h.no rfl

theorem pow7_le {i : Nat} (h : i ≤ 8) : 2 ^ (7 * i) * 128 ≤ 9223372036854775808 := by
  have : 2 ^ (7 * i) ≤ 2 ^ 56 := Nat.pow_le_pow_right (by omega) (by omega)
  omega
theorem vlt {acc c S i : Nat} (hS : S = 7 * i) (hi : i ≤ 9) (hacc : acc < 2 ^ S) (hc : c < 256) (h9 : i = 9 → c ≤ 1) : c % 128 * 2 ^ S < 18446744073709551616 ∧ acc < 18446744073709551616 := by
  subst hS
  by_cases h : i ≤ 8
  · have h1 := pow7_le h
    have h2 : c % 128 * 2 ^ (7 * i) ≤ 127 * 2 ^ (7 * i) := Nat.mul_le_mul_right _ (by omega)
    omega
  · obtain rfl : i = 9 := by omega
    have := h9 rfl
    have h2 : c % 128 * 2 ^ (7 * 9) ≤ 1 * 2 ^ (7 * 9) := Nat.mul_le_mul_right _ (by omega)
    omega
theorem vstep {acc c S i : Nat} (hS : S = 7 * i) (hi : i ≤ 9) (hacc : acc < 2 ^ S) (hc : c < 256) (h9 : i = 9 → c ≤ 1) :
    bits .or .u64 (acc : Int) (IntKind.u64.wrap (IntKind.u64.wrap (bits .and .u8 (c : Int) 127) * 2 ^ min S 64)) = ((acc + 2 ^ S * (c % 128) : Nat) : Int) := by
  obtain ⟨h1, h2⟩ := vlt hS hi hacc hc h9
  have e1 : bits .and .u8 (c : Int) 127 = ((c % 128 : Nat) : Int) := by
    have := u8_and_nat c 127 hc (by omega)
    rw [nat_mask7] at this
    exact this
  have e2 : min S 64 = S := by omega
  have e3 : IntKind.u64.wrap (((c % 128 : Nat) : Int)) = ((c % 128 : Nat) : Int) := by rw [IntKind.wrap_u64]; omega
  have e4 : (((c % 128 : Nat) : Int)) * 2 ^ S = ((c % 128 * 2 ^ S : Nat) : Int) := by rw [Int.natCast_mul, Int.natCast_pow]; rfl
  rw [e1, e2, e3, e4, IntKind.wrap_u64]
  have e5 : ((c % 128 * 2 ^ S : Nat) : Int) % 18446744073709551616 = ((c % 128 * 2 ^ S : Nat) : Int) := by omega
  rw [e5, u64_or_nat _ _ h2 h1, Nat.or_comm, nat_join S _ _ (by rw [Nat.mul_mod_left]) hacc]
  congr 1
  rw [Nat.mul_comm, Nat.add_comm]

theorem numD_hi {i : Nat} {c : UInt8} {r : Bs} (hi : i < 9) (hc : 128 ≤ c.toNat) : numD i (c :: r) = (numD (i + 1) r).map fun x => (c.toNat % 128 + 128 * x.1, x.2) := by
  rw [numD, if_neg (by omega), if_neg (by omega), if_neg (by omega)]
  cases numD (i + 1) r <;> rfl
theorem numD_lo {i : Nat} {c : UInt8} {r : Bs} (hi : i ≤ 9) (h9 : i = 9 → c.toNat ≤ 1) (hc : c.toNat < 128) (h0 : ¬ (c.toNat = 0 ∧ 0 < i)) : numD i (c :: r) = some (c.toNat, r) := by
  rw [numD, if_neg (by omega), if_neg (by omega), if_pos hc, if_neg h0]
theorem numD_no {i : Nat} {c : UInt8} {r : Bs} (hi : i ≤ 9) (h : (i = 9 ∧ 1 < c.toNat) ∨ (c.toNat = 0 ∧ 0 < i)) : numD i (c :: r) = none := by
  rw [numD, if_neg (by omega)]
  split
  · rfl
  · rw [if_pos (by omega), if_pos (by omega)]

theorem vstep' {acc c S i : Nat} (hS : S = 7 * i) (hi : i ≤ 9) (hacc : acc < 2 ^ S) (hc : c < 256) (h9 : i = 9 → c ≤ 1) :
    bits .or .u64 (acc : Int) (IntKind.u64.wrap (IntKind.u64.wrap (bits .and .u8 (c : Int) 127) * 2 ^ S)) = ((acc + 2 ^ S * (c % 128) : Nat) : Int) := by
  have := vstep hS hi hacc hc h9
  rwa [show min S 64 = S by omega] at this
theorem D_lo {acc C S i : Nat} {bs r : Bs} {c : UInt8} (hD : numD 0 bs = (numD i (c :: r)).map fun x => (acc + 2 ^ (7 * i) * x.1, x.2)) (hS : S = 7 * i) (hC : c.toNat = C) (hi : i ≤ 9) (h9 : i = 9 → C ≤ 1) (hc : C < 128) (h0 : ¬ (C = 0 ∧ 0 < i)) :
    numD 0 bs = some (acc + 2 ^ S * (C % 128), r) := by
  subst hC; subst hS
  rw [hD, numD_lo hi h9 hc h0, Nat.mod_eq_of_lt hc]; rfl
theorem D_no {acc C S i : Nat} {bs r : Bs} {c : UInt8} (hD : numD 0 bs = (numD i (c :: r)).map fun x => (acc + 2 ^ (7 * i) * x.1, x.2)) (hS : S = 7 * i) (hC : c.toNat = C) (hi : i ≤ 9) (h : (i = 9 ∧ 1 < C) ∨ (C = 0 ∧ 0 < i)) :
    numD 0 bs = none := by
  subst hC; subst hS
  rw [hD, numD_no hi h]; rfl
theorem D_hi {acc C S i : Nat} {bs r : Bs} {c : UInt8} (hD : numD 0 bs = (numD i (c :: r)).map fun x => (acc + 2 ^ (7 * i) * x.1, x.2)) (hS : S = 7 * i) (hC : c.toNat = C) (hi : i < 9) (hc : 128 ≤ C) :
    numD 0 bs = (numD (i + 1) r).map fun x => (acc + 2 ^ S * (C % 128) + 2 ^ (7 * (i + 1)) * x.1, x.2) := by
  subst hC; subst hS
  rw [hD, numD_hi hi hc, Option.map_map]
  congr 1
  funext x
  simp only [Function.comp, Prod.mk.injEq, and_true]
  rw [show 7 * (i + 1) = 7 * i + 7 by omega, Nat.pow_add, Nat.mul_add, Nat.mul_assoc, Nat.add_assoc]
theorem wrap7 (S i : Nat) (hS : S = 7 * i) (hi : i < 9) : wrap64 ((S : Int) + 7) = ((S + 7 : Nat) : Int) := by unfold wrap64; omega
theorem acc_hi {acc C S i : Nat} (hS : S = 7 * i) (hacc : acc < 2 ^ S) : acc + 2 ^ S * (C % 128) < 2 ^ (7 * (i + 1)) := by
  subst hS
  rw [show 7 * (i + 1) = 7 * i + 7 by omega, Nat.pow_add]
  have h1 : 2 ^ (7 * i) * (C % 128) ≤ 2 ^ (7 * i) * 127 := Nat.mul_le_mul_left _ (by omega)
  omega

set_option maxRecDepth 100000 in
set_option maxHeartbeats 2000000 in
theorem rdnum_any (w : World) (p : Nat) (bs : Bs) (h : RCur w B p bs) : Calls Try.prog 39 #[.pointer (some ⟨p, 0, none⟩)] w fun e w' => Rd w B p (fun n : Nat => .int .u64 (n : Int)) (numD 0 bs) e w' := by
  have H := Lib.hid h
  clear h
  go_enter Try.func39, Try.ntmps39
  go_wp2
  go_loopw [2, 3] (fun s2 s3 wr => ∃ (i acc S : Nat) (cur : Bs), s2 = .int .u64 (acc : Int) ∧ s3 = .int .i64 (S : Int) ∧ Hid (S = 7 * i) ∧ i ≤ 9 ∧ Hid (acc < 2 ^ (7 * i)) ∧ Hid (RCur wr B p cur) ∧ Hid (KeepP p w wr) ∧
      Hid (numD 0 bs = (numD i cur).map fun x => (acc + 2 ^ (7 * i) * x.1, x.2))) (fun _ s3 _ => 63 - (intOf s3).toNat)
  case atStart => exact ⟨0, 0, 0, bs, rfl, rfl, Lib.hid (by simp), by omega, Lib.hid (by simp), H, Lib.hid (Keeps.refl _ _), Lib.hid (by cases numD 0 bs <;> simp)⟩
  case round =>
    obtain ⟨i, acc, S, cur, rfl, rfl, hS, hi, hacc, HR, HK, hD⟩ := hrel
    cases cur with
    | nil =>
      go_wp2_with (go_at_call 40; refine (rdbyte_none HR.out).mono ?_; rintro e w2 ⟨rfl, hk⟩)
      exact ⟨rfl, Rd.mkNo (by rw [hD.out]; rfl) ⟨rfl, HK.out.trans hk⟩⟩
    | cons c r =>
      have hc8 := c.toNat_lt
      obtain ⟨C, hC⟩ : ∃ C, c.toNat = C := ⟨_, rfl⟩
      have HCe := Lib.hid hC
      clear hC
      rw [HCe.out] at hc8
      have hSS := hS.out
      have ha := hacc.out
      rw [← hSS] at ha
      have HA := Lib.hid ha
      clear ha
      by_cases hok : i < 9 ∨ C ≤ 1
      · have HF9 := Lib.hid (show i = 9 → C ≤ 1 by omega)
        have HV := Lib.hid (vstep hS.out hi HA.out hc8 HF9.out)
        have HV' := Lib.hid (vstep' hS.out hi HA.out hc8 HF9.out)
        have hm : ∃ b1 b2 b3 : Bool, (decide (S < 63) = b1 ∧ decide ((S : Int) < 63) = b1) ∧ (((S : Int) == 63) = b2 ∧ (decide ((C : Int) ≤ 1) = b3 ∧ decide (C ≤ 1) = b3)) ∧ (b1 = true ∨ (b1 = false ∧ b2 = true ∧ b3 = true)) := by
          refine ⟨_, _, _, ⟨rfl, ?_⟩, ⟨rfl, rfl, ?_⟩, ?_⟩
          · simp only [decide_eq_decide]; constructor <;> intro h <;> omega
          · simp only [decide_eq_decide]; constructor <;> intro h <;> omega
          · by_cases h : i < 9
            · left; simp; omega
            · right; refine ⟨?_, ?_, ?_⟩ <;> simp <;> omega
        obtain ⟨b1, b2, b3, ⟨d1, d1i⟩, ⟨d2, d3, d3n⟩, hb⟩ := hm
        by_cases hc : C < 128
        · have d4 : decide ((C : Int) < 128) = true := by simp; omega
          have d4n : decide (C < 128) = true := by simp; omega
          by_cases h0 : C = 0
          · have d5 : ((C : Int) != 0) = false := by simp; omega
            by_cases hz : i = 0
            · have d6 : ((S : Int) == 0) = true := by simp; omega
              have HF := Lib.hid (show C < 128 ∧ ¬ (C = 0 ∧ 0 < i) by omega)
              clear hc h0 hz hok hSS
              rcases hb with rfl | ⟨rfl, rfl, rfl⟩
              · go_wp2_with (first
                  | (go_at_call 40; refine (rdbyte_some HR.out HCe.out).mono ?_; rintro e w2 ⟨rfl, hc, hk⟩; have HC := Lib.hid hc; have HK2 := Lib.hid (HK.out.trans hk); clear hc hk)
                  | (go_at_call 41; refine (must_ok _).mono ?_; rintro e w3 ⟨rfl, hw⟩; have hw' := hw.symm; subst hw'; clear hw)
                  | (go_at_call 41; refine (must_bad _).mono ?_; rintro e w3 ⟨rfl, hw⟩; have hw' := hw.symm; subst hw'; clear hw))
                go_ret
                exact Rd.mkYes (D_lo hD.out hS.out HCe.out hi HF9.out HF.out.1 HF.out.2) ⟨by first | (rw [HV.out]; rfl) | (rw [HV'.out]; rfl), HC.out, HK2.out⟩
              · go_wp2_with (first
                  | (go_at_call 40; refine (rdbyte_some HR.out HCe.out).mono ?_; rintro e w2 ⟨rfl, hc, hk⟩; have HC := Lib.hid hc; have HK2 := Lib.hid (HK.out.trans hk); clear hc hk)
                  | (go_at_call 41; refine (must_ok _).mono ?_; rintro e w3 ⟨rfl, hw⟩; have hw' := hw.symm; subst hw'; clear hw)
                  | (go_at_call 41; refine (must_bad _).mono ?_; rintro e w3 ⟨rfl, hw⟩; have hw' := hw.symm; subst hw'; clear hw))
                go_ret
                exact Rd.mkYes (D_lo hD.out hS.out HCe.out hi HF9.out HF.out.1 HF.out.2) ⟨by first | (rw [HV.out]; rfl) | (rw [HV'.out]; rfl), HC.out, HK2.out⟩
            · have d6 : ((S : Int) == 0) = false := by simp; omega
              have HF := Lib.hid (show (i = 9 ∧ 1 < C) ∨ (C = 0 ∧ 0 < i) by omega)
              clear hc h0 hz hok hSS
              rcases hb with rfl | ⟨rfl, rfl, rfl⟩
              · go_wp2_with (first
                  | (go_at_call 40; refine (rdbyte_some HR.out HCe.out).mono ?_; rintro e w2 ⟨rfl, hc, hk⟩; have HC := Lib.hid hc; have HK2 := Lib.hid (HK.out.trans hk); clear hc hk)
                  | (go_at_call 41; refine (must_ok _).mono ?_; rintro e w3 ⟨rfl, hw⟩; have hw' := hw.symm; subst hw'; clear hw)
                  | (go_at_call 41; refine (must_bad _).mono ?_; rintro e w3 ⟨rfl, hw⟩; have hw' := hw.symm; subst hw'; clear hw))
                exact ⟨rfl, Rd.mkNo (D_no hD.out hS.out HCe.out hi HF.out) ⟨rfl, HK2.out⟩⟩
              · go_wp2_with (first
                  | (go_at_call 40; refine (rdbyte_some HR.out HCe.out).mono ?_; rintro e w2 ⟨rfl, hc, hk⟩; have HC := Lib.hid hc; have HK2 := Lib.hid (HK.out.trans hk); clear hc hk)
                  | (go_at_call 41; refine (must_ok _).mono ?_; rintro e w3 ⟨rfl, hw⟩; have hw' := hw.symm; subst hw'; clear hw)
                  | (go_at_call 41; refine (must_bad _).mono ?_; rintro e w3 ⟨rfl, hw⟩; have hw' := hw.symm; subst hw'; clear hw))
                exact ⟨rfl, Rd.mkNo (D_no hD.out hS.out HCe.out hi HF.out) ⟨rfl, HK2.out⟩⟩
          · have d5 : ((C : Int) != 0) = true := by simp; omega
            have HF := Lib.hid (show C < 128 ∧ ¬ (C = 0 ∧ 0 < i) by omega)
            clear hc h0 hok hSS
            rcases hb with rfl | ⟨rfl, rfl, rfl⟩
            · go_wp2_with (first
                | (go_at_call 40; refine (rdbyte_some HR.out HCe.out).mono ?_; rintro e w2 ⟨rfl, hc, hk⟩; have HC := Lib.hid hc; have HK2 := Lib.hid (HK.out.trans hk); clear hc hk)
                | (go_at_call 41; refine (must_ok _).mono ?_; rintro e w3 ⟨rfl, hw⟩; have hw' := hw.symm; subst hw'; clear hw)
                | (go_at_call 41; refine (must_bad _).mono ?_; rintro e w3 ⟨rfl, hw⟩; have hw' := hw.symm; subst hw'; clear hw))
              go_ret
              exact Rd.mkYes (D_lo hD.out hS.out HCe.out hi HF9.out HF.out.1 HF.out.2) ⟨by first | (rw [HV.out]; rfl) | (rw [HV'.out]; rfl), HC.out, HK2.out⟩
            · go_wp2_with (first
                | (go_at_call 40; refine (rdbyte_some HR.out HCe.out).mono ?_; rintro e w2 ⟨rfl, hc, hk⟩; have HC := Lib.hid hc; have HK2 := Lib.hid (HK.out.trans hk); clear hc hk)
                | (go_at_call 41; refine (must_ok _).mono ?_; rintro e w3 ⟨rfl, hw⟩; have hw' := hw.symm; subst hw'; clear hw)
                | (go_at_call 41; refine (must_bad _).mono ?_; rintro e w3 ⟨rfl, hw⟩; have hw' := hw.symm; subst hw'; clear hw))
              go_ret
              exact Rd.mkYes (D_lo hD.out hS.out HCe.out hi HF9.out HF.out.1 HF.out.2) ⟨by first | (rw [HV.out]; rfl) | (rw [HV'.out]; rfl), HC.out, HK2.out⟩
        · have d4 : decide ((C : Int) < 128) = false := by simp; omega
          have d4n : decide (C < 128) = false := by simp; omega
          have h9 : i < 9 := by omega
          have hb1 : b1 = true := by rw [← d1]; simp; omega
          subst hb1
          have HF := Lib.hid (And.intro h9 (show 128 ≤ C by omega))
          clear hc hok hSS hb h9
          go_wp2_with (first
            | (go_at_call 40; refine (rdbyte_some HR.out HCe.out).mono ?_; rintro e w2 ⟨rfl, hc, hk⟩; have HC := Lib.hid hc; have HK2 := Lib.hid (HK.out.trans hk); clear hc hk)
            | (go_at_call 41; refine (must_ok _).mono ?_; rintro e w3 ⟨rfl, hw⟩; have hw' := hw.symm; subst hw'; clear hw)
            | (go_at_call 41; refine (must_bad _).mono ?_; rintro e w3 ⟨rfl, hw⟩; have hw' := hw.symm; subst hw'; clear hw))
          have HW7 := Lib.hid (wrap7 S i hS.out HF.out.1)
          go_roundw
          case rel => exact ⟨i + 1, acc + 2 ^ S * (C % 128), S + 7, r, by first | rw [HV.out] | rw [HV'.out], by rw [HW7.out], Lib.hid (by have := hS.out; omega), by have := HF.out.1; omega, Lib.hid (acc_hi hS.out HA.out), HC, HK2, Lib.hid (D_hi hD.out hS.out HCe.out HF.out.1 HF.out.2)⟩
          case measure => have := hS.out; have := HF.out.1; rw [HW7.out]; simp [intOf]; omega
      · have d1 : decide (S < 63) = false := by simp; omega
        have d1i : decide ((S : Int) < 63) = false := by simp; omega
        have d2 : ((S : Int) == 63) = true := by simp; omega
        have d3 : decide ((C : Int) ≤ 1) = false := by simp; omega
        have d3n : decide (C ≤ 1) = false := by simp; omega
        have HF := Lib.hid (show (i = 9 ∧ 1 < C) ∨ (C = 0 ∧ 0 < i) by omega)
        clear hok hSS
        go_wp2_with (first
          | (go_at_call 40; refine (rdbyte_some HR.out HCe.out).mono ?_; rintro e w2 ⟨rfl, hc, hk⟩; have HC := Lib.hid hc; have HK2 := Lib.hid (HK.out.trans hk); clear hc hk)
          | (go_at_call 41; refine (must_ok _).mono ?_; rintro e w3 ⟨rfl, hw⟩; have hw' := hw.symm; subst hw'; clear hw)
          | (go_at_call 41; refine (must_bad _).mono ?_; rintro e w3 ⟨rfl, hw⟩; have hw' := hw.symm; subst hw'; clear hw))
        exact ⟨rfl, Rd.mkNo (D_no hD.out hS.out HCe.out hi HF.out) ⟨rfl, HK2.out⟩⟩

end Go.Proofs.Ytgplolfkfhhddaa
