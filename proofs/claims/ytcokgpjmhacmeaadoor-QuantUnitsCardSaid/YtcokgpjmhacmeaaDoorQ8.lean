/- Layer 1 (quant): Print. -/
import Derived.Test.YtcokgpjmhacmeaaDoorQ7
namespace Go.Proofs.YtcokgpjmhacmeaaDoor
open Go.RowKit
set_option linter.unusedVariables false
set_option linter.unusedSimpArgs false
open Go.Shelf

def sRes (x : Bs × Int) : Value := .tuple #[.string ⟨x.1.toArray⟩, .int .i64 x.2]
theorem app_str (a b : Bs) : (⟨a.toArray⟩ : ByteArray) ++ (⟨b.toArray⟩ : ByteArray) = ⟨(a ++ b).toArray⟩ := by
  apply ByteArray.ext
  simp

theorem dec_len (m : Nat) (h : m ≤ 1125899906842624) : (Lib.decDigits m).length ≤ 16 := by rw [Lib.decDigits_length]; exact nDigits_le (k := 15) (by omega)
theorem itoa_at (x : Int) (m : Nat) (hx : x = (m : Int)) (h1 : m ≤ 1125899906842624) (w : World) (hT : Tabs w) : Calls Tryd.prog 27 #[.int .i64 x] w fun e w' => e = .returned (.string ⟨(Lib.decDigits m).toArray⟩) ∧ Below w.heap.size w w' := by
  subst hx; exact itoa_any m h1 w hT

set_option maxHeartbeats 2000000 in
theorem print_any (n : Int) (w : World) (hT : Tabs w) : Calls Tryd.prog 16 #[.int .i64 n] w fun e w' => e = .returned (sRes (printF n)) ∧ Below w.heap.size w w' := by
  have HT := Lib.hid hT
  clear hT
  by_cases hb : n < 0 ∨ 1125899906842624 < n
  · have HP := Lib.hid (show printF n = ([], 3) from if_pos hb)
    have e1 : fitF n 1125899906842624 = false := by simp [fitF]; omega
    clear hb
    go_enter Tryd.func16, Tryd.ntmps16
    go_wp2_with (go_at_call 18; refine (fits_any _ _ _).mono ?_; rw [e1]; rintro e w1 ⟨rfl, rfl⟩)
    go_ret2
    rw [HP.out]
    exact ⟨rfl, Below.refl _ _⟩
  · have h1 : 0 ≤ n := by omega
    have h2 : n ≤ 1125899906842624 := by omega
    have e1 : fitF n 1125899906842624 = true := by simp [fitF, h1, h2]
    obtain ⟨N, rfl⟩ : ∃ N : Nat, n = (N : Int) := ⟨n.toNat, by omega⟩
    have HP := Lib.hid (show printF (N : Int) = (printN N, 0) by unfold printF; rw [if_neg hb, Int.toNat_natCast])
    clear hb
    by_cases h0 : N = 0
    · subst h0
      go_enter Tryd.func16, Tryd.ntmps16
      go_wp2_with (go_at_call 18; refine (fits_any _ _ _).mono ?_; rw [show fitF 0 1125899906842624 = true by decide]; rintro e w1 ⟨rfl, rfl⟩)
      go_ret2
      rw [HP.out]
      exact ⟨rfl, Below.refl _ _⟩
    · have hz : ((N : Int) == 0) = false := beq_false_of_ne (by omega)
      have hcv : IntKind.u64.wrap (N : Int) = (N : Int) := by unfold IntKind.wrap; simp [IntKind.bits, IntKind.signed] <;> omega
      have HN := Lib.hid (show printN N = Lib.decDigits (N / 1024 ^ tz N) ++ sfxI (tz N) from if_neg h0)
      have hle := tz_le N
      have HZ := Lib.hid (show tz N = min (Lib.ctz 64 N / 10) 4 from rfl)
      have hdiv : N / 1024 ^ tz N ≤ N := Nat.div_le_self _ _
      generalize hc : Lib.ctz 64 N = c at *
      generalize hk : tz N = k at *
      have HC := Lib.hid hc
      clear hc hk
      have hcb : c < 64 := by rw [← HC.out]; exact (Lib.lowest_bit 64 N h0 (by omega)).2
      rcases (show k = 0 ∨ k = 1 ∨ k = 2 ∨ k = 3 ∨ k = 4 by omega) with rfl | rfl | rfl | rfl | rfl
      · have hmin : min ((c : Int) / 10) 4 = 0 := by have := HZ.out; omega
        have HE := Lib.hid (show (⟨#[]⟩ : ByteArray) = ⟨(sfxI 0).toArray⟩ by decide)
        have HQ := Lib.hid (show (N : Int) = ((N / 1024 ^ 0 : Nat) : Int) by simp)
        have HQ0 := Lib.hid hdiv
        clear hdiv
        go_enter Tryd.func16, Tryd.ntmps16
        go_wp2_with (first | (go_at_call 18; refine (fits_any _ _ _).mono ?_; rw [e1]; rintro e w1 ⟨rfl, rfl⟩) | (go_at_call 26; refine (tz_any N (by omega) _ HT.out).mono ?_; rw [HC.out]; rintro e w2 ⟨rfl, rfl⟩) | (go_at_call 27; refine (itoa_at _ (N / 1024 ^ 0) HQ.out (by have := HQ0.out; omega) _ HT.out).mono ?_; rintro e w3 ⟨rfl, hb⟩; have hdl := dec_len (N / 1024 ^ 0) (by have := HQ0.out; omega); generalize Lib.decDigits (N / 1024 ^ 0) = dd at *))
        go_ret2
        rw [HP.out]
        refine ⟨?_, hb⟩
        have h := HE.out
        have h2 := app_str dd (sfxI 0)
        rw [← HN.out, ← h] at h2
        simp only [sRes]
        rw [← h2]
        rfl
      · have hmin : min ((c : Int) / 10) 4 = 1 := by have := HZ.out; omega
        have HE := Lib.hid (show (⟨#[75, 77, 71, 84]⟩ : ByteArray).extract 0 1 ++ ⟨#[105]⟩ = ⟨(sfxI 1).toArray⟩ by decide)
        have HQ := Lib.hid (show ((N : Int) / 1024) = ((N / 1024 ^ 1 : Nat) : Int) by simp)
        have HQ0 := Lib.hid hdiv
        clear hdiv
        go_enter Tryd.func16, Tryd.ntmps16
        go_wp2_with (first | (go_at_call 18; refine (fits_any _ _ _).mono ?_; rw [e1]; rintro e w1 ⟨rfl, rfl⟩) | (go_at_call 26; refine (tz_any N (by omega) _ HT.out).mono ?_; rw [HC.out]; rintro e w2 ⟨rfl, rfl⟩) | (go_at_call 27; refine (itoa_at _ (N / 1024 ^ 1) HQ.out (by have := HQ0.out; omega) _ HT.out).mono ?_; rintro e w3 ⟨rfl, hb⟩; have hdl := dec_len (N / 1024 ^ 1) (by have := HQ0.out; omega); generalize Lib.decDigits (N / 1024 ^ 1) = dd at *))
        go_ret2
        rw [HP.out]
        refine ⟨?_, hb⟩
        have h := HE.out
        have h2 := app_str dd (sfxI 1)
        rw [← HN.out, ← h] at h2
        simp only [sRes]
        rw [← h2]
        rfl
      · have hmin : min ((c : Int) / 10) 4 = 2 := by have := HZ.out; omega
        have HE := Lib.hid (show (⟨#[75, 77, 71, 84]⟩ : ByteArray).extract 1 2 ++ ⟨#[105]⟩ = ⟨(sfxI 2).toArray⟩ by decide)
        have HQ := Lib.hid (show ((N : Int) / 1048576) = ((N / 1024 ^ 2 : Nat) : Int) by simp)
        have HQ0 := Lib.hid hdiv
        clear hdiv
        go_enter Tryd.func16, Tryd.ntmps16
        go_wp2_with (first | (go_at_call 18; refine (fits_any _ _ _).mono ?_; rw [e1]; rintro e w1 ⟨rfl, rfl⟩) | (go_at_call 26; refine (tz_any N (by omega) _ HT.out).mono ?_; rw [HC.out]; rintro e w2 ⟨rfl, rfl⟩) | (go_at_call 27; refine (itoa_at _ (N / 1024 ^ 2) HQ.out (by have := HQ0.out; omega) _ HT.out).mono ?_; rintro e w3 ⟨rfl, hb⟩; have hdl := dec_len (N / 1024 ^ 2) (by have := HQ0.out; omega); generalize Lib.decDigits (N / 1024 ^ 2) = dd at *))
        go_ret2
        rw [HP.out]
        refine ⟨?_, hb⟩
        have h := HE.out
        have h2 := app_str dd (sfxI 2)
        rw [← HN.out, ← h] at h2
        simp only [sRes]
        rw [← h2]
        rfl
      · have hmin : min ((c : Int) / 10) 4 = 3 := by have := HZ.out; omega
        have HE := Lib.hid (show (⟨#[75, 77, 71, 84]⟩ : ByteArray).extract 2 3 ++ ⟨#[105]⟩ = ⟨(sfxI 3).toArray⟩ by decide)
        have HQ := Lib.hid (show ((N : Int) / 1073741824) = ((N / 1024 ^ 3 : Nat) : Int) by simp)
        have HQ0 := Lib.hid hdiv
        clear hdiv
        go_enter Tryd.func16, Tryd.ntmps16
        go_wp2_with (first | (go_at_call 18; refine (fits_any _ _ _).mono ?_; rw [e1]; rintro e w1 ⟨rfl, rfl⟩) | (go_at_call 26; refine (tz_any N (by omega) _ HT.out).mono ?_; rw [HC.out]; rintro e w2 ⟨rfl, rfl⟩) | (go_at_call 27; refine (itoa_at _ (N / 1024 ^ 3) HQ.out (by have := HQ0.out; omega) _ HT.out).mono ?_; rintro e w3 ⟨rfl, hb⟩; have hdl := dec_len (N / 1024 ^ 3) (by have := HQ0.out; omega); generalize Lib.decDigits (N / 1024 ^ 3) = dd at *))
        go_ret2
        rw [HP.out]
        refine ⟨?_, hb⟩
        have h := HE.out
        have h2 := app_str dd (sfxI 3)
        rw [← HN.out, ← h] at h2
        simp only [sRes]
        rw [← h2]
        rfl
      · have hmin : min ((c : Int) / 10) 4 = 4 := by have := HZ.out; omega
        have HE := Lib.hid (show (⟨#[75, 77, 71, 84]⟩ : ByteArray).extract 3 4 ++ ⟨#[105]⟩ = ⟨(sfxI 4).toArray⟩ by decide)
        have HQ := Lib.hid (show ((N : Int) / 1099511627776) = ((N / 1024 ^ 4 : Nat) : Int) by simp)
        have HQ0 := Lib.hid hdiv
        clear hdiv
        go_enter Tryd.func16, Tryd.ntmps16
        go_wp2_with (first | (go_at_call 18; refine (fits_any _ _ _).mono ?_; rw [e1]; rintro e w1 ⟨rfl, rfl⟩) | (go_at_call 26; refine (tz_any N (by omega) _ HT.out).mono ?_; rw [HC.out]; rintro e w2 ⟨rfl, rfl⟩) | (go_at_call 27; refine (itoa_at _ (N / 1024 ^ 4) HQ.out (by have := HQ0.out; omega) _ HT.out).mono ?_; rintro e w3 ⟨rfl, hb⟩; have hdl := dec_len (N / 1024 ^ 4) (by have := HQ0.out; omega); generalize Lib.decDigits (N / 1024 ^ 4) = dd at *))
        go_ret2
        rw [HP.out]
        refine ⟨?_, hb⟩
        have h := HE.out
        have h2 := app_str dd (sfxI 4)
        rw [← HN.out, ← h] at h2
        simp only [sRes]
        rw [← h2]
        rfl

end Go.Proofs.YtcokgpjmhacmeaaDoor
