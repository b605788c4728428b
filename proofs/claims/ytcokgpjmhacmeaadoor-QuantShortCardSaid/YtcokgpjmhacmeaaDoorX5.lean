/- Layer 1 (quant): the walk of QuantShort. -/
import Derived.Test.YtcokgpjmhacmeaaDoorX4
namespace Go.Proofs.YtcokgpjmhacmeaaDoor
open Go.RowKit
set_option linter.unusedVariables false
set_option linter.unusedSimpArgs false
open Go.Shelf

theorem ext_left (s : ByteArray) (a b : Bs) (h : s.data.toList = a ++ b) : s.extract 0 a.length = ⟨a.toArray⟩ ∧ s.extract a.length s.size = ⟨b.toArray⟩ := by
  constructor
  · refine str_eq ?_
    rw [ByteArray.data_extract, Array.toList_extract, List.extract_eq_take_drop, h]
    simp
  · refine str_eq ?_
    have hl : s.size = (a ++ b).length := by rw [← h, Array.length_toList]; rfl
    rw [ByteArray.data_extract, Array.toList_extract, List.extract_eq_take_drop, h, hl]
    simp

set_option maxRecDepth 100000 in
set_option maxHeartbeats 4000000 in
theorem short_walk (n : Int) (w : World) (hT : Tabs w) : Calls Tryd.prog 5 #[.int .i64 n] w fun e w' => e = .returned (.bool true) ∧ Below w.heap.size w w' := by
  have HT := Lib.hid hT
  have HB := Lib.hid (Below.refl w.heap.size w)
  clear hT
  by_cases hn : 0 ≤ n ∧ n ≤ 1125899906842624
  rotate_left
  · have HS1 := Lib.hid (show sRes (printF n) = .tuple #[.string ⟨#[]⟩, .int .i64 3] by unfold printF; rw [if_pos (by omega)]; rfl)
    clear hn
    go_enter Tryd.func5, Tryd.ntmps5
    go_wp2_with (first | (go_at_call 16; refine (print_any _ _ HT.out).mono ?_; rw [HS1.out]; rintro e w1 ⟨rfl, hb⟩; have HT := Lib.hid (HT.out.below hb); have HB := Lib.hid (HB.out.trans (hb.mono HB.out.size)); clear hb) | (go_at_call 15; refine (live_any _ HT.out).mono ?_; rintro e w6 ⟨rfl, hb⟩; have HT := Lib.hid (HT.out.below hb); have HB := Lib.hid (HB.out.trans (hb.mono HB.out.size)); clear hb))
    go_ret
    exact ⟨rfl, HB.out⟩
  obtain ⟨N, rfl⟩ : ∃ N : Nat, n = (N : Int) := ⟨n.toNat, by omega⟩
  by_cases h0 : N = 0
  · subst h0
    change Calls Tryd.prog 5 #[.int .i64 0] w _
    have HS1 := Lib.hid (show sRes (printF 0) = .tuple #[.string ⟨#[48]⟩, .int .i64 0] by rfl)
    clear hn
    go_enter Tryd.func5, Tryd.ntmps5
    go_wp2_with (first | (go_at_call 16; refine (print_any _ _ HT.out).mono ?_; rw [HS1.out]; rintro e w1 ⟨rfl, hb⟩; have HT := Lib.hid (HT.out.below hb); have HB := Lib.hid (HB.out.trans (hb.mono HB.out.size)); clear hb) | (go_at_call 15; refine (live_any _ HT.out).mono ?_; rintro e w6 ⟨rfl, hb⟩; have HT := Lib.hid (HT.out.below hb); have HB := Lib.hid (HB.out.trans (hb.mono HB.out.size)); clear hb))
    go_ret
    exact ⟨rfl, HB.out⟩
  have hNm : N ≤ 1125899906842624 := by omega
  have hz : ¬ (N : Int) = 0 := by omega
  have hk4 := tz_le N
  have hdvd := Nat.div_mul_cancel (tz_dvd h0 (by omega : N < 2 ^ 64))
  have hodd := tz_odd h0 (by omega : N < 2 ^ 64)
  obtain ⟨hsu, hsf⟩ := unit_sfxI (tz N) hk4
  have hq0 : N / 1024 ^ tz N ≠ 0 := fun e => by rw [e] at hdvd; omega
  have hqm : N / 1024 ^ tz N ≤ 1125899906842624 := Nat.le_trans (Nat.div_le_self _ _) hNm
  obtain ⟨S, hS⟩ : ∃ S : ByteArray, S = ⟨(printN N).toArray⟩ := ⟨_, rfl⟩
  have HS1 := Lib.hid (show sRes (printF (N : Int)) = .tuple #[.string S, .int .i64 0] by rw [hS]; unfold printF; rw [if_neg (by omega), Int.toNat_natCast]; rfl)
  have hSl : S.data.toList = Lib.decDigits (N / 1024 ^ tz N) ++ sfxI (tz N) := by rw [hS]; show printN N = _; unfold printN; exact if_neg h0
  have hSs : S.size ≤ 18 := by have := printN_len hNm; rw [hS]; simpa [ByteArray.size] using this
  clear hS hdvd hsu
  generalize hk : tz N = k at *
  generalize hq : N / 1024 ^ k = q at *
  obtain ⟨e1, e2⟩ := ext_left S _ _ hSl
  obtain ⟨g1, g2⟩ := digs_app (decDigits_isD q) hsf
  have hdl := dec_len q hqm
  have HPq := Lib.hid (show ∀ w, Calls Tryd.prog 11 #[.string (S.extract 0 (Lib.decDigits q).length)] w fun e w' => e = .returned (.tuple #[.int .i64 (q : Int), .int .i64 0]) ∧ Below w.heap.size w w' from fun w => by
    rw [e1]
    have h := parse_text (Lib.decDigits q) (by omega) w
    have h2 := parse_num (m := q) (u := 1) (b := []) (by simp) (by decide) (by omega) (by omega)
    rw [List.append_nil, Nat.mul_one, if_pos (show q ≤ maxSize from hqm)] at h2
    rw [h2] at h
    exact h)
  have HTi := Lib.hid (show k = 4 → ((S.extract (Lib.decDigits q).length S.size).toList == [84, 105]) = true from fun h4 => by
    rw [e2, ByteArray.toList_eq, h4]; rfl)
  have hdp := decDigits_pos q
  have hSlen : S.size = (Lib.decDigits q).length + (sfxI k).length := by
    have : S.data.toList.length = S.size := by rw [Array.length_toList]; rfl
    rw [← this, hSl, List.length_append]
  have HAt := Lib.hid (show ∀ j (h : j < (Lib.decDigits q).length) (h' : j < S.size), isD (S[j]'h') = true from fun j h h' => by
    have := digs_at (l := S.data.toList) (j := j) (by rw [hSl, g1]; exact h)
    exact this)
  have HEnd := Lib.hid (show ∀ (h' : (Lib.decDigits q).length < S.size), isD (S[(Lib.decDigits q).length]'h') = false from fun h' => by
    have := digs_end (l := S.data.toList) (by rw [hSl, g1, List.length_append]; omega)
    have e : (digs S.data.toList).length = (Lib.decDigits q).length := by rw [hSl, g1]
    simp only [e] at this
    exact this)
  have hcq : k = 4 ∨ (q % 1024 ≠ 0) := by
    by_cases h : k = 4
    · exact .inl h
    · exact .inr (hodd (by omega))
  have hDS : (Lib.decDigits q).length ≤ S.size := by omega
  clear hSl e1 e2 g1 g2 hsf hodd hSlen
  generalize (Lib.decDigits q).length = D at *
  have hqp : (0 : Int) < (q : Int) := by omega
  have ht : (q : Int).tmod 1024 = (q : Int) % 1024 := Int.tmod_eq_emod_of_nonneg (by omega)
  clear hq hk
  go_enter Tryd.func5, Tryd.ntmps5
  go_wp2_with (first | (go_at_call 16; refine (print_any _ _ HT.out).mono ?_; rw [HS1.out]; rintro e w1 ⟨rfl, hb⟩; have HT := Lib.hid (HT.out.below hb); have HB := Lib.hid (HB.out.trans (hb.mono HB.out.size)); clear hb))
  go_loopw [5] (fun i wr => ∃ j : Nat, j ≤ D ∧ i = .int .i64 j ∧ Hid (Tabs wr) ∧ Hid (Below w.heap.size w wr)) (fun i _ => S.size - (intOf i).toNat)
  case atStart => exact ⟨0, by omega, rfl, HT, HB⟩
  case round =>
    obtain ⟨j, hj, rfl, HT2, HB2⟩ := hrel
    clear HT HB
    have HT := HT2
    have HB := HB2
    clear HT2 HB2
    by_cases hjk : j < D
    · have hjs : j < S.size := by omega
      have hjs' : (j : Int) < (S.size : Int) := by omega
      have hd := HAt.out j hjk hjs
      simp only [isD, Bool.and_eq_true, decide_eq_true_eq] at hd
      obtain ⟨hd1, hd2⟩ := hd
      have hd1' : (48 : Int) ≤ ((S[j]'hjs).toNat : Int) := by omega
      have hd2' : ((S[j]'hjs).toNat : Int) ≤ 57 := by omega
      clear hd1 hd2
      go_wp2
      go_roundw
      case rel => exact ⟨j + 1, by omega, by simp, HT, HB⟩
      case measure => simp [intOf]; omega
    · obtain rfl : D = j := by omega
      clear hj hjk
      rcases (show (¬ (D : Int) < (S.size : Int)) ∨ ((D : Int) < (S.size : Int)) by omega) with hx | hx
      · have hDi : (D : Int) ≤ (S.size : Int) := by omega
        rcases hcq with h4 | hmq
        · have hTi := HTi.out h4
          by_cases hm : q % 1024 = 0
          · have hm' : (q : Int) % 1024 = 0 := by omega
            go_wp2_with (first | (go_at_call 11; refine (HPq.out _).mono ?_; rintro e w2 ⟨rfl, hb⟩; have HT := Lib.hid (HT.out.below hb); have HB := Lib.hid (HB.out.trans (hb.mono HB.out.size)); clear hb) | (go_at_call 15; refine (live_any _ HT.out).mono ?_; rintro e w6 ⟨rfl, hb⟩; have HT := Lib.hid (HT.out.below hb); have HB := Lib.hid (HB.out.trans (hb.mono HB.out.size)); clear hb))
            go_ret
            exact ⟨rfl, HB.out⟩
          · have hm' : (((q : Int) % 1024) == 0) = false := beq_false_of_ne (by omega)
            go_wp2_with (first | (go_at_call 11; refine (HPq.out _).mono ?_; rintro e w2 ⟨rfl, hb⟩; have HT := Lib.hid (HT.out.below hb); have HB := Lib.hid (HB.out.trans (hb.mono HB.out.size)); clear hb) | (go_at_call 15; refine (live_any _ HT.out).mono ?_; rintro e w6 ⟨rfl, hb⟩; have HT := Lib.hid (HT.out.below hb); have HB := Lib.hid (HB.out.trans (hb.mono HB.out.size)); clear hb))
            go_ret
            exact ⟨rfl, HB.out⟩
        · have hm' : (((q : Int) % 1024) == 0) = false := beq_false_of_ne (by omega)
          go_wp2_with (first | (go_at_call 11; refine (HPq.out _).mono ?_; rintro e w2 ⟨rfl, hb⟩; have HT := Lib.hid (HT.out.below hb); have HB := Lib.hid (HB.out.trans (hb.mono HB.out.size)); clear hb) | (go_at_call 15; refine (live_any _ HT.out).mono ?_; rintro e w6 ⟨rfl, hb⟩; have HT := Lib.hid (HT.out.below hb); have HB := Lib.hid (HB.out.trans (hb.mono HB.out.size)); clear hb))
          go_ret
          exact ⟨rfl, HB.out⟩
      · have hks : D < S.size := by omega
        have he := HEnd.out hks
        simp only [isD, Bool.and_eq_false_iff, decide_eq_false_iff_not] at he
        rcases (show (¬ (48 : Int) ≤ ((S[D]'hks).toNat : Int)) ∨ ((48 : Int) ≤ ((S[D]'hks).toNat : Int) ∧ ¬ ((S[D]'hks).toNat : Int) ≤ 57) by omega) with hy | ⟨hy, hz2⟩
        · have hDi : (D : Int) ≤ (S.size : Int) := by omega
          rcases hcq with h4 | hmq
          · have hTi := HTi.out h4
            by_cases hm : q % 1024 = 0
            · have hm' : (q : Int) % 1024 = 0 := by omega
              go_wp2_with (first | (go_at_call 11; refine (HPq.out _).mono ?_; rintro e w2 ⟨rfl, hb⟩; have HT := Lib.hid (HT.out.below hb); have HB := Lib.hid (HB.out.trans (hb.mono HB.out.size)); clear hb) | (go_at_call 15; refine (live_any _ HT.out).mono ?_; rintro e w6 ⟨rfl, hb⟩; have HT := Lib.hid (HT.out.below hb); have HB := Lib.hid (HB.out.trans (hb.mono HB.out.size)); clear hb))
              go_ret
              exact ⟨rfl, HB.out⟩
            · have hm' : (((q : Int) % 1024) == 0) = false := beq_false_of_ne (by omega)
              go_wp2_with (first | (go_at_call 11; refine (HPq.out _).mono ?_; rintro e w2 ⟨rfl, hb⟩; have HT := Lib.hid (HT.out.below hb); have HB := Lib.hid (HB.out.trans (hb.mono HB.out.size)); clear hb) | (go_at_call 15; refine (live_any _ HT.out).mono ?_; rintro e w6 ⟨rfl, hb⟩; have HT := Lib.hid (HT.out.below hb); have HB := Lib.hid (HB.out.trans (hb.mono HB.out.size)); clear hb))
              go_ret
              exact ⟨rfl, HB.out⟩
          · have hm' : (((q : Int) % 1024) == 0) = false := beq_false_of_ne (by omega)
            go_wp2_with (first | (go_at_call 11; refine (HPq.out _).mono ?_; rintro e w2 ⟨rfl, hb⟩; have HT := Lib.hid (HT.out.below hb); have HB := Lib.hid (HB.out.trans (hb.mono HB.out.size)); clear hb) | (go_at_call 15; refine (live_any _ HT.out).mono ?_; rintro e w6 ⟨rfl, hb⟩; have HT := Lib.hid (HT.out.below hb); have HB := Lib.hid (HB.out.trans (hb.mono HB.out.size)); clear hb))
            go_ret
            exact ⟨rfl, HB.out⟩
        · have hDi : (D : Int) ≤ (S.size : Int) := by omega
          rcases hcq with h4 | hmq
          · have hTi := HTi.out h4
            by_cases hm : q % 1024 = 0
            · have hm' : (q : Int) % 1024 = 0 := by omega
              go_wp2_with (first | (go_at_call 11; refine (HPq.out _).mono ?_; rintro e w2 ⟨rfl, hb⟩; have HT := Lib.hid (HT.out.below hb); have HB := Lib.hid (HB.out.trans (hb.mono HB.out.size)); clear hb) | (go_at_call 15; refine (live_any _ HT.out).mono ?_; rintro e w6 ⟨rfl, hb⟩; have HT := Lib.hid (HT.out.below hb); have HB := Lib.hid (HB.out.trans (hb.mono HB.out.size)); clear hb))
              go_ret
              exact ⟨rfl, HB.out⟩
            · have hm' : (((q : Int) % 1024) == 0) = false := beq_false_of_ne (by omega)
              go_wp2_with (first | (go_at_call 11; refine (HPq.out _).mono ?_; rintro e w2 ⟨rfl, hb⟩; have HT := Lib.hid (HT.out.below hb); have HB := Lib.hid (HB.out.trans (hb.mono HB.out.size)); clear hb) | (go_at_call 15; refine (live_any _ HT.out).mono ?_; rintro e w6 ⟨rfl, hb⟩; have HT := Lib.hid (HT.out.below hb); have HB := Lib.hid (HB.out.trans (hb.mono HB.out.size)); clear hb))
              go_ret
              exact ⟨rfl, HB.out⟩
          · have hm' : (((q : Int) % 1024) == 0) = false := beq_false_of_ne (by omega)
            go_wp2_with (first | (go_at_call 11; refine (HPq.out _).mono ?_; rintro e w2 ⟨rfl, hb⟩; have HT := Lib.hid (HT.out.below hb); have HB := Lib.hid (HB.out.trans (hb.mono HB.out.size)); clear hb) | (go_at_call 15; refine (live_any _ HT.out).mono ?_; rintro e w6 ⟨rfl, hb⟩; have HT := Lib.hid (HT.out.below hb); have HB := Lib.hid (HB.out.trans (hb.mono HB.out.size)); clear hb))
            go_ret
            exact ⟨rfl, HB.out⟩

end Go.Proofs.YtcokgpjmhacmeaaDoor
