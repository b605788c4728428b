/- Layer 1 (quant): the document's Parse. -/
import Derived.Test.YtcokgpjmhacmeaaDoorQ5
namespace Go.Proofs.YtcokgpjmhacmeaaDoor
open Go.RowKit
set_option linter.unusedVariables false
set_option linter.unusedSimpArgs false
open Go.Shelf

theorem digs_le (l : Bs) : (digs l).length ≤ l.length := by have := digs_length l; omega
theorem digs_at {l : Bs} {j : Nat} (h : j < (digs l).length) : isD (l[j]'(Nat.lt_of_lt_of_le h (digs_le l))) = true := by
  have e : l[j]? = (digs l)[j]? := by
    conv => lhs; rw [← digs_rest l]
    exact List.getElem?_append_left h
  rw [List.getElem?_eq_getElem (Nat.lt_of_lt_of_le h (digs_le l)), List.getElem?_eq_getElem h] at e
  rw [Option.some.inj e]
  exact digs_isD _ (List.getElem_mem _)
theorem digs_end {l : Bs} (h : (digs l).length < l.length) : isD (l[(digs l).length]'h) = false := by
  cases hr : rest l with
  | nil => have := digs_length l; rw [hr] at this; simp at this; omega
  | cons c r =>
    have e : l[(digs l).length]? = some c := by
      conv => lhs; arg 1; rw [← digs_rest l]
      rw [List.getElem?_append_right (Nat.le_refl _), hr]; simp
    rw [List.getElem?_eq_getElem h] at e
    rw [Option.some.inj e]
    exact rest_head hr
theorem digs_take {l : Bs} {j : Nat} (h : j ≤ (digs l).length) : (digs l).take j = l.take j := by
  conv => rhs; rw [← digs_rest l]
  rw [List.take_append_of_le_length h]

set_option maxRecDepth 100000 in
set_option maxHeartbeats 2000000 in
theorem parseR_any (s : ByteArray) (hs : s.size ≤ 9223372036854775807) (w : World) : Calls Tryd.prog 12 #[.string s] w fun e w' => e = .returned (pRes (parseF s.data.toList)) ∧ Below w.heap.size w w' := by
  have HSZ := Lib.hid (show s.data.toList.length = s.size by rw [Array.length_toList]; rfl)
  have HDL := Lib.hid (digs_length s.data.toList)
  obtain ⟨k, hk⟩ : ∃ k, k = (digs s.data.toList).length := ⟨_, rfl⟩
  have HKD := Lib.hid hk
  have kb' : k ≤ s.size := by have h1 := HSZ.out; have h2 := HDL.out; omega
  have HAt := Lib.hid (show ∀ j (h : j < k) (h' : j < s.size), isD (s[j]'h') = true from fun j h h' => digs_at (l := s.data.toList) (by omega))
  have HEnd := Lib.hid (show ∀ (h' : k < s.size), isD (s[k]'h') = false from fun h' => by subst hk; exact digs_end (l := s.data.toList) (by rw [HSZ.out]; exact h'))
  clear hk
  go_enter Tryd.func12, Tryd.ntmps12
  go_wp2
  go_loopw [4] (fun n wr => ∃ j : Nat, j ≤ k ∧ n = .int .i64 j ∧ wr = w) (fun n _ => s.size - (intOf n).toNat)
  case atStart => exact ⟨0, by omega, rfl, rfl⟩
  case round =>
    obtain ⟨j, hj, rfl, rfl⟩ := hrel
    by_cases hjk : j < k
    · have hjs : j < s.size := by omega
      have hjs' : (j : Int) < (s.size : Int) := by omega
      have hd := HAt.out j hjk hjs
      simp only [isD, Bool.and_eq_true, decide_eq_true_eq] at hd
      obtain ⟨hd1, hd2⟩ := hd
      have hd1' : (48 : Int) ≤ ((s[j]'hjs).toNat : Int) := by omega
      have hd2' : ((s[j]'hjs).toNat : Int) ≤ 57 := by omega
      clear hd1 hd2
      go_wp2
      go_roundw
      case rel => exact ⟨j + 1, by omega, by simp, trivial⟩
      case measure => simp [intOf]; omega
    · obtain rfl : k = j := by omega
      clear hj hjk
      have HHead := Lib.hid (show ∀ (h : 0 < s.size), 1 ≤ k → (digs s.data.toList).head? = some (s[0]'h) from fun h hk => by
        have e := digs_take (l := s.data.toList) (j := 1) (by rw [← HKD.out]; exact hk)
        have h2 : (digs s.data.toList).head? = ((digs s.data.toList).take 1).head? := by cases digs s.data.toList <;> rfl
        rw [h2, e]
        have h3 : s.data.toList.head? = some (s[0]'h) := by
          rw [List.head?_eq_getElem?, Array.getElem?_toList]
          exact Array.getElem?_eq_some_iff.2 ⟨h, rfl⟩
        rw [← h3]
        cases s.data.toList <;> rfl)
      have hRl : (s.extract k s.size).data.toList = rest s.data.toList := by
        rw [ByteArray.data_extract, Array.toList_extract, List.extract_eq_take_drop]
        have := drop_digs s.data.toList
        rw [← HKD.out] at this
        have h1 := HSZ.out
        rw [← this, List.take_of_length_le (by rw [List.length_drop]; omega)]
      have HR := Lib.hid hRl
      clear hRl
      have HVal := Lib.hid (show ∀ j (h : j < k) (h' : j < s.size), val ((digs s.data.toList).take (j + 1)) = val ((digs s.data.toList).take j) * 10 + ((s[j]'h').toNat - 48) from fun j h h' => by
        rw [val_take _ j (by rw [← HKD.out]; exact h)]
        congr 2
        have e1 : (digs s.data.toList)[j]? = s.data.toList[j]? := by
          conv => rhs; rw [← digs_rest s.data.toList]
          exact (List.getElem?_append_left (by rw [← HKD.out]; exact h)).symm
        rw [List.getElem?_eq_getElem (by rw [← HKD.out]; exact h), Array.getElem?_toList, Array.getElem?_eq_getElem h'] at e1
        have := Option.some.inj e1
        rw [this]; rfl)
      have HLt := Lib.hid (show ∀ j, j ≤ k → val ((digs s.data.toList).take j) < 10 ^ j from fun j h => by
        have := val_lt ((digs s.data.toList).take j) (fun c hc => digs_isD _ (List.mem_of_mem_take hc))
        rwa [List.length_take, ← HKD.out, Nat.min_eq_left h] at this)
      rcases (show (¬ (k : Int) < (s.size : Int)) ∨ ((k : Int) < (s.size : Int)) by omega) with hx | hx
      · rcases (show (k : Int) < 1 ∨ (¬ (k : Int) < 1 ∧ 16 < (k : Int)) ∨ (¬ (k : Int) < 1 ∧ ¬ 16 < (k : Int)) by omega) with hA | ⟨hA, hB⟩ | ⟨hA, hB⟩
        · go_wp2
          go_ret2
          rw [show parseF s.data.toList = (0, 2) by unfold parseF; cases unitOf (rest s.data.toList) with | none => rfl | some u => exact if_pos (.inl (by rw [← HKD.out]; omega))]
          exact ⟨rfl, Below.refl _ _⟩
        · go_wp2
          go_ret2
          rw [show parseF s.data.toList = (0, 2) by unfold parseF; cases unitOf (rest s.data.toList) with | none => rfl | some u => exact if_pos (.inr (.inl (by rw [← HKD.out]; omega)))]
          exact ⟨rfl, Below.refl _ _⟩
        · have h0s : 0 < s.size := by omega
          rcases (show ((1 : Int) < (k : Int) ∧ s[0]'h0s = 48) ∨ ¬ (1 : Int) < (k : Int) ∨ ((1 : Int) < (k : Int) ∧ s[0]'h0s ≠ 48) by by_cases h1 : (1 : Int) < (k : Int) <;> by_cases h2 : s[0]'h0s = 48 <;> simp [h1, h2]) with ⟨hC, hC2⟩ | hC | ⟨hC, hC2⟩
          · have hC3 : ((s[0]'h0s).toNat : Int) = 48 := by rw [hC2]; rfl
            go_wp2
            go_ret2
            rw [show parseF s.data.toList = (0, 2) by unfold parseF; cases unitOf (rest s.data.toList) with | none => rfl | some u => exact if_pos (.inr (.inr ⟨by rw [← HKD.out]; omega, by rw [HHead.out h0s (by omega), hC2]⟩))]
            exact ⟨rfl, Below.refl _ _⟩
          · have HNot := Lib.hid (show ¬ ((digs s.data.toList).length < 1 ∨ 16 < (digs s.data.toList).length ∨ (1 < (digs s.data.toList).length ∧ (digs s.data.toList).head? = some 48)) by
              rw [← HKD.out]
              rintro (h | h | ⟨h, h'⟩)
              · omega
              · omega
              · exact absurd h (by omega))
            cases hu : unitOf (rest s.data.toList) with
            | none =>
              have HPe := Lib.hid (show parseF s.data.toList = (0, 2) by unfold parseF; rw [hu])
              have HU := Lib.hid (show uRes (unitOf (s.extract k s.size).data.toList) = .tuple #[.int .i64 0, .bool false] by rw [HR.out, hu]; rfl)
              clear hu
              go_wp2_with (go_at_call 14; refine (unitR_any _ _).mono ?_; rw [HU.out]; rintro e w2 ⟨rfl, rfl⟩)
              go_ret2
              rw [HPe.out]
              exact ⟨rfl, Below.refl _ _⟩
            | some u =>
              have HPe := Lib.hid (show parseF s.data.toList = if val (digs s.data.toList) * u ≤ 1125899906842624 then (((val (digs s.data.toList) * u : Nat) : Int), 0) else (0, 3) by unfold parseF; rw [hu]; exact if_neg HNot.out)
              obtain ⟨hu1, hu2⟩ := unitOf_bnd hu
              have HU := Lib.hid (show uRes (unitOf (s.extract k s.size).data.toList) = .tuple #[.int .i64 (u : Int), .bool true] by rw [HR.out, hu]; rfl)
              clear hu
              go_wp2_with (go_at_call 14; refine (unitR_any _ _).mono ?_; rw [HU.out]; rintro e w2 ⟨rfl, rfl⟩)
              go_loopw [7, 8] (fun v i wq => ∃ j : Nat, j ≤ k ∧ i = .int .i64 j ∧ v = .int .i64 (val ((digs s.data.toList).take j) : Nat) ∧ wq = w2) (fun _ i _ => k - (intOf i).toNat)
              case atStart => exact ⟨0, by omega, rfl, rfl, rfl⟩
              case round =>
                obtain ⟨j, hj, rfl, rfl, rfl⟩ := hrel
                have hl16 := HLt.out j hj
                by_cases hjk : (j : Int) < (k : Int)
                · have hp : 10 ^ j ≤ 10 ^ 16 := Nat.pow_le_pow_right (by decide) (by omega)
                  have hjs : j < s.size := by omega
                  have hd := HAt.out j (by omega) hjs
                  simp only [isD, Bool.and_eq_true, decide_eq_true_eq] at hd
                  obtain ⟨hd1, hd2⟩ := hd
                  have HV := Lib.hid (HVal.out j (by omega) hjs)
                  generalize hc : (s[j]'hjs).toNat = c at *
                  generalize hv : val ((digs s.data.toList).take j) = V at *
                  have w1 : IntKind.u8.wrap ((c : Int) - 48) = (c : Int) - 48 := by unfold IntKind.wrap; simp [IntKind.bits, IntKind.signed]; omega
                  have w2 : IntKind.i64.wrap ((c : Int) - 48) = (c : Int) - 48 := IntWalk.i64_in _ (by omega)
                  have w3 : IntKind.i64.wrap ((V : Int) * 10) = (V : Int) * 10 := IntWalk.i64_in _ (by omega)
                  have w4 : IntKind.i64.wrap ((V : Int) * 10 + ((c : Int) - 48)) = (V : Int) * 10 + ((c : Int) - 48) := IntWalk.i64_in _ (by omega)
                  have w5 : wrap64 ((V : Int) * 10) = (V : Int) * 10 := by unfold wrap64; omega
                  have w6 : wrap64 ((V : Int) * 10 + ((c : Int) - 48)) = (V : Int) * 10 + ((c : Int) - 48) := by unfold wrap64; omega
                  clear hv
                  go_wp2
                  go_roundw
                  case rel => exact ⟨j + 1, by omega, by simp, by rw [HV.out]; go_num, trivial⟩
                  case measure => simp [intOf]; omega
                · obtain rfl : k = j := by omega
                  have HT := Lib.hid (show val ((digs s.data.toList).take k) = val (digs s.data.toList) by rw [List.take_of_length_le (by rw [← HKD.out]; exact Nat.le_refl _)])
                  rw [HT.out] at hl16 ⊢
                  have hp : 10 ^ k ≤ 10 ^ 16 := Nat.pow_le_pow_right (by decide) (by omega)
                  generalize val (digs s.data.toList) = V at *
                  have hq : (V ≤ 1125899906842624 / u) ↔ V * u ≤ 1125899906842624 := Nat.le_div_iff_mul_le (by omega)
                  obtain ⟨Q, hQ⟩ : ∃ Q, Q = 1125899906842624 / u := ⟨_, rfl⟩
                  have hqi : ((1125899906842624 : Int) / (u : Int)) = (Q : Int) := by rw [hQ]; simp
                  rw [← hQ] at hq
                  have HQ := Lib.hid hq
                  have hqb : Q ≤ 1125899906842624 := by rw [hQ]; exact Nat.div_le_self _ _
                  clear hQ hq
                  by_cases hVQ : V ≤ Q
                  · have hVQ' : (V : Int) ≤ (Q : Int) := by omega
                    have hm := HQ.out.1 hVQ
                    have hw : wrap64 ((V : Int) * (u : Int)) = (V : Int) * (u : Int) := by
                      have : ((V * u : Nat) : Int) = (V : Int) * (u : Int) := by simp
                      rw [← this]; unfold wrap64; omega
                    have HM := Lib.hid hm
                    clear hm hVQ
                    go_wp2
                    go_ret2
                    rw [HPe.out, if_pos HM.out]
                    exact ⟨by simp [pRes, hw], Below.refl _ _⟩
                  · have hVQ' : ¬ (V : Int) ≤ (Q : Int) := by omega
                    go_wp2
                    go_ret2
                    rw [HPe.out, if_neg (fun h => hVQ (HQ.out.2 h))]
                    exact ⟨rfl, Below.refl _ _⟩
          · have hC3 : (((s[0]'h0s).toNat : Int) == 48) = false := beq_false_of_ne fun e => hC2 (UInt8.toNat_inj.1 (by simpa using (show (s[0]'h0s).toNat = 48 by omega)))
            have HNot := Lib.hid (show ¬ ((digs s.data.toList).length < 1 ∨ 16 < (digs s.data.toList).length ∨ (1 < (digs s.data.toList).length ∧ (digs s.data.toList).head? = some 48)) by
              rw [← HKD.out]
              rintro (h | h | ⟨h, h'⟩)
              · omega
              · omega
              · exact hC2 (by rw [HHead.out h0s (by omega)] at h'; exact Option.some.inj h'))
            cases hu : unitOf (rest s.data.toList) with
            | none =>
              have HPe := Lib.hid (show parseF s.data.toList = (0, 2) by unfold parseF; rw [hu])
              have HU := Lib.hid (show uRes (unitOf (s.extract k s.size).data.toList) = .tuple #[.int .i64 0, .bool false] by rw [HR.out, hu]; rfl)
              clear hu
              go_wp2_with (go_at_call 14; refine (unitR_any _ _).mono ?_; rw [HU.out]; rintro e w2 ⟨rfl, rfl⟩)
              go_ret2
              rw [HPe.out]
              exact ⟨rfl, Below.refl _ _⟩
            | some u =>
              have HPe := Lib.hid (show parseF s.data.toList = if val (digs s.data.toList) * u ≤ 1125899906842624 then (((val (digs s.data.toList) * u : Nat) : Int), 0) else (0, 3) by unfold parseF; rw [hu]; exact if_neg HNot.out)
              obtain ⟨hu1, hu2⟩ := unitOf_bnd hu
              have HU := Lib.hid (show uRes (unitOf (s.extract k s.size).data.toList) = .tuple #[.int .i64 (u : Int), .bool true] by rw [HR.out, hu]; rfl)
              clear hu
              go_wp2_with (go_at_call 14; refine (unitR_any _ _).mono ?_; rw [HU.out]; rintro e w2 ⟨rfl, rfl⟩)
              go_loopw [7, 8] (fun v i wq => ∃ j : Nat, j ≤ k ∧ i = .int .i64 j ∧ v = .int .i64 (val ((digs s.data.toList).take j) : Nat) ∧ wq = w2) (fun _ i _ => k - (intOf i).toNat)
              case atStart => exact ⟨0, by omega, rfl, rfl, rfl⟩
              case round =>
                obtain ⟨j, hj, rfl, rfl, rfl⟩ := hrel
                have hl16 := HLt.out j hj
                by_cases hjk : (j : Int) < (k : Int)
                · have hp : 10 ^ j ≤ 10 ^ 16 := Nat.pow_le_pow_right (by decide) (by omega)
                  have hjs : j < s.size := by omega
                  have hd := HAt.out j (by omega) hjs
                  simp only [isD, Bool.and_eq_true, decide_eq_true_eq] at hd
                  obtain ⟨hd1, hd2⟩ := hd
                  have HV := Lib.hid (HVal.out j (by omega) hjs)
                  generalize hc : (s[j]'hjs).toNat = c at *
                  generalize hv : val ((digs s.data.toList).take j) = V at *
                  have w1 : IntKind.u8.wrap ((c : Int) - 48) = (c : Int) - 48 := by unfold IntKind.wrap; simp [IntKind.bits, IntKind.signed]; omega
                  have w2 : IntKind.i64.wrap ((c : Int) - 48) = (c : Int) - 48 := IntWalk.i64_in _ (by omega)
                  have w3 : IntKind.i64.wrap ((V : Int) * 10) = (V : Int) * 10 := IntWalk.i64_in _ (by omega)
                  have w4 : IntKind.i64.wrap ((V : Int) * 10 + ((c : Int) - 48)) = (V : Int) * 10 + ((c : Int) - 48) := IntWalk.i64_in _ (by omega)
                  have w5 : wrap64 ((V : Int) * 10) = (V : Int) * 10 := by unfold wrap64; omega
                  have w6 : wrap64 ((V : Int) * 10 + ((c : Int) - 48)) = (V : Int) * 10 + ((c : Int) - 48) := by unfold wrap64; omega
                  clear hv
                  go_wp2
                  go_roundw
                  case rel => exact ⟨j + 1, by omega, by simp, by rw [HV.out]; go_num, trivial⟩
                  case measure => simp [intOf]; omega
                · obtain rfl : k = j := by omega
                  have HT := Lib.hid (show val ((digs s.data.toList).take k) = val (digs s.data.toList) by rw [List.take_of_length_le (by rw [← HKD.out]; exact Nat.le_refl _)])
                  rw [HT.out] at hl16 ⊢
                  have hp : 10 ^ k ≤ 10 ^ 16 := Nat.pow_le_pow_right (by decide) (by omega)
                  generalize val (digs s.data.toList) = V at *
                  have hq : (V ≤ 1125899906842624 / u) ↔ V * u ≤ 1125899906842624 := Nat.le_div_iff_mul_le (by omega)
                  obtain ⟨Q, hQ⟩ : ∃ Q, Q = 1125899906842624 / u := ⟨_, rfl⟩
                  have hqi : ((1125899906842624 : Int) / (u : Int)) = (Q : Int) := by rw [hQ]; simp
                  rw [← hQ] at hq
                  have HQ := Lib.hid hq
                  have hqb : Q ≤ 1125899906842624 := by rw [hQ]; exact Nat.div_le_self _ _
                  clear hQ hq
                  by_cases hVQ : V ≤ Q
                  · have hVQ' : (V : Int) ≤ (Q : Int) := by omega
                    have hm := HQ.out.1 hVQ
                    have hw : wrap64 ((V : Int) * (u : Int)) = (V : Int) * (u : Int) := by
                      have : ((V * u : Nat) : Int) = (V : Int) * (u : Int) := by simp
                      rw [← this]; unfold wrap64; omega
                    have HM := Lib.hid hm
                    clear hm hVQ
                    go_wp2
                    go_ret2
                    rw [HPe.out, if_pos HM.out]
                    exact ⟨by simp [pRes, hw], Below.refl _ _⟩
                  · have hVQ' : ¬ (V : Int) ≤ (Q : Int) := by omega
                    go_wp2
                    go_ret2
                    rw [HPe.out, if_neg (fun h => hVQ (HQ.out.2 h))]
                    exact ⟨rfl, Below.refl _ _⟩
      · have hks : k < s.size := by omega
        have he := HEnd.out hks
        simp only [isD, Bool.and_eq_false_iff, decide_eq_false_iff_not] at he
        rcases (show (¬ (48 : Int) ≤ ((s[k]'hks).toNat : Int)) ∨ ((48 : Int) ≤ ((s[k]'hks).toNat : Int) ∧ ¬ ((s[k]'hks).toNat : Int) ≤ 57) by omega) with hy | ⟨hy, hz⟩
        · rcases (show (k : Int) < 1 ∨ (¬ (k : Int) < 1 ∧ 16 < (k : Int)) ∨ (¬ (k : Int) < 1 ∧ ¬ 16 < (k : Int)) by omega) with hA | ⟨hA, hB⟩ | ⟨hA, hB⟩
          · go_wp2
            go_ret2
            rw [show parseF s.data.toList = (0, 2) by unfold parseF; cases unitOf (rest s.data.toList) with | none => rfl | some u => exact if_pos (.inl (by rw [← HKD.out]; omega))]
            exact ⟨rfl, Below.refl _ _⟩
          · go_wp2
            go_ret2
            rw [show parseF s.data.toList = (0, 2) by unfold parseF; cases unitOf (rest s.data.toList) with | none => rfl | some u => exact if_pos (.inr (.inl (by rw [← HKD.out]; omega)))]
            exact ⟨rfl, Below.refl _ _⟩
          · have h0s : 0 < s.size := by omega
            rcases (show ((1 : Int) < (k : Int) ∧ s[0]'h0s = 48) ∨ ¬ (1 : Int) < (k : Int) ∨ ((1 : Int) < (k : Int) ∧ s[0]'h0s ≠ 48) by by_cases h1 : (1 : Int) < (k : Int) <;> by_cases h2 : s[0]'h0s = 48 <;> simp [h1, h2]) with ⟨hC, hC2⟩ | hC | ⟨hC, hC2⟩
            · have hC3 : ((s[0]'h0s).toNat : Int) = 48 := by rw [hC2]; rfl
              go_wp2
              go_ret2
              rw [show parseF s.data.toList = (0, 2) by unfold parseF; cases unitOf (rest s.data.toList) with | none => rfl | some u => exact if_pos (.inr (.inr ⟨by rw [← HKD.out]; omega, by rw [HHead.out h0s (by omega), hC2]⟩))]
              exact ⟨rfl, Below.refl _ _⟩
            · have HNot := Lib.hid (show ¬ ((digs s.data.toList).length < 1 ∨ 16 < (digs s.data.toList).length ∨ (1 < (digs s.data.toList).length ∧ (digs s.data.toList).head? = some 48)) by
                rw [← HKD.out]
                rintro (h | h | ⟨h, h'⟩)
                · omega
                · omega
                · exact absurd h (by omega))
              cases hu : unitOf (rest s.data.toList) with
              | none =>
                have HPe := Lib.hid (show parseF s.data.toList = (0, 2) by unfold parseF; rw [hu])
                have HU := Lib.hid (show uRes (unitOf (s.extract k s.size).data.toList) = .tuple #[.int .i64 0, .bool false] by rw [HR.out, hu]; rfl)
                clear hu
                go_wp2_with (go_at_call 14; refine (unitR_any _ _).mono ?_; rw [HU.out]; rintro e w2 ⟨rfl, rfl⟩)
                go_ret2
                rw [HPe.out]
                exact ⟨rfl, Below.refl _ _⟩
              | some u =>
                have HPe := Lib.hid (show parseF s.data.toList = if val (digs s.data.toList) * u ≤ 1125899906842624 then (((val (digs s.data.toList) * u : Nat) : Int), 0) else (0, 3) by unfold parseF; rw [hu]; exact if_neg HNot.out)
                obtain ⟨hu1, hu2⟩ := unitOf_bnd hu
                have HU := Lib.hid (show uRes (unitOf (s.extract k s.size).data.toList) = .tuple #[.int .i64 (u : Int), .bool true] by rw [HR.out, hu]; rfl)
                clear hu
                go_wp2_with (go_at_call 14; refine (unitR_any _ _).mono ?_; rw [HU.out]; rintro e w2 ⟨rfl, rfl⟩)
                go_loopw [7, 8] (fun v i wq => ∃ j : Nat, j ≤ k ∧ i = .int .i64 j ∧ v = .int .i64 (val ((digs s.data.toList).take j) : Nat) ∧ wq = w2) (fun _ i _ => k - (intOf i).toNat)
                case atStart => exact ⟨0, by omega, rfl, rfl, rfl⟩
                case round =>
                  obtain ⟨j, hj, rfl, rfl, rfl⟩ := hrel
                  have hl16 := HLt.out j hj
                  by_cases hjk : (j : Int) < (k : Int)
                  · have hp : 10 ^ j ≤ 10 ^ 16 := Nat.pow_le_pow_right (by decide) (by omega)
                    have hjs : j < s.size := by omega
                    have hd := HAt.out j (by omega) hjs
                    simp only [isD, Bool.and_eq_true, decide_eq_true_eq] at hd
                    obtain ⟨hd1, hd2⟩ := hd
                    have HV := Lib.hid (HVal.out j (by omega) hjs)
                    generalize hc : (s[j]'hjs).toNat = c at *
                    generalize hv : val ((digs s.data.toList).take j) = V at *
                    have w1 : IntKind.u8.wrap ((c : Int) - 48) = (c : Int) - 48 := by unfold IntKind.wrap; simp [IntKind.bits, IntKind.signed]; omega
                    have w2 : IntKind.i64.wrap ((c : Int) - 48) = (c : Int) - 48 := IntWalk.i64_in _ (by omega)
                    have w3 : IntKind.i64.wrap ((V : Int) * 10) = (V : Int) * 10 := IntWalk.i64_in _ (by omega)
                    have w4 : IntKind.i64.wrap ((V : Int) * 10 + ((c : Int) - 48)) = (V : Int) * 10 + ((c : Int) - 48) := IntWalk.i64_in _ (by omega)
                    have w5 : wrap64 ((V : Int) * 10) = (V : Int) * 10 := by unfold wrap64; omega
                    have w6 : wrap64 ((V : Int) * 10 + ((c : Int) - 48)) = (V : Int) * 10 + ((c : Int) - 48) := by unfold wrap64; omega
                    clear hv
                    go_wp2
                    go_roundw
                    case rel => exact ⟨j + 1, by omega, by simp, by rw [HV.out]; go_num, trivial⟩
                    case measure => simp [intOf]; omega
                  · obtain rfl : k = j := by omega
                    have HT := Lib.hid (show val ((digs s.data.toList).take k) = val (digs s.data.toList) by rw [List.take_of_length_le (by rw [← HKD.out]; exact Nat.le_refl _)])
                    rw [HT.out] at hl16 ⊢
                    have hp : 10 ^ k ≤ 10 ^ 16 := Nat.pow_le_pow_right (by decide) (by omega)
                    generalize val (digs s.data.toList) = V at *
                    have hq : (V ≤ 1125899906842624 / u) ↔ V * u ≤ 1125899906842624 := Nat.le_div_iff_mul_le (by omega)
                    obtain ⟨Q, hQ⟩ : ∃ Q, Q = 1125899906842624 / u := ⟨_, rfl⟩
                    have hqi : ((1125899906842624 : Int) / (u : Int)) = (Q : Int) := by rw [hQ]; simp
                    rw [← hQ] at hq
                    have HQ := Lib.hid hq
                    have hqb : Q ≤ 1125899906842624 := by rw [hQ]; exact Nat.div_le_self _ _
                    clear hQ hq
                    by_cases hVQ : V ≤ Q
                    · have hVQ' : (V : Int) ≤ (Q : Int) := by omega
                      have hm := HQ.out.1 hVQ
                      have hw : wrap64 ((V : Int) * (u : Int)) = (V : Int) * (u : Int) := by
                        have : ((V * u : Nat) : Int) = (V : Int) * (u : Int) := by simp
                        rw [← this]; unfold wrap64; omega
                      have HM := Lib.hid hm
                      clear hm hVQ
                      go_wp2
                      go_ret2
                      rw [HPe.out, if_pos HM.out]
                      exact ⟨by simp [pRes, hw], Below.refl _ _⟩
                    · have hVQ' : ¬ (V : Int) ≤ (Q : Int) := by omega
                      go_wp2
                      go_ret2
                      rw [HPe.out, if_neg (fun h => hVQ (HQ.out.2 h))]
                      exact ⟨rfl, Below.refl _ _⟩
            · have hC3 : (((s[0]'h0s).toNat : Int) == 48) = false := beq_false_of_ne fun e => hC2 (UInt8.toNat_inj.1 (by simpa using (show (s[0]'h0s).toNat = 48 by omega)))
              have HNot := Lib.hid (show ¬ ((digs s.data.toList).length < 1 ∨ 16 < (digs s.data.toList).length ∨ (1 < (digs s.data.toList).length ∧ (digs s.data.toList).head? = some 48)) by
                rw [← HKD.out]
                rintro (h | h | ⟨h, h'⟩)
                · omega
                · omega
                · exact hC2 (by rw [HHead.out h0s (by omega)] at h'; exact Option.some.inj h'))
              cases hu : unitOf (rest s.data.toList) with
              | none =>
                have HPe := Lib.hid (show parseF s.data.toList = (0, 2) by unfold parseF; rw [hu])
                have HU := Lib.hid (show uRes (unitOf (s.extract k s.size).data.toList) = .tuple #[.int .i64 0, .bool false] by rw [HR.out, hu]; rfl)
                clear hu
                go_wp2_with (go_at_call 14; refine (unitR_any _ _).mono ?_; rw [HU.out]; rintro e w2 ⟨rfl, rfl⟩)
                go_ret2
                rw [HPe.out]
                exact ⟨rfl, Below.refl _ _⟩
              | some u =>
                have HPe := Lib.hid (show parseF s.data.toList = if val (digs s.data.toList) * u ≤ 1125899906842624 then (((val (digs s.data.toList) * u : Nat) : Int), 0) else (0, 3) by unfold parseF; rw [hu]; exact if_neg HNot.out)
                obtain ⟨hu1, hu2⟩ := unitOf_bnd hu
                have HU := Lib.hid (show uRes (unitOf (s.extract k s.size).data.toList) = .tuple #[.int .i64 (u : Int), .bool true] by rw [HR.out, hu]; rfl)
                clear hu
                go_wp2_with (go_at_call 14; refine (unitR_any _ _).mono ?_; rw [HU.out]; rintro e w2 ⟨rfl, rfl⟩)
                go_loopw [7, 8] (fun v i wq => ∃ j : Nat, j ≤ k ∧ i = .int .i64 j ∧ v = .int .i64 (val ((digs s.data.toList).take j) : Nat) ∧ wq = w2) (fun _ i _ => k - (intOf i).toNat)
                case atStart => exact ⟨0, by omega, rfl, rfl, rfl⟩
                case round =>
                  obtain ⟨j, hj, rfl, rfl, rfl⟩ := hrel
                  have hl16 := HLt.out j hj
                  by_cases hjk : (j : Int) < (k : Int)
                  · have hp : 10 ^ j ≤ 10 ^ 16 := Nat.pow_le_pow_right (by decide) (by omega)
                    have hjs : j < s.size := by omega
                    have hd := HAt.out j (by omega) hjs
                    simp only [isD, Bool.and_eq_true, decide_eq_true_eq] at hd
                    obtain ⟨hd1, hd2⟩ := hd
                    have HV := Lib.hid (HVal.out j (by omega) hjs)
                    generalize hc : (s[j]'hjs).toNat = c at *
                    generalize hv : val ((digs s.data.toList).take j) = V at *
                    have w1 : IntKind.u8.wrap ((c : Int) - 48) = (c : Int) - 48 := by unfold IntKind.wrap; simp [IntKind.bits, IntKind.signed]; omega
                    have w2 : IntKind.i64.wrap ((c : Int) - 48) = (c : Int) - 48 := IntWalk.i64_in _ (by omega)
                    have w3 : IntKind.i64.wrap ((V : Int) * 10) = (V : Int) * 10 := IntWalk.i64_in _ (by omega)
                    have w4 : IntKind.i64.wrap ((V : Int) * 10 + ((c : Int) - 48)) = (V : Int) * 10 + ((c : Int) - 48) := IntWalk.i64_in _ (by omega)
                    have w5 : wrap64 ((V : Int) * 10) = (V : Int) * 10 := by unfold wrap64; omega
                    have w6 : wrap64 ((V : Int) * 10 + ((c : Int) - 48)) = (V : Int) * 10 + ((c : Int) - 48) := by unfold wrap64; omega
                    clear hv
                    go_wp2
                    go_roundw
                    case rel => exact ⟨j + 1, by omega, by simp, by rw [HV.out]; go_num, trivial⟩
                    case measure => simp [intOf]; omega
                  · obtain rfl : k = j := by omega
                    have HT := Lib.hid (show val ((digs s.data.toList).take k) = val (digs s.data.toList) by rw [List.take_of_length_le (by rw [← HKD.out]; exact Nat.le_refl _)])
                    rw [HT.out] at hl16 ⊢
                    have hp : 10 ^ k ≤ 10 ^ 16 := Nat.pow_le_pow_right (by decide) (by omega)
                    generalize val (digs s.data.toList) = V at *
                    have hq : (V ≤ 1125899906842624 / u) ↔ V * u ≤ 1125899906842624 := Nat.le_div_iff_mul_le (by omega)
                    obtain ⟨Q, hQ⟩ : ∃ Q, Q = 1125899906842624 / u := ⟨_, rfl⟩
                    have hqi : ((1125899906842624 : Int) / (u : Int)) = (Q : Int) := by rw [hQ]; simp
                    rw [← hQ] at hq
                    have HQ := Lib.hid hq
                    have hqb : Q ≤ 1125899906842624 := by rw [hQ]; exact Nat.div_le_self _ _
                    clear hQ hq
                    by_cases hVQ : V ≤ Q
                    · have hVQ' : (V : Int) ≤ (Q : Int) := by omega
                      have hm := HQ.out.1 hVQ
                      have hw : wrap64 ((V : Int) * (u : Int)) = (V : Int) * (u : Int) := by
                        have : ((V * u : Nat) : Int) = (V : Int) * (u : Int) := by simp
                        rw [← this]; unfold wrap64; omega
                      have HM := Lib.hid hm
                      clear hm hVQ
                      go_wp2
                      go_ret2
                      rw [HPe.out, if_pos HM.out]
                      exact ⟨by simp [pRes, hw], Below.refl _ _⟩
                    · have hVQ' : ¬ (V : Int) ≤ (Q : Int) := by omega
                      go_wp2
                      go_ret2
                      rw [HPe.out, if_neg (fun h => hVQ (HQ.out.2 h))]
                      exact ⟨rfl, Below.refl _ _⟩
        · rcases (show (k : Int) < 1 ∨ (¬ (k : Int) < 1 ∧ 16 < (k : Int)) ∨ (¬ (k : Int) < 1 ∧ ¬ 16 < (k : Int)) by omega) with hA | ⟨hA, hB⟩ | ⟨hA, hB⟩
          · go_wp2
            go_ret2
            rw [show parseF s.data.toList = (0, 2) by unfold parseF; cases unitOf (rest s.data.toList) with | none => rfl | some u => exact if_pos (.inl (by rw [← HKD.out]; omega))]
            exact ⟨rfl, Below.refl _ _⟩
          · go_wp2
            go_ret2
            rw [show parseF s.data.toList = (0, 2) by unfold parseF; cases unitOf (rest s.data.toList) with | none => rfl | some u => exact if_pos (.inr (.inl (by rw [← HKD.out]; omega)))]
            exact ⟨rfl, Below.refl _ _⟩
          · have h0s : 0 < s.size := by omega
            rcases (show ((1 : Int) < (k : Int) ∧ s[0]'h0s = 48) ∨ ¬ (1 : Int) < (k : Int) ∨ ((1 : Int) < (k : Int) ∧ s[0]'h0s ≠ 48) by by_cases h1 : (1 : Int) < (k : Int) <;> by_cases h2 : s[0]'h0s = 48 <;> simp [h1, h2]) with ⟨hC, hC2⟩ | hC | ⟨hC, hC2⟩
            · have hC3 : ((s[0]'h0s).toNat : Int) = 48 := by rw [hC2]; rfl
              go_wp2
              go_ret2
              rw [show parseF s.data.toList = (0, 2) by unfold parseF; cases unitOf (rest s.data.toList) with | none => rfl | some u => exact if_pos (.inr (.inr ⟨by rw [← HKD.out]; omega, by rw [HHead.out h0s (by omega), hC2]⟩))]
              exact ⟨rfl, Below.refl _ _⟩
            · have HNot := Lib.hid (show ¬ ((digs s.data.toList).length < 1 ∨ 16 < (digs s.data.toList).length ∨ (1 < (digs s.data.toList).length ∧ (digs s.data.toList).head? = some 48)) by
                rw [← HKD.out]
                rintro (h | h | ⟨h, h'⟩)
                · omega
                · omega
                · exact absurd h (by omega))
              cases hu : unitOf (rest s.data.toList) with
              | none =>
                have HPe := Lib.hid (show parseF s.data.toList = (0, 2) by unfold parseF; rw [hu])
                have HU := Lib.hid (show uRes (unitOf (s.extract k s.size).data.toList) = .tuple #[.int .i64 0, .bool false] by rw [HR.out, hu]; rfl)
                clear hu
                go_wp2_with (go_at_call 14; refine (unitR_any _ _).mono ?_; rw [HU.out]; rintro e w2 ⟨rfl, rfl⟩)
                go_ret2
                rw [HPe.out]
                exact ⟨rfl, Below.refl _ _⟩
              | some u =>
                have HPe := Lib.hid (show parseF s.data.toList = if val (digs s.data.toList) * u ≤ 1125899906842624 then (((val (digs s.data.toList) * u : Nat) : Int), 0) else (0, 3) by unfold parseF; rw [hu]; exact if_neg HNot.out)
                obtain ⟨hu1, hu2⟩ := unitOf_bnd hu
                have HU := Lib.hid (show uRes (unitOf (s.extract k s.size).data.toList) = .tuple #[.int .i64 (u : Int), .bool true] by rw [HR.out, hu]; rfl)
                clear hu
                go_wp2_with (go_at_call 14; refine (unitR_any _ _).mono ?_; rw [HU.out]; rintro e w2 ⟨rfl, rfl⟩)
                go_loopw [7, 8] (fun v i wq => ∃ j : Nat, j ≤ k ∧ i = .int .i64 j ∧ v = .int .i64 (val ((digs s.data.toList).take j) : Nat) ∧ wq = w2) (fun _ i _ => k - (intOf i).toNat)
                case atStart => exact ⟨0, by omega, rfl, rfl, rfl⟩
                case round =>
                  obtain ⟨j, hj, rfl, rfl, rfl⟩ := hrel
                  have hl16 := HLt.out j hj
                  by_cases hjk : (j : Int) < (k : Int)
                  · have hp : 10 ^ j ≤ 10 ^ 16 := Nat.pow_le_pow_right (by decide) (by omega)
                    have hjs : j < s.size := by omega
                    have hd := HAt.out j (by omega) hjs
                    simp only [isD, Bool.and_eq_true, decide_eq_true_eq] at hd
                    obtain ⟨hd1, hd2⟩ := hd
                    have HV := Lib.hid (HVal.out j (by omega) hjs)
                    generalize hc : (s[j]'hjs).toNat = c at *
                    generalize hv : val ((digs s.data.toList).take j) = V at *
                    have w1 : IntKind.u8.wrap ((c : Int) - 48) = (c : Int) - 48 := by unfold IntKind.wrap; simp [IntKind.bits, IntKind.signed]; omega
                    have w2 : IntKind.i64.wrap ((c : Int) - 48) = (c : Int) - 48 := IntWalk.i64_in _ (by omega)
                    have w3 : IntKind.i64.wrap ((V : Int) * 10) = (V : Int) * 10 := IntWalk.i64_in _ (by omega)
                    have w4 : IntKind.i64.wrap ((V : Int) * 10 + ((c : Int) - 48)) = (V : Int) * 10 + ((c : Int) - 48) := IntWalk.i64_in _ (by omega)
                    have w5 : wrap64 ((V : Int) * 10) = (V : Int) * 10 := by unfold wrap64; omega
                    have w6 : wrap64 ((V : Int) * 10 + ((c : Int) - 48)) = (V : Int) * 10 + ((c : Int) - 48) := by unfold wrap64; omega
                    clear hv
                    go_wp2
                    go_roundw
                    case rel => exact ⟨j + 1, by omega, by simp, by rw [HV.out]; go_num, trivial⟩
                    case measure => simp [intOf]; omega
                  · obtain rfl : k = j := by omega
                    have HT := Lib.hid (show val ((digs s.data.toList).take k) = val (digs s.data.toList) by rw [List.take_of_length_le (by rw [← HKD.out]; exact Nat.le_refl _)])
                    rw [HT.out] at hl16 ⊢
                    have hp : 10 ^ k ≤ 10 ^ 16 := Nat.pow_le_pow_right (by decide) (by omega)
                    generalize val (digs s.data.toList) = V at *
                    have hq : (V ≤ 1125899906842624 / u) ↔ V * u ≤ 1125899906842624 := Nat.le_div_iff_mul_le (by omega)
                    obtain ⟨Q, hQ⟩ : ∃ Q, Q = 1125899906842624 / u := ⟨_, rfl⟩
                    have hqi : ((1125899906842624 : Int) / (u : Int)) = (Q : Int) := by rw [hQ]; simp
                    rw [← hQ] at hq
                    have HQ := Lib.hid hq
                    have hqb : Q ≤ 1125899906842624 := by rw [hQ]; exact Nat.div_le_self _ _
                    clear hQ hq
                    by_cases hVQ : V ≤ Q
                    · have hVQ' : (V : Int) ≤ (Q : Int) := by omega
                      have hm := HQ.out.1 hVQ
                      have hw : wrap64 ((V : Int) * (u : Int)) = (V : Int) * (u : Int) := by
                        have : ((V * u : Nat) : Int) = (V : Int) * (u : Int) := by simp
                        rw [← this]; unfold wrap64; omega
                      have HM := Lib.hid hm
                      clear hm hVQ
                      go_wp2
                      go_ret2
                      rw [HPe.out, if_pos HM.out]
                      exact ⟨by simp [pRes, hw], Below.refl _ _⟩
                    · have hVQ' : ¬ (V : Int) ≤ (Q : Int) := by omega
                      go_wp2
                      go_ret2
                      rw [HPe.out, if_neg (fun h => hVQ (HQ.out.2 h))]
                      exact ⟨rfl, Below.refl _ _⟩
            · have hC3 : (((s[0]'h0s).toNat : Int) == 48) = false := beq_false_of_ne fun e => hC2 (UInt8.toNat_inj.1 (by simpa using (show (s[0]'h0s).toNat = 48 by omega)))
              have HNot := Lib.hid (show ¬ ((digs s.data.toList).length < 1 ∨ 16 < (digs s.data.toList).length ∨ (1 < (digs s.data.toList).length ∧ (digs s.data.toList).head? = some 48)) by
                rw [← HKD.out]
                rintro (h | h | ⟨h, h'⟩)
                · omega
                · omega
                · exact hC2 (by rw [HHead.out h0s (by omega)] at h'; exact Option.some.inj h'))
              cases hu : unitOf (rest s.data.toList) with
              | none =>
                have HPe := Lib.hid (show parseF s.data.toList = (0, 2) by unfold parseF; rw [hu])
                have HU := Lib.hid (show uRes (unitOf (s.extract k s.size).data.toList) = .tuple #[.int .i64 0, .bool false] by rw [HR.out, hu]; rfl)
                clear hu
                go_wp2_with (go_at_call 14; refine (unitR_any _ _).mono ?_; rw [HU.out]; rintro e w2 ⟨rfl, rfl⟩)
                go_ret2
                rw [HPe.out]
                exact ⟨rfl, Below.refl _ _⟩
              | some u =>
                have HPe := Lib.hid (show parseF s.data.toList = if val (digs s.data.toList) * u ≤ 1125899906842624 then (((val (digs s.data.toList) * u : Nat) : Int), 0) else (0, 3) by unfold parseF; rw [hu]; exact if_neg HNot.out)
                obtain ⟨hu1, hu2⟩ := unitOf_bnd hu
                have HU := Lib.hid (show uRes (unitOf (s.extract k s.size).data.toList) = .tuple #[.int .i64 (u : Int), .bool true] by rw [HR.out, hu]; rfl)
                clear hu
                go_wp2_with (go_at_call 14; refine (unitR_any _ _).mono ?_; rw [HU.out]; rintro e w2 ⟨rfl, rfl⟩)
                go_loopw [7, 8] (fun v i wq => ∃ j : Nat, j ≤ k ∧ i = .int .i64 j ∧ v = .int .i64 (val ((digs s.data.toList).take j) : Nat) ∧ wq = w2) (fun _ i _ => k - (intOf i).toNat)
                case atStart => exact ⟨0, by omega, rfl, rfl, rfl⟩
                case round =>
                  obtain ⟨j, hj, rfl, rfl, rfl⟩ := hrel
                  have hl16 := HLt.out j hj
                  by_cases hjk : (j : Int) < (k : Int)
                  · have hp : 10 ^ j ≤ 10 ^ 16 := Nat.pow_le_pow_right (by decide) (by omega)
                    have hjs : j < s.size := by omega
                    have hd := HAt.out j (by omega) hjs
                    simp only [isD, Bool.and_eq_true, decide_eq_true_eq] at hd
                    obtain ⟨hd1, hd2⟩ := hd
                    have HV := Lib.hid (HVal.out j (by omega) hjs)
                    generalize hc : (s[j]'hjs).toNat = c at *
                    generalize hv : val ((digs s.data.toList).take j) = V at *
                    have w1 : IntKind.u8.wrap ((c : Int) - 48) = (c : Int) - 48 := by unfold IntKind.wrap; simp [IntKind.bits, IntKind.signed]; omega
                    have w2 : IntKind.i64.wrap ((c : Int) - 48) = (c : Int) - 48 := IntWalk.i64_in _ (by omega)
                    have w3 : IntKind.i64.wrap ((V : Int) * 10) = (V : Int) * 10 := IntWalk.i64_in _ (by omega)
                    have w4 : IntKind.i64.wrap ((V : Int) * 10 + ((c : Int) - 48)) = (V : Int) * 10 + ((c : Int) - 48) := IntWalk.i64_in _ (by omega)
                    have w5 : wrap64 ((V : Int) * 10) = (V : Int) * 10 := by unfold wrap64; omega
                    have w6 : wrap64 ((V : Int) * 10 + ((c : Int) - 48)) = (V : Int) * 10 + ((c : Int) - 48) := by unfold wrap64; omega
                    clear hv
                    go_wp2
                    go_roundw
                    case rel => exact ⟨j + 1, by omega, by simp, by rw [HV.out]; go_num, trivial⟩
                    case measure => simp [intOf]; omega
                  · obtain rfl : k = j := by omega
                    have HT := Lib.hid (show val ((digs s.data.toList).take k) = val (digs s.data.toList) by rw [List.take_of_length_le (by rw [← HKD.out]; exact Nat.le_refl _)])
                    rw [HT.out] at hl16 ⊢
                    have hp : 10 ^ k ≤ 10 ^ 16 := Nat.pow_le_pow_right (by decide) (by omega)
                    generalize val (digs s.data.toList) = V at *
                    have hq : (V ≤ 1125899906842624 / u) ↔ V * u ≤ 1125899906842624 := Nat.le_div_iff_mul_le (by omega)
                    obtain ⟨Q, hQ⟩ : ∃ Q, Q = 1125899906842624 / u := ⟨_, rfl⟩
                    have hqi : ((1125899906842624 : Int) / (u : Int)) = (Q : Int) := by rw [hQ]; simp
                    rw [← hQ] at hq
                    have HQ := Lib.hid hq
                    have hqb : Q ≤ 1125899906842624 := by rw [hQ]; exact Nat.div_le_self _ _
                    clear hQ hq
                    by_cases hVQ : V ≤ Q
                    · have hVQ' : (V : Int) ≤ (Q : Int) := by omega
                      have hm := HQ.out.1 hVQ
                      have hw : wrap64 ((V : Int) * (u : Int)) = (V : Int) * (u : Int) := by
                        have : ((V * u : Nat) : Int) = (V : Int) * (u : Int) := by simp
                        rw [← this]; unfold wrap64; omega
                      have HM := Lib.hid hm
                      clear hm hVQ
                      go_wp2
                      go_ret2
                      rw [HPe.out, if_pos HM.out]
                      exact ⟨by simp [pRes, hw], Below.refl _ _⟩
                    · have hVQ' : ¬ (V : Int) ≤ (Q : Int) := by omega
                      go_wp2
                      go_ret2
                      rw [HPe.out, if_neg (fun h => hVQ (HQ.out.2 h))]
                      exact ⟨rfl, Below.refl _ _⟩

end Go.Proofs.YtcokgpjmhacmeaaDoor
