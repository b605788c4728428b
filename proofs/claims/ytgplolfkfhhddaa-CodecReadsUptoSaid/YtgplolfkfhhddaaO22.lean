/- Layer 3 (object): the document's answers on names. -/
import Derived.Test.YtgplolfkfhhddaaO5
import Derived.Test.YtgplolfkfhhddaaTree
namespace Go.Proofs.Ytgplolfkfhhddaa
open Go.RowKit
set_option linter.unusedVariables false
set_option linter.unusedSimpArgs false

set_option maxRecDepth 100000 in
set_option maxHeartbeats 1000000 in
theorem nameR_any (s : ByteArray) (w : World) (hs : s.size ≤ maxLen) : Calls Try.prog 27 #[.string s] w fun e w' => e = .returned (.bool (nameB s)) ∧ w' = w := by
  unfold maxLen at hs
  go_enter Try.func27, Try.ntmps27
  go_wp2
  go_loop [3] (fun i => ∃ k : Nat, k ≤ s.size ∧ i = .int .i64 k ∧ Hid (∀ j (hj : j < s.size), j < k → charOk s[j] = true)) (fun i => s.size - (intOf i).toNat)
  case atStart => exact ⟨0, Nat.zero_le _, rfl, fun j hj h => absurd h (by omega)⟩
  case round =>
    obtain ⟨k, hk, rfl, hgood⟩ := hrel
    by_cases hlt : k < s.size
    · cases hc : charOk s[k] with
      | false =>
        have hn := nameB_bad s k hlt hc
        have HN := Lib.hid hn
        have hu := s[k].toNat_lt
        obtain ⟨x1, x2, x3, x4, x5, x6⟩ := charOk_false hc
        clear hgood hn hc
        go_wp2
        all_goals first | (go_ret; exact ⟨ret_bool HN.out.symm, rfl⟩) | (exfalso; rename_i hx; simp at hx; omega)
      | true =>
        have hnext : Hid (∀ j (hj : j < s.size), j < k + 1 → charOk s[j] = true) := fun j hj h => by
          by_cases e : j = k
          · subst e; exact hc
          · exact hgood.out j hj (by omega)
        have hu := s[k].toNat_lt
        have x1 := charOk_true hc
        clear hgood hc
        go_wp2
        all_goals first | (exfalso; rename_i hx; simp at hx; omega) | (exfalso; rename_i hx _; simp at hx; omega) | (exfalso; rename_i hx _ _; simp at hx; omega) | (exfalso; rename_i hx _ _ _; simp at hx; omega) | (exfalso; rename_i hx _ _ _ _; simp at hx; omega) | skip
        all_goals first
          | (go_round
             case rel => exact ⟨k + 1, by omega, by go_num, hnext⟩
             case measure => simp [intOf]; omega)
    · have hend := nameB_good s (fun j hj => hgood.out j hj (by omega))
      obtain rfl : k = s.size := by omega
      have HE := Lib.hid hend
      clear hend hgood
      clear hlt hk
      by_cases h0 : s.size = 0
      · have h1 : s.toList = [] := by
          rw [ByteArray.toList_eq]
          exact List.eq_nil_of_length_eq_zero (by simpa using h0)
        have h2 : (!s.toList.isEmpty) = false := by rw [h1]; rfl
        go_wp2
        go_ret
        exact ⟨ret_bool (by rw [HE.out, h0]; rfl), rfl⟩
      · have h1 : ¬ s.toList = [] := by
          rw [ByteArray.toList_eq]
          intro h
          exact h0 (by simpa using congrArg List.length h)
        have h2 : (!s.toList.isEmpty) = true := by simpa using h1
        go_wp2
        go_ret
        exact ⟨ret_bool (by rw [HE.out]; by_cases h4 : s.size ≤ 40 <;> simp [h4] <;> omega), rfl⟩


set_option maxRecDepth 100000 in
set_option maxHeartbeats 1000000 in
theorem maybe_any (s : ByteArray) (w : World) (hs : s.size ≤ maxLen) : Calls Try.prog 26 #[.string s] w fun e w' => e = .returned (.bool (decide (s.size = 0) || nameB s)) ∧ w' = w := by
  by_cases h0 : s.size = 0
  · have h1 := size_zero h0
    go_enter Try.func26, Try.ntmps26
    go_wp2
    go_ret
    exact ⟨ret_bool (by simp [h0]), rfl⟩
  · have h1 := size_pos h0
    go_enter Try.func26, Try.ntmps26
    go_wp2_with fail
    refine (nameR_any s w hs).mono ?_
    rintro e w' ⟨rfl, rfl⟩
    have h2 : s.toList.isEmpty = false := by simpa using h1
    cases hn : nameB s <;> go_wp2 <;> go_ret <;> exact ⟨ret_bool (by simp [h0, h2, hn]), rfl⟩

theorem slash_none2 {s : ByteArray} (h : slashIn s = false) : (47 : UInt8) ∉ s.data.toList := by
  intro hm
  have h1 : Lib.indexByte s.data.toList 47 < 0 := by simpa [slashIn] using h
  have h2 := Lib.indexByte_ge s.data.toList 47
  have h3 : Lib.indexByte s.data.toList 47 = -1 := by omega
  obtain ⟨k, hk⟩ := List.mem_iff_getElem?.1 hm
  exact Lib.indexByte_none h3 k hk
theorem slashIn_bad (s : ByteArray) (k : Nat) (h : k < s.size) (hc : s[k].toNat = 47) : slashIn s = true := by
  unfold slashIn
  have hm : (47 : UInt8) ∈ s.data.toList := by
    have e : s[k] = 47 := UInt8.toNat_inj.1 (by rw [hc]; rfl)
    rw [← e, ByteArray.getElem_eq_getElem_data]; exact List.mem_of_getElem? (i := k) (by simp)
  cases hd : decide (0 ≤ Lib.indexByte s.data.toList 47) with
  | true => rfl
  | false => exact absurd hm (slash_none2 (s := s) (by unfold slashIn; exact hd))

end Go.Proofs.Ytgplolfkfhhddaa
