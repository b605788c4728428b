/- Layer 3 (object): texts that are names; phases among some. -/
import Derived.Test.YtobpohjhhelljaaRows
import Derived.WalkKit
import Derived.WalkLawsBesides
import Derived.WalkSpells
import Derived.Below
import Derived.LoopTactic
import Derived.Lib.Hide
namespace Go.Proofs.Ytobpohjhhelljaa
open Go.RowKit
set_option linter.unusedVariables false
set_option linter.unusedSimpArgs false


def charOk (c : UInt8) : Bool :=
  (decide (97 ≤ c.toNat) && decide (c.toNat ≤ 122)) || (decide (48 ≤ c.toNat) && decide (c.toNat ≤ 57)) || decide (c.toNat = 45) || decide (c.toNat = 46) || decide (c.toNat = 35) || decide (c.toNat = 47)
def nameB (s : ByteArray) : Bool := s.data.toList.all charOk && decide (1 ≤ s.size) && decide (s.size ≤ 40)

theorem ret_int {k : IntKind} {a b : Int} (h : a = b) : Ending.returned (.int k a) = .returned (.int k b) := by rw [h]
theorem ret_bool {a b : Bool} (h : a = b) : Ending.returned (.bool a) = .returned (.bool b) := by rw [h]

theorem nameB_bad (s : ByteArray) (k : Nat) (h : k < s.size) (hc : charOk s[k] = false) : nameB s = false := by
  unfold nameB
  have : s.data.toList.all charOk = false := by
    rw [List.all_eq_false]
    exact ⟨s[k], by rw [ByteArray.getElem_eq_getElem_data]; exact List.mem_of_getElem? (i := k) (by simp), by simp [hc]⟩
  simp [this]

theorem nameB_good (s : ByteArray) (h : ∀ j (hj : j < s.size), charOk s[j] = true) : nameB s = (decide (1 ≤ s.size) && decide (s.size ≤ 40)) := by
  unfold nameB
  have : s.data.toList.all charOk = true := by
    rw [List.all_eq_true]
    intro c hc
    obtain ⟨j, hj, rfl⟩ := List.getElem_of_mem hc
    have := h j (by simpa using hj)
    rw [ByteArray.getElem_eq_getElem_data] at this
    exact this
  simp [this]

theorem charOk_true {c : UInt8} (h : charOk c = true) : (97 ≤ c.toNat ∧ c.toNat ≤ 122) ∨ (48 ≤ c.toNat ∧ c.toNat ≤ 57) ∨ c.toNat = 45 ∨ c.toNat = 46 ∨ c.toNat = 35 ∨ c.toNat = 47 := by
  simp [charOk] at h; omega
theorem charOk_false {c : UInt8} (h : charOk c = false) : (c.toNat < 97 ∨ 122 < c.toNat) ∧ (c.toNat < 48 ∨ 57 < c.toNat) ∧ c.toNat ≠ 45 ∧ c.toNat ≠ 46 ∧ c.toNat ≠ 35 ∧ c.toNat ≠ 47 := by
  simp [charOk] at h; omega

set_option maxRecDepth 100000 in
set_option maxHeartbeats 1000000 in
theorem name_any (s : ByteArray) (w : World) (hs : s.size ≤ maxLen) : Calls Try.prog 90 #[.string s] w fun e w' => e = .returned (.bool (nameB s)) ∧ w' = w := by
  unfold maxLen at hs
  go_enter Try.func90, Try.ntmps90
  go_wp2
  go_loop [9] (fun i => ∃ k : Nat, k ≤ s.size ∧ i = .int .i64 k ∧ Hid (∀ j (hj : j < s.size), j < k → charOk s[j] = true)) (fun i => s.size - (intOf i).toNat)
  case atStart => exact ⟨0, Nat.zero_le _, rfl, fun j hj h => absurd h (by omega)⟩
  case round =>
    obtain ⟨k, hk, rfl, hgood⟩ := hrel
    by_cases hlt : k < s.size
    · cases hc : charOk s[k] with
      | false =>
        have hn := nameB_bad s k hlt hc
        have HN := Lib.hid hn
        have hu := s[k].toNat_lt
        obtain ⟨x1, x2, x3, x4, x5, x6⟩ := charOk_false hc
        clear hgood hn hc
        go_wp2
        all_goals first | (go_ret; exact ⟨ret_bool HN.out.symm, rfl⟩) | (exfalso; rename_i hx; simp at hx; omega)
      | true =>
        have hnext : Hid (∀ j (hj : j < s.size), j < k + 1 → charOk s[j] = true) := fun j hj h => by
          by_cases e : j = k
          · subst e; exact hc
          · exact hgood.out j hj (by omega)
        have hu := s[k].toNat_lt
        have x1 := charOk_true hc
        clear hgood hc
        go_wp2
        all_goals first | (exfalso; rename_i hx; simp at hx; omega) | (exfalso; rename_i hx _; simp at hx; omega) | (exfalso; rename_i hx _ _; simp at hx; omega) | (exfalso; rename_i hx _ _ _; simp at hx; omega) | (exfalso; rename_i hx _ _ _ _; simp at hx; omega) | skip
        all_goals first
          | (go_round
             case rel => exact ⟨k + 1, by omega, by go_num, hnext⟩
             case measure => simp [intOf]; omega)
    · have hend := nameB_good s (fun j hj => hgood.out j hj (by omega))
      obtain rfl : k = s.size := by omega
      have HE := Lib.hid hend
      clear hend hgood
      clear hlt hk
      by_cases h0 : s.size = 0
      · have h1 : s.toList = [] := by
          rw [ByteArray.toList_eq]
          exact List.eq_nil_of_length_eq_zero (by simpa using h0)
        have h2 : (!s.toList.isEmpty) = false := by rw [h1]; rfl
        go_wp2
        go_ret
        exact ⟨ret_bool (by rw [HE.out, h0]; rfl), rfl⟩
      · have h1 : ¬ s.toList = [] := by
          rw [ByteArray.toList_eq]
          intro h
          exact h0 (by simpa using congrArg List.length h)
        have h2 : (!s.toList.isEmpty) = true := by simpa using h1
        go_wp2
        go_ret
        exact ⟨ret_bool (by rw [HE.out]; by_cases h4 : s.size ≤ 40 <;> simp [h4] <;> omega), rfl⟩

/-- texts that are names, or empty -/
def namesB (l : List ByteArray) : Bool := l.all fun s => decide (s.size = 0) || nameB s

theorem size_zero {s : ByteArray} (h : s.size = 0) : s.toList = [] := by
  rw [ByteArray.toList_eq]
  exact List.eq_nil_of_length_eq_zero (by simpa using h)
theorem size_pos {s : ByteArray} (h : ¬ s.size = 0) : ¬ s.toList = [] := by
  rw [ByteArray.toList_eq]
  intro h'
  exact h (by simpa using congrArg List.length h')

set_option maxRecDepth 100000 in
set_option maxHeartbeats 1000000 in
theorem names_any (l : List ByteArray) (b : Nat) (w : World) (hl : l.length ≤ 1000) (hz : ∀ s ∈ l, s.size ≤ maxLen) (hc : ∀ k (hk : k < l.length), w.cell? ⟨b, k, none⟩ = some (.string l[k])) :
    Calls Try.prog 92 #[.slice (some ⟨b, 0, none⟩) l.length l.length] w fun e w' => e = .returned (.bool (namesB l)) ∧ w' = w := by
  have HC := Lib.hid hc
  have HZ := Lib.hid hz
  clear hc hz
  go_enter Try.func92, Try.ntmps92
  go_wp2
  go_loop [7] (fun i => ∃ k : Nat, k ≤ l.length ∧ i = .int .i64 k ∧ Hid (∀ j (hj : j < l.length), j < k → (decide (l[j].size = 0) || nameB l[j]) = true)) (fun i => l.length - (intOf i).toNat)
  case atStart => exact ⟨0, Nat.zero_le _, rfl, fun j hj h => absurd h (by omega)⟩
  case round =>
    obtain ⟨k, hk, rfl, hgood⟩ := hrel
    by_cases hlt : k < l.length
    · have hcell := HC.out k hlt
      have hsz := HZ.out l[k] (List.getElem_mem hlt)
      by_cases h0 : l[k].size = 0
      · have h1 := size_zero h0
        have h2 : (!l[k].toList.isEmpty) = false := by rw [h1]; rfl
        have hnext : Hid (∀ j (hj : j < l.length), j < k + 1 → (decide (l[j].size = 0) || nameB l[j]) = true) := fun j hj h => by
          by_cases e : j = k
          · subst e; simp [h0]
          · exact hgood.out j hj (by omega)
        clear hgood
        go_wp2
        go_round
        case rel => exact ⟨k + 1, by omega, by go_num, hnext⟩
        case measure => simp [intOf]; omega
      · have h1 := size_pos h0
        have h2 : (!l[k].toList.isEmpty) = true := by simpa using h1
        cases hn : nameB l[k] with
        | true =>
          have hnext : Hid (∀ j (hj : j < l.length), j < k + 1 → (decide (l[j].size = 0) || nameB l[j]) = true) := fun j hj h => by
            by_cases e : j = k
            · subst e; simp [hn]
            · exact hgood.out j hj (by omega)
          have HN := Lib.hid hn
          clear hgood hn
          go_wp2_with fail
          refine (name_any l[k] w hsz).mono ?_
          rintro e w' ⟨rfl, rfl⟩
          rw [HN.out]
          go_wp2
          go_round
          case rel => exact ⟨k + 1, by omega, by go_num, hnext⟩
          case measure => simp [intOf]; omega
        | false =>
          have hbad : namesB l = false := by
            unfold namesB
            rw [List.all_eq_false]
            exact ⟨l[k], List.getElem_mem hlt, by simp [hn, h0]⟩
          have HN := Lib.hid hn
          have HB := Lib.hid hbad
          clear hgood hn hbad
          go_wp2_with fail
          refine (name_any l[k] w hsz).mono ?_
          rintro e w' ⟨rfl, rfl⟩
          rw [HN.out]
          go_wp2
          go_ret
          exact ⟨ret_bool HB.out.symm, rfl⟩
    · have hall : namesB l = true := by
        unfold namesB
        rw [List.all_eq_true]
        intro s hs
        obtain ⟨j, hj, rfl⟩ := List.getElem_of_mem hs
        exact hgood.out j hj (by omega)
      have HA := Lib.hid hall
      clear hall hgood
      go_wp2
      go_ret
      exact ⟨ret_bool HA.out.symm, rfl⟩

def oneB (p : Int) (l : List Int) : Bool := l.any fun x => decide (p = x)

set_option maxRecDepth 100000 in
set_option maxHeartbeats 1000000 in
theorem one_any (p : Int) (l : List Int) (b : Nat) (w : World) (hl : l.length ≤ 1000) (hc : ∀ k (hk : k < l.length), w.cell? ⟨b, k, none⟩ = some (.int .u8 l[k])) :
    Calls Try.prog 94 #[.int .u8 p, .slice (some ⟨b, 0, none⟩) l.length l.length] w fun e w' => e = .returned (.bool (oneB p l)) ∧ w' = w := by
  have HC := Lib.hid hc
  clear hc
  go_enter Try.func94, Try.ntmps94
  go_wp2
  go_loop [9] (fun i => ∃ k : Nat, k ≤ l.length ∧ i = .int .i64 k ∧ Hid (∀ j (hj : j < l.length), j < k → p ≠ l[j])) (fun i => l.length - (intOf i).toNat)
  case atStart => exact ⟨0, Nat.zero_le _, rfl, fun j hj h => absurd h (by omega)⟩
  case round =>
    obtain ⟨k, hk, rfl, hgood⟩ := hrel
    by_cases hlt : k < l.length
    · have hcell := HC.out k hlt
      by_cases h0 : p = l[k]
      · have hyes : oneB p l = true := by
          unfold oneB
          rw [List.any_eq_true]
          exact ⟨l[k], List.getElem_mem hlt, by simp [h0]⟩
        have HY := Lib.hid hyes
        have h1 : (p == l[k]) = true := by simpa using h0
        clear hgood hyes h0
        go_wp2
        go_ret
        exact ⟨ret_bool HY.out.symm, rfl⟩
      · have hnext : Hid (∀ j (hj : j < l.length), j < k + 1 → p ≠ l[j]) := fun j hj h => by
          by_cases e : j = k
          · subst e; exact h0
          · exact hgood.out j hj (by omega)
        have h1 : (p == l[k]) = false := by simpa using h0
        clear hgood
        go_wp2
        go_round
        case rel => exact ⟨k + 1, by omega, by go_num, hnext⟩
        case measure => simp [intOf]; omega
    · have hall : oneB p l = false := by
        unfold oneB
        rw [List.any_eq_false]
        intro s hs
        obtain ⟨j, hj, rfl⟩ := List.getElem_of_mem hs
        simpa using hgood.out j hj (by omega)
      have HA := Lib.hid hall
      clear hall hgood
      go_wp2
      go_ret
      exact ⟨ret_bool HA.out.symm, rfl⟩

end Go.Proofs.Ytobpohjhhelljaa
