/- Layer 1 (quant): units. -/
import Derived.Test.YtcokgpjmhacmeaaDoorChecked
import Derived.Test.YtcokgpjmhacmeaaDoorPure
namespace Go.Proofs.YtcokgpjmhacmeaaDoor
open Go.RowKit
set_option linter.unusedVariables false
set_option linter.unusedSimpArgs false

def uRes (o : Option Nat) : Value := match o with | some u => .tuple #[.int .i64 (u : Int), .bool true] | none => .tuple #[.int .i64 0, .bool false]
theorem str_eq {s : ByteArray} {l : Bs} (h : s.data.toList = l) : s = ⟨l.toArray⟩ := by
  cases s with
  | mk d => simp at h; subst h; simp

theorem isEmpty_false {s : ByteArray} (h : ¬ s = ⟨([] : Bs).toArray⟩) : s.toList.isEmpty = false := by
  rw [ByteArray.toList_eq]
  cases h' : s.data.toList with
  | nil => exact absurd (str_eq h') h
  | cons c l => rfl

theorem beq_false' {s : ByteArray} {l : Bs} (h : ¬ s = ⟨l.toArray⟩) : (s.toList == l) = false := by
  rw [ByteArray.toList_eq]
  exact beq_false_of_ne fun e => h (str_eq e)

set_option maxHeartbeats 4000000 in
theorem unitR_any (s : ByteArray) (w : World) : Calls Tryd.prog 14 #[.string s] w fun e w' => e = .returned (uRes (unitOf s.data.toList)) ∧ w' = w := by
  by_cases h : s.data.toList ∈ sfx.map (·.1)
  · simp only [sfx, List.map_cons, List.map_nil, List.mem_cons, List.not_mem_nil, or_false] at h
    rcases h with h | h | h | h | h | h | h | h | h <;>
    · rw [h]
      have hs := str_eq h
      subst hs
      clear h
      go_enter Tryd.func14, Tryd.ntmps14
      go_wp2
      go_ret2
      exact ⟨by kernel_rfl, rfl⟩
  · have hn := unitOf_none (r := s.data.toList) (fun x hx e => h (List.mem_map.2 ⟨x, hx, e⟩))
    rw [hn]
    clear hn
    have hne : ∀ l ∈ sfx.map (·.1), ¬ s = ⟨l.toArray⟩ := fun l hl e => h (by rw [e]; simpa using hl)
    clear h
    have n0 := isEmpty_false (hne [] (by decide))
    have n1 := beq_false' (hne [75] (by decide))
    have n2 := beq_false' (hne [75, 105] (by decide))
    have n3 := beq_false' (hne [77] (by decide))
    have n4 := beq_false' (hne [77, 105] (by decide))
    have n5 := beq_false' (hne [71] (by decide))
    have n6 := beq_false' (hne [71, 105] (by decide))
    have n7 := beq_false' (hne [84] (by decide))
    have n8 := beq_false' (hne [84, 105] (by decide))
    clear hne
    go_enter Tryd.func14, Tryd.ntmps14
    go_wp2
    go_ret2
    exact ⟨rfl, rfl⟩

end Go.Proofs.YtcokgpjmhacmeaaDoor
