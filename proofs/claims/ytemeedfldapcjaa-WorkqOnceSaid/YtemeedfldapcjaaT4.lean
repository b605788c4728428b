/- A part of the walks: contracts of functions. -/
import Derived.Test.YtemeedfldapcjaaT3
namespace Go.Proofs.Ytemeedfldapcjaa
open Go.RowKit
set_option linter.unusedVariables false
set_option linter.unusedSimpArgs false
theorem flat2 (l : List GKey) : ∀ (i j : Nat), j < 2 → (l.flatMap keyCells)[i * 2 + j]? = (l[i]?).bind fun a => (keyCells a)[j]? := by
  induction l with
  | nil => intro i j _; simp
  | cons a l ih =>
    intro i j hj
    cases i with
    | zero =>
      simp only [List.flatMap_cons, Nat.zero_mul, Nat.zero_add, List.getElem?_cons_zero, Option.bind_some]
      rw [List.getElem?_append_left (by simpa using hj)]
    | succ i =>
      simp only [List.flatMap_cons, List.getElem?_cons_succ]
      rw [List.getElem?_append_right (by simp; omega), show (i + 1) * 2 + j - (keyCells a).length = i * 2 + j by simp; omega, ih i j hj]

/-- a row of keys, opened -/
theorem keysRow_open {w : World} {b : Nat} {v : Value} {keys : List GKey} (h : w.ownsRow b 28 2 v keys.length (keys.flatMap keyCells)) :
    ∃ (ao : Option Addr) (cap : Nat), v = .slice ao keys.length cap ∧ keys.length ≤ 9223372036854775807 ∧ (∀ (j : Nat) (hj : j < keys.length), ∃ g, ao = some ⟨g, 0, none⟩ ∧ w.cell? ⟨g, j * 2, none⟩ = some (.int .u8 keys[j].kind) ∧ w.cell? ⟨g, j * 2 + 1, none⟩ = some (.string keys[j].name)) := by
  obtain ⟨hx, ⟨rfl, h0⟩ | ⟨g, cap, cur, rfl, _, hg, h1, h2, h3, h4⟩⟩ := h
  · exact ⟨none, 0, by rw [h0], by omega, fun j hj => absurd hj (by omega)⟩
  · unfold maxLen at h2
    refine ⟨_, cap, rfl, by omega, fun j hj => ⟨g, rfl, ?_, ?_⟩⟩
    · have hv : (keys.flatMap keyCells)[j * 2 + 0]? = some (.int .u8 keys[j].kind) := by rw [flat2 _ _ _ (by omega)]; simp [hj]
      rw [← h4, List.getElem?_take_of_lt (by omega)] at hv
      exact (cells_of_block hg (j * 2) _ (by simpa using hv)).1
    · have hv : (keys.flatMap keyCells)[j * 2 + 1]? = some (.string keys[j].name) := by rw [flat2 _ _ _ (by omega)]; simp [hj]
      rw [← h4, List.getElem?_take_of_lt (by omega)] at hv
      exact (cells_of_block hg (j * 2 + 1) _ (by simpa using hv)).1

set_option maxRecDepth 100000 in
set_option maxHeartbeats 4000000 in
theorem sameKeys_any (v1 v2 : Value) (keys : List GKey) (b1 b2 : Nat) (w : World) (h1 : w.ownsRow b1 28 2 v1 keys.length (keys.flatMap keyCells)) (h2 : w.ownsRow b2 28 2 v2 keys.length (keys.flatMap keyCells)) :
    Calls Try.prog 40 #[v1, v2] w fun e w' => e = .returned (.bool true) ∧ Below w.heap.size w w' := by
  obtain ⟨a1, c1, rfl, hlen, hc1⟩ := keysRow_open h1
  obtain ⟨a2, c2, rfl, _, hc2⟩ := keysRow_open h2
  have HC1 := Lib.hid hc1
  have HC2 := Lib.hid hc2
  clear h1 h2 hc1 hc2
  go_enter Try.func40, Try.ntmps40
  go_wp2
  go_loopw [5] (fun i wr => ∃ j : Nat, j ≤ keys.length ∧ i = .int .i64 j ∧ Hid (Still w wr)) (fun i _ => keys.length - (intOf i).toNat)
  case atStart => exact ⟨0, Nat.zero_le _, rfl, Lib.hid (Still.refl _)⟩
  case round =>
    obtain ⟨j, hj, rfl, hS⟩ := hrel
    by_cases hjl : j < keys.length
    · obtain ⟨g1, rfl, x0, x1⟩ := HC1.out j hjl
      obtain ⟨g2, rfl, y0, y1⟩ := HC2.out j hjl
      have x0' := (hS.out.cell ⟨g1, j * 2, none⟩).trans x0
      have x1' := (hS.out.cell ⟨g1, j * 2 + 1, none⟩).trans x1
      have y0' := (hS.out.cell ⟨g2, j * 2, none⟩).trans y0
      have y1' := (hS.out.cell ⟨g2, j * 2 + 1, none⟩).trans y1
      have hjl2 : (j : Int) < keys.length := by omega
      clear x0 x1 y0 y1 HC1 HC2
      go_wp2
      go_still (by kernel_rfl)
      go_wp2
      go_roundw
      case rel => exact ⟨j + 1, by omega, by simp, Lib.hid hS.out.drew⟩
      case measure => simp [intOf]; omega
    · have hjl2 : ¬ (j : Int) < keys.length := by omega
      clear HC1 HC2
      go_wp2
      go_ret
      exact ⟨rfl, hS.out.b⟩
end Go.Proofs.Ytemeedfldapcjaa
