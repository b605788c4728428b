/- Layer 4 (codec): what must be whatever is asked. -/
import Derived.Test.YtgplolfkfhhddaaR5
import Derived.Test.YtgplolfkfhhddaaW4
namespace Go.Proofs.Ytgplolfkfhhddaa
open Go.RowKit
set_option linter.unusedVariables false
set_option linter.unusedSimpArgs false

def liveC : Obj := ⟨1, ⟨#[97]⟩, 0, 0, false, false, ⟨#[]⟩, 0, 0, 0, false, false, ⟨#[]⟩, ⟨#[]⟩, ⟨#[]⟩, ⟨#[]⟩, ⟨#[]⟩, 0, 0, 0⟩
theorem liveC_cells : cellsO liveC = #[.int .u8 1, .string ⟨#[97]⟩, .int .u64 0, .int .u64 0, .bool false, .bool false, .string ⟨#[]⟩, .int .i64 0, .int .i64 0, .int .u8 0, .bool false, .bool false, .string ⟨#[]⟩, .string ⟨#[]⟩, .string ⟨#[]⟩, .string ⟨#[]⟩, .string ⟨#[]⟩, .int .u8 0, .int .u64 0, .int .u64 0] := by simp [cellsO, liveC]
theorem liveC_right : rightB liveC = true := by decide +kernel
theorem liveC_typed : liveC.Typed := ⟨by decide, by decide, by decide, by decide, by decide, by decide, by decide⟩
theorem liveC_fits : liveC.Fits := ⟨by decide, by decide⟩
theorem liveC_len : (objE liveC).length = 18 := by decide +kernel
theorem liveC_read : readD (objE liveC) = some liveC := readD_objE liveC_typed liveC_right

theorem OwnB.src {w : World} {B B' : Nat} {v : Value} {l : Bs} (h : OwnB w B v l) (hB : w.heap.size ≤ B') : SrcB w B' v l :=
  .inl ⟨h.isB, fun b e => by
    obtain ⟨_, ⟨rfl, _⟩ | ⟨g, cap, cur, rfl, _, hg, _⟩⟩ := h
    · simp [blk] at e
    · simp [blk] at e; subst e; exact Nat.lt_of_lt_of_le (heap_lt hg) hB⟩

set_option maxRecDepth 100000 in
set_option maxHeartbeats 4000000 in
theorem live_any (w : World) : Calls Try.prog 13 #[] w fun e w' => e = .returned (.bool true) ∧ Below w.heap.size w w' := by
  have HC := Lib.hid liveC_cells
  go_enter Try.func13, Try.ntmps13
  go_wp2_with fail
  rw [← HC.out]
  refine (object_any liveC w liveC_typed liveC_fits).mono ?_
  rintro e w1 ⟨v, rfl, hown, hb⟩
  rw [liveC_right, if_pos rfl] at hown
  simp only [liveC_right, if_true]
  obtain ⟨a, c, rfl⟩ := hown.lv
  have hsrc := hown.src (Nat.le_refl _)
  have HS := Lib.hid hsrc
  have HB := Lib.hid hb
  rw [liveC_len] at HS
  clear hown hsrc hb
  rw [liveC_len]
  go_wp2_with fail
  refine (read_any _ _ w1 HS.out).mono ?_
  rintro e w2 ⟨rfl, hb⟩
  rw [liveC_read]
  simp only [Option.getD_some, Option.isSome_some, if_true]
  have HB2 := Lib.hid (HB.out.trans (hb.mono HB.out.size))
  clear hb
  have hq : (w2.alloc (.cells (cellsO objZ) 27)).heap[w2.heap.size]? = some (.cells (cellsO objZ) 27 (0, 0)) := heap_alloc_eq
  rw [objZ_cells] at hq
  simp only [noText] at hq
  have HQ := Lib.hid hq
  have hw3 := Wset_same (o := .cells (cellsO liveC) 27 (0, 0)) (heap_lt hq)
  obtain ⟨cn, fn⟩ := cells_of_block hw3 1 (.string ⟨#[97]⟩) (by rw [liveC_cells]; rfl)
  obtain ⟨ck, fk⟩ := cells_of_block hw3 0 (.int .u8 1) (by rw [liveC_cells]; rfl)
  clear hw3
  clear hq
  go_wp2_with (refine wpList_storeObj rfl _ _ rfl w2.heap.size rfl liveC rfl _ HQ.out rfl ?_)
  go_ret
  exact ⟨rfl, belowWs (HB2.out.alloc HB2.out.size _) HB2.out.size⟩

end Go.Proofs.Ytgplolfkfhhddaa
