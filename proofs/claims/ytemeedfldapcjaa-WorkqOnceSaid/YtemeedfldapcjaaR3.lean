/- A part of the walks: contracts of functions. -/
import Derived.Test.YtemeedfldapcjaaR2
namespace Go.Proofs.Ytemeedfldapcjaa
open Go.RowKit
set_option linter.unusedVariables false
set_option linter.unusedSimpArgs false
/-- the place of the one with the least time among the first j; -1: there are none -/
def FirstTo (l : List (GKey × Int)) (j : Nat) (a : Int) : Prop :=
  (j = 0 ∧ a = -1) ∨ ∃ (i : Nat) (hi : i < l.length), i < j ∧ a = i ∧ (∀ m (hm : m < l.length), m < j → l[i].2 ≤ l[m].2) ∧ (∀ m (hm : m < l.length), m < i → l[i].2 < l[m].2)
def FirstAt (l : List (GKey × Int)) (a : Int) : Prop := FirstTo l l.length a

theorem FirstTo.stay {l : List (GKey × Int)} {j i : Nat} (hj : j < l.length) (hi : i < l.length) (h : FirstTo l j i) (hle : l[i].2 ≤ l[j].2) : FirstTo l (j + 1) i := by
  rcases h with ⟨_, h⟩ | ⟨i', hi', hij, e, h1, h2⟩
  · omega
  · obtain rfl : i' = i := by omega
    refine .inr ⟨i', hi', by omega, rfl, fun m hm hlt => ?_, h2⟩
    by_cases hmj : m = j
    · subst hmj; exact hle
    · exact h1 m hm (by omega)
theorem FirstTo.turn {l : List (GKey × Int)} {j i : Nat} (hj : j < l.length) (hi : i < l.length) (h : FirstTo l j i) (hlt : l[j].2 < l[i].2) : FirstTo l (j + 1) j := by
  rcases h with ⟨_, h⟩ | ⟨i', hi', hij, e, h1, h2⟩
  · omega
  · obtain rfl : i' = i := by omega
    refine .inr ⟨j, hj, by omega, rfl, fun m hm hlt2 => ?_, fun m hm hlt2 => ?_⟩
    · by_cases hmj : m = j
      · subst hmj; exact Int.le_refl _
      · have := h1 m hm (by omega); omega
    · have := h1 m hm (by omega); omega
theorem FirstTo.begin {l : List (GKey × Int)} (hj : 0 < l.length) : FirstTo l 1 0 :=
  .inr ⟨0, hj, by omega, rfl, fun m hm h => by obtain rfl : m = 0 := by omega
                                               exact Int.le_refl _, fun m hm h => absurd h (by omega)⟩

set_option maxRecDepth 100000 in
set_option maxHeartbeats 2000000 in
theorem firstR_any (R : RLoc) (r : RQ) (w : World) (h : RAt w R r) :
    Calls Try.prog 48 #[.pointer (some ⟨R.rq, 0, none⟩)] w fun e w' => ∃ a, e = .returned (.int .i64 a) ∧ FirstAt r.l a ∧ Still w w' := by
  obtain ⟨hd, hl, _⟩ := h
  obtain ⟨ao, cap, hv, h1, h2, h3⟩ := row_open hl
  rw [hv] at hd
  have hlt := heap_lt hd
  have H3 := Lib.hid h3
  clear hlt hl h3 hv
  generalize hl : r.l = l at *
  obtain ⟨c0, f0⟩ := cells_of_block hd 0 _ rfl
  simp only [List.getElem_toArray, List.getElem_cons_zero, List.getElem_cons_succ] at c0
  have hcap : l.length ≤ maxLen := by omega
  unfold maxLen at hcap
  clear hd
  go_enter Try.func48, Try.ntmps48
  go_wp2
  go_loopw [3, 4] (fun x i wr => ∃ (j : Nat) (a : Int), j ≤ l.length ∧ i = .int .i64 j ∧ x = .int .i64 a ∧ Hid (FirstTo l j a) ∧ Hid (Still w wr)) (fun _ i _ => l.length - (intOf i).toNat)
  case atStart => exact ⟨0, -1, Nat.zero_le _, rfl, rfl, Lib.hid (.inl ⟨rfl, rfl⟩), Lib.hid (Still.refl _)⟩
  case round =>
    obtain ⟨j, a, hj, rfl, rfl, hF, hS⟩ := hrel
    have c0' := (hS.out.cell ⟨R.rq, 0, none⟩).trans c0
    by_cases hjl : j < l.length
    · obtain ⟨g, cur, rfl, hg, hsz, htk⟩ := H3.out (by omega)
      have hx : ∀ i (hi : i < l.length), wr.cell? ⟨g, i * 3 + 2, none⟩ = some (.int .u64 l[i].2) := by
        intro i hi
        have hx2 : (l.flatMap cellsI)[i * 3 + 2]? = some (.int .u64 l[i].2) := by rw [flat3 _ (fun _ => rfl) _ _ _ (by omega)]; simp [hi]
        exact (hS.out.cell ⟨g, i * 3 + 2, none⟩).trans (row_cell hg htk hx2 (by omega)).1
      clear hg hsz htk H3
      by_cases h0 : j = 0
      · have ha : a = -1 := by
          rcases hF.out with h | ⟨i, _, hij, _⟩
          · exact h.2
          · omega
        subst h0; subst ha
        have HB := Lib.hid (FirstTo.begin hjl)
        clear hx hF
        go_wp2
        refine wp_region_N (fun w' => (w'.cell? ⟨R.rq, 0, none⟩ = some (.slice (some ⟨g, 0, none⟩) l.length cap)))
          [(true, 0), (true, 1), (true, 2), (true, 3), (true, 4), (true, 5), (true, 6), (true, 7), (true, 8), (true, 9), (true, 10), (true, 11), (true, 12), (true, 13), (true, 14), (true, 15), (true, 16), (true, 17), (true, 18), (true, 19), (true, 20)] (by kernel_rfl) (by kernel_rfl) rfl (by kernel_rfl) ?_ ?_
        · exact (by go_keep)
        simp only [List.filterMap_cons, List.filterMap_nil, List.getElem?_cons_succ, List.getElem?_cons_zero, Option.map_some]
        apply wpSeq_takeK _ (by first | rfl | (simp [Region.wanted, yielded]; done))
        · intro w' hS
          have s0 := hS
          clear hS
          go_simp
          try rfl
        intro K hK
        go_simp
        refine hK _ ?_
        clear hK K
        apply wpSeq_takeK _ (by first | rfl | (simp [Region.wanted, yielded]; done))
        · intro w' hS
          have s0 := hS
          clear hS
          go_simp
          try rfl
        intro K hK
        go_simp
        refine hK _ ?_
        clear hK K
        apply wpSeq_takeK _ (by first | rfl | (simp [Region.wanted, yielded]; done))
        · intro w' hS
          have s0 := hS
          clear hS
          go_simp
          try rfl
        intro K hK
        go_simp
        refine hK _ ?_
        clear hK K
        refine wpSeq_skipT (by first | rfl | (simp [Region.wanted, yielded]; done)) ?_
        intro K hK
        go_simp
        refine hK _ ?_
        clear hK K
        refine wpSeq_skipT (by first | rfl | (simp [Region.wanted, yielded]; done)) ?_
        intro K hK
        go_simp
        refine hK _ ?_
        clear hK K
        refine wpSeq_skipT (by first | rfl | (simp [Region.wanted, yielded]; done)) ?_
        intro K hK
        go_simp
        refine hK _ ?_
        clear hK K
        refine wpSeq_skipT (by first | rfl | (simp [Region.wanted, yielded]; done)) ?_
        intro K hK
        go_simp
        refine hK _ ?_
        clear hK K
        refine wpSeq_skipT (by first | rfl | (simp [Region.wanted, yielded]; done)) ?_
        intro K hK
        go_simp
        refine hK _ ?_
        clear hK K
        refine wpSeq_skipT (by first | rfl | (simp [Region.wanted, yielded]; done)) ?_
        intro K hK
        go_simp
        refine hK _ ?_
        clear hK K
        refine wpSeq_skipT (by first | rfl | (simp [Region.wanted, yielded]; done)) ?_
        intro K hK
        go_simp
        refine hK _ ?_
        clear hK K
        refine wpSeq_skipT (by first | rfl | (simp [Region.wanted, yielded]; done)) ?_
        intro K hK
        go_simp
        refine hK _ ?_
        clear hK K
        refine wpSeq_skipT (by first | rfl | (simp [Region.wanted, yielded]; done)) ?_
        intro K hK
        go_simp
        refine hK _ ?_
        clear hK K
        refine wpSeq_skipT (by first | rfl | (simp [Region.wanted, yielded]; done)) ?_
        intro K hK
        go_simp
        refine hK _ ?_
        clear hK K
        refine wpSeq_skipT (by first | rfl | (simp [Region.wanted, yielded]; done)) ?_
        intro K hK
        go_simp
        refine hK _ ?_
        clear hK K
        refine wpSeq_skipT (by first | rfl | (simp [Region.wanted, yielded]; done)) ?_
        intro K hK
        go_simp
        refine hK _ ?_
        clear hK K
        refine wpSeq_skipT (by first | rfl | (simp [Region.wanted, yielded]; done)) ?_
        intro K hK
        go_simp
        refine hK _ ?_
        clear hK K
        refine wpSeq_skipT (by first | rfl | (simp [Region.wanted, yielded]; done)) ?_
        intro K hK
        go_simp
        refine hK _ ?_
        clear hK K
        refine wpSeq_skipT (by first | rfl | (simp [Region.wanted, yielded]; done)) ?_
        intro K hK
        go_simp
        refine hK _ ?_
        clear hK K
        refine wpSeq_skipT (by first | rfl | (simp [Region.wanted, yielded]; done)) ?_
        intro K hK
        go_simp
        refine hK _ ?_
        clear hK K
        refine wpSeq_skipT (by first | rfl | (simp [Region.wanted, yielded]; done)) ?_
        intro K hK
        go_simp
        refine hK _ ?_
        clear hK K
        apply wpSeq_takeK _ (by first | rfl | (simp [Region.wanted, yielded]; done))
        · intro w' hS
          have s0 := hS
          clear hS
          go_simp
          try rfl
        intro K hK
        go_simp
        refine hK _ ?_
        clear hK K
        refine wpSeq_end ?_
        go_wp2
        go_roundw
        case rel => exact ⟨1, 0, by omega, by simp, rfl, HB, Lib.hid hS.out.drew⟩
        case measure => simp [intOf]; omega
      · obtain ⟨i, hi, hij, rfl⟩ : ∃ (i : Nat), i < l.length ∧ i < j ∧ a = i := by
          rcases hF.out with h | ⟨i, hi, hij, e, _⟩
          · exact absurd h.1 h0
          · exact ⟨i, hi, hij, e⟩
        have hxi := hx i hi
        have hxj := hx j hjl
        clear hx
        have ha0 : ¬ ((i : Int) < 0) := by omega
        by_cases hc : l[j].2 < l[i].2
        · have HT := Lib.hid (FirstTo.turn hjl hi hF.out hc)
          clear hF
          go_wp2
          refine wp_region_N (fun w' => (w'.cell? ⟨R.rq, 0, none⟩ = some (.slice (some ⟨g, 0, none⟩) l.length cap)) ∧ (w'.cell? ⟨g, j * 3 + 2, none⟩ = some (.int .u64 l[j].2)) ∧ (w'.cell? ⟨g, i * 3 + 2, none⟩ = some (.int .u64 l[i].2)))
            [(true, 0), (true, 1), (true, 2), (true, 3), (true, 4), (true, 5), (true, 6), (true, 7), (true, 8), (true, 9), (true, 10), (true, 11), (true, 12), (true, 13), (true, 14), (true, 15), (true, 16), (true, 17), (true, 18), (true, 19), (true, 20)] (by kernel_rfl) (by kernel_rfl) rfl (by kernel_rfl) ?_ ?_
          · exact ⟨by go_keep, by go_keep, by go_keep⟩
          simp only [List.filterMap_cons, List.filterMap_nil, List.getElem?_cons_succ, List.getElem?_cons_zero, Option.map_some]
          apply wpSeq_takeK _ (by first | rfl | (simp [Region.wanted, yielded]; done))
          · intro w' hS
            obtain ⟨s0, s1, s2⟩ := hS
            skip
            go_simp
            try rfl
          intro K hK
          go_simp
          refine hK _ ?_
          clear hK K
          apply wpSeq_takeK _ (by first | rfl | (simp [Region.wanted, yielded]; done))
          · intro w' hS
            obtain ⟨s0, s1, s2⟩ := hS
            skip
            go_simp
            try rfl
          intro K hK
          go_simp
          refine hK _ ?_
          clear hK K
          apply wpSeq_takeK _ (by first | rfl | (simp [Region.wanted, yielded]; done))
          · intro w' hS
            obtain ⟨s0, s1, s2⟩ := hS
            skip
            go_simp
            try rfl
          intro K hK
          go_simp
          refine hK _ ?_
          clear hK K
          apply wpSeq_takeK _ (by first | rfl | (simp [Region.wanted, yielded]; done))
          · intro w' hS
            obtain ⟨s0, s1, s2⟩ := hS
            skip
            go_simp
            try rfl
          intro K hK
          go_simp
          refine hK _ ?_
          clear hK K
          apply wpSeq_takeK _ (by first | rfl | (simp [Region.wanted, yielded]; done))
          · intro w' hS
            obtain ⟨s0, s1, s2⟩ := hS
            skip
            go_simp
            try rfl
          intro K hK
          go_simp
          refine hK _ ?_
          clear hK K
          apply wpSeq_takeK _ (by first | rfl | (simp [Region.wanted, yielded]; done))
          · intro w' hS
            obtain ⟨s0, s1, s2⟩ := hS
            skip
            go_simp
            try rfl
          intro K hK
          go_simp
          refine hK _ ?_
          clear hK K
          apply wpSeq_takeK _ (by first | rfl | (simp [Region.wanted, yielded]; done))
          · intro w' hS
            obtain ⟨s0, s1, s2⟩ := hS
            skip
            go_simp
            try rfl
          intro K hK
          go_simp
          refine hK _ ?_
          clear hK K
          apply wpSeq_takeK _ (by first | rfl | (simp [Region.wanted, yielded]; done))
          · intro w' hS
            obtain ⟨s0, s1, s2⟩ := hS
            skip
            go_simp
            try rfl
          intro K hK
          go_simp
          refine hK _ ?_
          clear hK K
          apply wpSeq_takeK _ (by first | rfl | (simp [Region.wanted, yielded]; done))
          · intro w' hS
            obtain ⟨s0, s1, s2⟩ := hS
            skip
            go_simp
            try rfl
          intro K hK
          go_simp
          refine hK _ ?_
          clear hK K
          apply wpSeq_takeK _ (by first | rfl | (simp [Region.wanted, yielded]; done))
          · intro w' hS
            obtain ⟨s0, s1, s2⟩ := hS
            skip
            go_simp
            try rfl
          intro K hK
          go_simp
          refine hK _ ?_
          clear hK K
          apply wpSeq_takeK _ (by first | rfl | (simp [Region.wanted, yielded]; done))
          · intro w' hS
            obtain ⟨s0, s1, s2⟩ := hS
            skip
            go_simp
            try rfl
          intro K hK
          go_simp
          refine hK _ ?_
          clear hK K
          apply wpSeq_takeK _ (by first | rfl | (simp [Region.wanted, yielded]; done))
          · intro w' hS
            obtain ⟨s0, s1, s2⟩ := hS
            skip
            go_simp
            try rfl
          intro K hK
          go_simp
          refine hK _ ?_
          clear hK K
          apply wpSeq_takeK _ (by first | rfl | (simp [Region.wanted, yielded]; done))
          · intro w' hS
            obtain ⟨s0, s1, s2⟩ := hS
            skip
            go_simp
            try rfl
          intro K hK
          go_simp
          refine hK _ ?_
          clear hK K
          apply wpSeq_takeK _ (by first | rfl | (simp [Region.wanted, yielded]; done))
          · intro w' hS
            obtain ⟨s0, s1, s2⟩ := hS
            skip
            go_simp
            try rfl
          intro K hK
          go_simp
          refine hK _ ?_
          clear hK K
          apply wpSeq_takeK _ (by first | rfl | (simp [Region.wanted, yielded]; done))
          · intro w' hS
            obtain ⟨s0, s1, s2⟩ := hS
            skip
            go_simp
            try rfl
          intro K hK
          go_simp
          refine hK _ ?_
          clear hK K
          apply wpSeq_takeK _ (by first | rfl | (simp [Region.wanted, yielded]; done))
          · intro w' hS
            obtain ⟨s0, s1, s2⟩ := hS
            skip
            go_simp
            try rfl
          intro K hK
          go_simp
          refine hK _ ?_
          clear hK K
          apply wpSeq_takeK _ (by first | rfl | (simp [Region.wanted, yielded]; done))
          · intro w' hS
            obtain ⟨s0, s1, s2⟩ := hS
            skip
            go_simp
            try rfl
          intro K hK
          go_simp
          refine hK _ ?_
          clear hK K
          apply wpSeq_takeK _ (by first | rfl | (simp [Region.wanted, yielded]; done))
          · intro w' hS
            obtain ⟨s0, s1, s2⟩ := hS
            skip
            go_simp
            try rfl
          intro K hK
          go_simp
          refine hK _ ?_
          clear hK K
          apply wpSeq_takeK _ (by first | rfl | (simp [Region.wanted, yielded]; done))
          · intro w' hS
            obtain ⟨s0, s1, s2⟩ := hS
            skip
            go_simp
            try rfl
          intro K hK
          go_simp
          refine hK _ ?_
          clear hK K
          apply wpSeq_takeK _ (by first | rfl | (simp [Region.wanted, yielded]; done))
          · intro w' hS
            obtain ⟨s0, s1, s2⟩ := hS
            skip
            go_simp
            try rfl
          intro K hK
          go_simp
          refine hK _ ?_
          clear hK K
          apply wpSeq_takeK _ (by first | rfl | (simp [Region.wanted, yielded]; done))
          · intro w' hS
            obtain ⟨s0, s1, s2⟩ := hS
            skip
            go_simp
            try rfl
          intro K hK
          go_simp
          refine hK _ ?_
          clear hK K
          refine wpSeq_end ?_
          go_wp2
          go_roundw
          case rel => exact ⟨j + 1, j, by omega, by simp, rfl, HT, Lib.hid hS.out.drew⟩
          case measure => simp [intOf]; omega
        · have HT := Lib.hid (FirstTo.stay hjl hi hF.out (by omega))
          clear hF
          go_wp2
          refine wp_region_N (fun w' => (w'.cell? ⟨R.rq, 0, none⟩ = some (.slice (some ⟨g, 0, none⟩) l.length cap)) ∧ (w'.cell? ⟨g, j * 3 + 2, none⟩ = some (.int .u64 l[j].2)) ∧ (w'.cell? ⟨g, i * 3 + 2, none⟩ = some (.int .u64 l[i].2)))
            [(true, 0), (true, 1), (true, 2), (true, 3), (true, 4), (true, 5), (true, 6), (true, 7), (true, 8), (true, 9), (true, 10), (true, 11), (true, 12), (true, 13), (true, 14), (true, 15), (true, 16), (true, 17), (true, 18), (true, 19), (true, 20)] (by kernel_rfl) (by kernel_rfl) rfl (by kernel_rfl) ?_ ?_
          · exact ⟨by go_keep, by go_keep, by go_keep⟩
          simp only [List.filterMap_cons, List.filterMap_nil, List.getElem?_cons_succ, List.getElem?_cons_zero, Option.map_some]
          apply wpSeq_takeK _ (by first | rfl | (simp [Region.wanted, yielded]; done))
          · intro w' hS
            obtain ⟨s0, s1, s2⟩ := hS
            skip
            go_simp
            try rfl
          intro K hK
          go_simp
          refine hK _ ?_
          clear hK K
          apply wpSeq_takeK _ (by first | rfl | (simp [Region.wanted, yielded]; done))
          · intro w' hS
            obtain ⟨s0, s1, s2⟩ := hS
            skip
            go_simp
            try rfl
          intro K hK
          go_simp
          refine hK _ ?_
          clear hK K
          apply wpSeq_takeK _ (by first | rfl | (simp [Region.wanted, yielded]; done))
          · intro w' hS
            obtain ⟨s0, s1, s2⟩ := hS
            skip
            go_simp
            try rfl
          intro K hK
          go_simp
          refine hK _ ?_
          clear hK K
          apply wpSeq_takeK _ (by first | rfl | (simp [Region.wanted, yielded]; done))
          · intro w' hS
            obtain ⟨s0, s1, s2⟩ := hS
            skip
            go_simp
            try rfl
          intro K hK
          go_simp
          refine hK _ ?_
          clear hK K
          apply wpSeq_takeK _ (by first | rfl | (simp [Region.wanted, yielded]; done))
          · intro w' hS
            obtain ⟨s0, s1, s2⟩ := hS
            skip
            go_simp
            try rfl
          intro K hK
          go_simp
          refine hK _ ?_
          clear hK K
          apply wpSeq_takeK _ (by first | rfl | (simp [Region.wanted, yielded]; done))
          · intro w' hS
            obtain ⟨s0, s1, s2⟩ := hS
            skip
            go_simp
            try rfl
          intro K hK
          go_simp
          refine hK _ ?_
          clear hK K
          apply wpSeq_takeK _ (by first | rfl | (simp [Region.wanted, yielded]; done))
          · intro w' hS
            obtain ⟨s0, s1, s2⟩ := hS
            skip
            go_simp
            try rfl
          intro K hK
          go_simp
          refine hK _ ?_
          clear hK K
          apply wpSeq_takeK _ (by first | rfl | (simp [Region.wanted, yielded]; done))
          · intro w' hS
            obtain ⟨s0, s1, s2⟩ := hS
            skip
            go_simp
            try rfl
          intro K hK
          go_simp
          refine hK _ ?_
          clear hK K
          apply wpSeq_takeK _ (by first | rfl | (simp [Region.wanted, yielded]; done))
          · intro w' hS
            obtain ⟨s0, s1, s2⟩ := hS
            skip
            go_simp
            try rfl
          intro K hK
          go_simp
          refine hK _ ?_
          clear hK K
          apply wpSeq_takeK _ (by first | rfl | (simp [Region.wanted, yielded]; done))
          · intro w' hS
            obtain ⟨s0, s1, s2⟩ := hS
            skip
            go_simp
            try rfl
          intro K hK
          go_simp
          refine hK _ ?_
          clear hK K
          apply wpSeq_takeK _ (by first | rfl | (simp [Region.wanted, yielded]; done))
          · intro w' hS
            obtain ⟨s0, s1, s2⟩ := hS
            skip
            go_simp
            try rfl
          intro K hK
          go_simp
          refine hK _ ?_
          clear hK K
          apply wpSeq_takeK _ (by first | rfl | (simp [Region.wanted, yielded]; done))
          · intro w' hS
            obtain ⟨s0, s1, s2⟩ := hS
            skip
            go_simp
            try rfl
          intro K hK
          go_simp
          refine hK _ ?_
          clear hK K
          apply wpSeq_takeK _ (by first | rfl | (simp [Region.wanted, yielded]; done))
          · intro w' hS
            obtain ⟨s0, s1, s2⟩ := hS
            skip
            go_simp
            try rfl
          intro K hK
          go_simp
          refine hK _ ?_
          clear hK K
          apply wpSeq_takeK _ (by first | rfl | (simp [Region.wanted, yielded]; done))
          · intro w' hS
            obtain ⟨s0, s1, s2⟩ := hS
            skip
            go_simp
            try rfl
          intro K hK
          go_simp
          refine hK _ ?_
          clear hK K
          apply wpSeq_takeK _ (by first | rfl | (simp [Region.wanted, yielded]; done))
          · intro w' hS
            obtain ⟨s0, s1, s2⟩ := hS
            skip
            go_simp
            try rfl
          intro K hK
          go_simp
          refine hK _ ?_
          clear hK K
          apply wpSeq_takeK _ (by first | rfl | (simp [Region.wanted, yielded]; done))
          · intro w' hS
            obtain ⟨s0, s1, s2⟩ := hS
            skip
            go_simp
            try rfl
          intro K hK
          go_simp
          refine hK _ ?_
          clear hK K
          apply wpSeq_takeK _ (by first | rfl | (simp [Region.wanted, yielded]; done))
          · intro w' hS
            obtain ⟨s0, s1, s2⟩ := hS
            skip
            go_simp
            try rfl
          intro K hK
          go_simp
          refine hK _ ?_
          clear hK K
          apply wpSeq_takeK _ (by first | rfl | (simp [Region.wanted, yielded]; done))
          · intro w' hS
            obtain ⟨s0, s1, s2⟩ := hS
            skip
            go_simp
            try rfl
          intro K hK
          go_simp
          refine hK _ ?_
          clear hK K
          apply wpSeq_takeK _ (by first | rfl | (simp [Region.wanted, yielded]; done))
          · intro w' hS
            obtain ⟨s0, s1, s2⟩ := hS
            skip
            go_simp
            try rfl
          intro K hK
          go_simp
          refine hK _ ?_
          clear hK K
          apply wpSeq_takeK _ (by first | rfl | (simp [Region.wanted, yielded]; done))
          · intro w' hS
            obtain ⟨s0, s1, s2⟩ := hS
            skip
            go_simp
            try rfl
          intro K hK
          go_simp
          refine hK _ ?_
          clear hK K
          apply wpSeq_takeK _ (by first | rfl | (simp [Region.wanted, yielded]; done))
          · intro w' hS
            obtain ⟨s0, s1, s2⟩ := hS
            skip
            go_simp
            try rfl
          intro K hK
          go_simp
          refine hK _ ?_
          clear hK K
          refine wpSeq_end ?_
          go_wp2
          go_roundw
          case rel => exact ⟨j + 1, i, by omega, by simp, rfl, HT, Lib.hid hS.out.drew⟩
          case measure => simp [intOf]; omega
    · have hjl2 : ¬ (j : Int) < l.length := by omega
      have HF := Lib.hid (show FirstAt l a by have : j = l.length := by omega
                                              unfold FirstAt; rw [← this]; exact hF.out)
      clear H3 hF
      go_wp2
      go_ret
      exact ⟨a, rfl, HF.out, hS.out⟩

theorem lenR_any (R : RLoc) (r : RQ) (w : World) (h : RAt w R r) :
    Calls Try.prog 39 #[.pointer (some ⟨R.rq, 0, none⟩)] w fun e w' => e = .returned (.int .i64 r.l.length) ∧ w = w' := by
  obtain ⟨hd, hl, _⟩ := h
  obtain ⟨ao, cap, hv, h1, h2, h3⟩ := row_open hl
  rw [hv] at hd
  obtain ⟨c0, f0⟩ := cells_of_block hd 0 _ rfl
  simp only [List.getElem_toArray, List.getElem_cons_zero, List.getElem_cons_succ] at c0
  clear hd hl h3
  go_enter Try.func39, Try.ntmps39
  go_wp2
  go_ret
  exact ⟨rfl, rfl⟩

theorem newR_any (w : World) : Calls Try.prog 32 #[] w fun e w' => e = .returned (.pointer (some ⟨w.heap.size, 0, none⟩)) ∧ RAt w' ⟨w.heap.size, .slice none 0 0, .slice none 0 0⟩ ⟨[], []⟩ ∧ Below w.heap.size w w' := by
  go_enter Try.func32, Try.ntmps32
  go_wp2
  go_ret
  exact ⟨rfl, ⟨heap_alloc_eq, ⟨rfl, .inl ⟨rfl, rfl⟩⟩, ⟨rfl, .inl ⟨rfl, rfl⟩⟩⟩, (Below.refl _ _).alloc (Nat.le_refl _) _⟩
end Go.Proofs.Ytemeedfldapcjaa
