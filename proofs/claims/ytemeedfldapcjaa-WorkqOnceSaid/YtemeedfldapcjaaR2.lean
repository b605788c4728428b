/- A part of the walks: contracts of functions. -/
import Derived.Test.YtemeedfldapcjaaR1
namespace Go.Proofs.Ytemeedfldapcjaa
open Go.RowKit
set_option linter.unusedVariables false
set_option linter.unusedSimpArgs false
theorem assoc_here {α : Type} {l : List (GKey × α)} {k : GKey} {j : Nat} (hj : j < l.length) (h : k = l[j].1) (hno : ∀ m (hm : m < l.length), m < j → ¬ k = l[m].1) : assoc l k = some l[j].2 := by
  have : l.findIdx? (fun p => decide (k = p.1)) = some j := List.findIdx?_eq_some_iff_getElem.2 ⟨hj, by simpa using h, fun m hm => by simpa using hno m (by omega) hm⟩
  simp [assoc_eq, this, hj]
theorem assoc_none {α : Type} {l : List (GKey × α)} {k : GKey} (hno : ∀ m (hm : m < l.length), ¬ k = l[m].1) : assoc l k = none := by
  have : l.findIdx? (fun p => decide (k = p.1)) = none := List.findIdx?_eq_none_iff.2 fun x hx => by
    obtain ⟨m, hm, rfl⟩ := List.getElem_of_mem hx
    simpa using hno m hm
  simp [assoc_eq, this]

set_option maxRecDepth 100000 in
set_option maxHeartbeats 1000000 in
theorem failsR_any (R : RLoc) (r : RQ) (k : GKey) (w : World) (h : RAt w R r) :
    Calls Try.prog 38 #[.pointer (some ⟨R.rq, 0, none⟩), .agg #[.int .u8 k.kind, .string k.name]] w fun e w' => e = .returned (.int .i64 ((assoc r.fs k).getD 0)) ∧ Below w.heap.size w w' := by
  obtain ⟨hd, _, hl⟩ := h
  obtain ⟨ao, cap, hv, h1, h2, h3⟩ := row_open hl
  rw [hv] at hd
  have hlt := heap_lt hd
  have hd1 : (w.alloc (.cells #[.int .u8 k.kind, .string k.name] 28)).heap[R.rq]? = some (.cells #[R.vl, .slice ao r.fs.length cap] 76) := (heap_alloc_lt hlt).trans hd
  have hb1 : (w.alloc (.cells #[.int .u8 k.kind, .string k.name] 28)).heap[w.heap.size]? = some (.cells #[.int .u8 k.kind, .string k.name] 28) := heap_alloc_eq
  have h4 : 0 < r.fs.length → ∃ g cur, ao = some ⟨g, 0, none⟩ ∧ (w.alloc (.cells #[.int .u8 k.kind, .string k.name] 28)).heap[g]? = some (.cells cur 81 (0, 0)) ∧ cur.size = cap * 3 ∧ cur.toList.take (r.fs.length * 3) = r.fs.flatMap cellsF := by
    intro hn
    obtain ⟨g, cur, a, b, c, d⟩ := h3 hn
    exact ⟨g, cur, a, (heap_alloc_lt (heap_lt b)).trans b, c, d⟩
  have hB := (Below.refl w.heap.size w).alloc (Nat.le_refl _) (.cells #[.int .u8 k.kind, .string k.name] 28)
  have HB := Lib.hid hB
  have H4 := Lib.hid h4
  clear hd hlt hl h3 h4 hB hv
  generalize hl : r.fs = l at *
  obtain ⟨c0, f0⟩ := cells_of_block hd1 1 _ rfl
  obtain ⟨b0, j0⟩ := cells_of_block hb1 0 _ rfl
  obtain ⟨b1, j1⟩ := cells_of_block hb1 1 _ rfl
  simp only [List.getElem_toArray, List.getElem_cons_zero, List.getElem_cons_succ] at c0 b0 b1
  have hcap : l.length ≤ maxLen := by omega
  unfold maxLen at hcap
  clear hd1 hb1
  go_enter Try.func38, Try.ntmps38
  go_wp2
  generalize hW0 : w.alloc (.cells #[.int .u8 k.kind, .string k.name] 28) = W0 at *
  clear hW0
  go_loopw [5] (fun i wr => ∃ j : Nat, j ≤ l.length ∧ i = .int .i64 j ∧ Hid (Still W0 wr) ∧ Hid (∀ m (hm : m < l.length), m < j → ¬ k = l[m].1)) (fun i _ => l.length - (intOf i).toNat)
  case atStart => exact ⟨0, Nat.zero_le _, rfl, Lib.hid (Still.refl _), Lib.hid (fun m hm h => absurd h (by omega))⟩
  case round =>
    obtain ⟨j, hj, rfl, hS, hno⟩ := hrel
    have c0' := (hS.out.cell ⟨R.rq, 1, none⟩).trans c0
    have b0' := (hS.out.cell ⟨w.heap.size, 0, none⟩).trans b0
    have b1' := (hS.out.cell ⟨w.heap.size, 1, none⟩).trans b1
    by_cases hjl : j < l.length
    · obtain ⟨g, cur, rfl, hg, hsz, htk⟩ := H4.out (by omega)
      have hx0 : (l.flatMap cellsF)[j * 3 + 0]? = some (.int .u8 l[j].1.kind) := by rw [flat3 _ (fun _ => rfl) _ _ _ (by omega)]; simp [hjl]
      have hx1 : (l.flatMap cellsF)[j * 3 + 1]? = some (.string l[j].1.name) := by rw [flat3 _ (fun _ => rfl) _ _ _ (by omega)]; simp [hjl]
      have hx2 : (l.flatMap cellsF)[j * 3 + 2]? = some (.int .i64 l[j].2) := by rw [flat3 _ (fun _ => rfl) _ _ _ (by omega)]; simp [hjl]
      obtain ⟨x2, y2⟩ := row_cell hg htk hx2 (by omega)
      have x2' := (hS.out.cell ⟨g, j * 3 + 2, none⟩).trans x2
      obtain ⟨x0, y0⟩ := row_cell hg htk hx0 (by omega)
      obtain ⟨x1, y1⟩ := row_cell hg htk hx1 (by omega)
      have x0' := (hS.out.cell ⟨g, j * 3 + 0, none⟩).trans x0
      have x1' := (hS.out.cell ⟨g, j * 3 + 1, none⟩).trans x1
      clear hx2 x2 y2 hx0 hx1 x0 x1 y0 y1 hg hsz htk
      simp only [Nat.add_zero] at x0'
      by_cases hk : k = l[j].1
      · have p1 : l[j].1.kind = k.kind := by rw [← hk]
        have p2 : l[j].1.name.toList = k.name.toList := by rw [← hk]
        have HE := Lib.hid hk
        clear hk
        go_wp2
        go_still (by kernel_rfl)
        go_wp2
        go_ret
        refine ⟨ret_int ?_, ((HB.out).trans (hS.out.b.mono HB.out.size)).drew⟩
        rw [assoc_here hjl HE.out hno.out]; rfl
      · have hno2 : ∀ m (hm : m < l.length), m < j + 1 → ¬ k = l[m].1 := by
          intro m hm hlt
          by_cases hmj : m = j
          · subst hmj; exact hk
          · exact hno.out m hm (by omega)
        have HNO := Lib.hid hno2
        have hcase : ¬ l[j].1.kind = k.kind ∨ (l[j].1.kind = k.kind ∧ ¬ l[j].1.name.toList = k.name.toList) := by
          by_cases p1 : l[j].1.kind = k.kind
          · right; exact ⟨p1, fun p2 => hk (key_ext.2 ⟨p1.symm, p2.symm⟩)⟩
          · left; exact p1
        clear hk hno2 hno
        rcases hcase with p1 | ⟨p1, p2⟩
        · go_wp2
          go_still (by kernel_rfl)
          go_wp2
          go_roundw
          case rel => exact ⟨j + 1, by omega, by simp, Lib.hid hS.out.drew, HNO⟩
          case measure => simp [intOf]; omega
        · go_wp2
          go_still (by kernel_rfl)
          go_wp2
          go_roundw
          case rel => exact ⟨j + 1, by omega, by simp, Lib.hid hS.out.drew, HNO⟩
          case measure => simp [intOf]; omega
    · have hjl2 : ¬ (j : Int) < l.length := by omega
      have HN := Lib.hid (assoc_none (l := l) (k := k) fun m hm => hno.out m hm (by omega))
      clear H4
      go_wp2
      go_ret
      refine ⟨ret_int ?_, (HB.out).trans (hS.out.b.mono HB.out.size)⟩
      rw [HN.out]; rfl
end Go.Proofs.Ytemeedfldapcjaa
