/- A part of the walks: contracts of functions. -/
import Derived.Test.YtemeedfldapcjaaR5
namespace Go.Proofs.Ytemeedfldapcjaa
open Go.RowKit
set_option linter.unusedVariables false
set_option linter.unusedSimpArgs false
/-- how often a key failed, set -/
def setF (fs : List (GKey × Int)) (k : GKey) (n : Int) : List (GKey × Int) := fs.filter (fun p => !decide (p.1 = k)) ++ if 0 < n then [(k, n)] else []
def RQ.setf (r : RQ) (k : GKey) (n : Int) : RQ := { r with fs := setF r.fs k n }

theorem setR_done {R : RLoc} {r : RQ} {k : GKey} {n : Int} {w w1 X : World} {v' : Value} {m : Nat} {xs : List Value} (hR1 : RAt w1 R r) (hK1 : Keeps R.mine w w1) (hB : Below w1.heap.size w1 X) (hA : X.ownsRow w1.heap.size 81 3 v' m xs) (hn : m = (setF r.fs k n).length)
    (hxs : xs = (setF r.fs k n).flatMap cellsF) :
    RAt (X.setCell ⟨R.rq, 1, none⟩ v') ⟨R.rq, R.vl, v'⟩ (r.setf k n) ∧ Keeps R.mine w (X.setCell ⟨R.rq, 1, none⟩ v') ∧ R.Next ⟨R.rq, R.vl, v'⟩ w := by
  subst hn hxs
  have hlt := hR1.lt
  have hrq := hlt R.rq (.inl rfl)
  have hd : X.heap[R.rq]? = some (.cells #[R.vl, R.vf] 76) := (hB.block _ hrq).trans hR1.hd
  refine ⟨⟨?_, ?_, ?_⟩, (hK1.trans (Keeps.of_below hB)).setCell (fun _ => .inl rfl) _, rfl, ?_⟩
  · rw [heap_setCell_same hd]; rfl
  · refine row_own (row_below hR1.hl hB (fun k' hk' => (row_lt hR1.hl hk').2)) fun k' hk' => heap_setCell_ne ?_
    exact (hR1.apart.1 k' hk').1
  · refine row_own (row_base hA) fun k' hk' => heap_setCell_ne ?_
    have := (row_lt hA hk').1
    simp only; omega
  · rintro k' (h | h | h)
    · exact .inl (.inl h)
    · exact .inl (.inr (.inl h))
    · have h1 := (row_lt hA h).1
      have h2 := hK1.size
      exact .inr (by omega)

theorem filter_step {l : List (GKey × Int)} {k : GKey} {j : Nat} (hj : j < l.length) : (l.take (j + 1)).filter (fun p => !decide (p.1 = k)) = (l.take j).filter (fun p => !decide (p.1 = k)) ++ if l[j].1 = k then [] else [l[j]] := by
  rw [List.take_succ_eq_append_getElem hj, List.filter_append]
  by_cases h : l[j].1 = k <;> simp [h]

set_option maxRecDepth 100000 in
set_option maxHeartbeats 4000000 in
theorem setR_any (R : RLoc) (r : RQ) (k : GKey) (n : Int) (w : World) (h : RAt w R r) (hlen : r.fs.length < 1000) :
    Calls Try.prog 50 #[.pointer (some ⟨R.rq, 0, none⟩), .agg #[.int .u8 k.kind, .string k.name], .int .i64 n] w fun e w' => e = .returned (.tuple #[]) ∧ ∃ R', RAt w' R' (r.setf k n) ∧ Keeps R.mine w w' ∧ R.Next R' w := by
  have h' := h.keep ((Keeps.refl (fun _ => False) w).alloc (.cells #[.int .u8 k.kind, .string k.name] 28)) (by simp)
  have HK := Lib.hid ((Keeps.refl R.mine w).alloc (.cells #[.int .u8 k.kind, .string k.name] 28))
  have hbx : (w.alloc (.cells #[.int .u8 k.kind, .string k.name] 28)).heap[w.heap.size]? = some (.cells #[.int .u8 k.kind, .string k.name] 28) := heap_alloc_eq
  have HR := Lib.hid h'
  have hd := h'.hd
  have hrow := h'.hf
  obtain ⟨ao, cap, hv, h1, h2, h3⟩ := row_open hrow
  rw [hv] at hd
  have hlq := heap_lt hd
  have hlx := heap_lt hbx
  obtain ⟨c0, f0⟩ := cells_of_block hd 1 _ rfl
  obtain ⟨b0, j0⟩ := cells_of_block hbx 0 _ rfl
  obtain ⟨b1, j1⟩ := cells_of_block hbx 1 _ rfl
  simp only [List.getElem_toArray, List.getElem_cons_zero, List.getElem_cons_succ] at c0 b0 b1
  have H3 := Lib.hid h3
  clear h h' hv hd hrow h3 hbx j0 j1
  have hl2 : r.fs.length < 1000 := hlen
  generalize hl : r.fs = l at *
  go_enter Try.func50, Try.ntmps50
  go_wp2
  generalize hW0 : w.alloc (.cells #[.int .u8 k.kind, .string k.name] 28) = W0 at *
  clear hW0
  go_loopw [6, 7] (fun v i wr => ∃ j : Nat, j ≤ l.length ∧ i = .int .i64 j ∧ Hid (Below W0.heap.size W0 wr) ∧ Hid (wr.ownsRow W0.heap.size 81 3 v ((l.take j).filter (fun p => !decide (p.1 = k))).length (((l.take j).filter (fun p => !decide (p.1 = k))).flatMap cellsF))) (fun _ i _ => l.length - (intOf i).toNat)
  case atStart => exact ⟨0, Nat.zero_le _, rfl, Lib.hid (Below.refl _ _), Lib.hid (World.ownsRow_nil _ _ _ _)⟩
  case round =>
    obtain ⟨j, hj, rfl, hB, hA⟩ := hrel
    have c0' := (hB.out.cell (p := ⟨R.rq, 1, none⟩) hlq).trans c0
    have f0' := (World.frozen?_of_block (a := ⟨R.rq, 1, none⟩) (hB.out.block _ hlq)).trans f0
    have b0' := (hB.out.cell (p := ⟨w.heap.size, 0, none⟩) hlx).trans b0
    have b1' := (hB.out.cell (p := ⟨w.heap.size, 1, none⟩) hlx).trans b1
    by_cases hjl : j < l.length
    · obtain ⟨g, cur, rfl, hg, hsz, htk⟩ := H3.out (by omega)
      have hgl := heap_lt hg
      have hx : ∀ o, o < 3 → ∀ v, (cellsF l[j])[o]? = some v → wr.cell? ⟨g, j * 3 + o, none⟩ = some v := by
        intro o ho v hv
        have hx0 : (l.flatMap cellsF)[j * 3 + o]? = some v := by rw [flat3 _ (fun _ => rfl) _ _ _ ho]; simp [hjl, hv]
        exact (hB.out.cell (p := ⟨g, j * 3 + o, none⟩) hgl).trans (row_cell hg htk hx0 (by omega)).1
      have x0 := hx 0 (by omega) _ rfl
      have x1 := hx 1 (by omega) _ rfl
      have x2 := hx 2 (by omega) _ rfl
      have HST := Lib.hid (filter_step (k := k) hjl)
      simp only [Nat.add_zero] at x0
      clear hx hg hsz htk H3
      have hfl : ((l.take j).filter (fun p => !decide (p.1 = k))).length ≤ l.length := Nat.le_trans (List.length_filter_le _ _) (by simp; omega)
      have HFL := Lib.hid hfl
      clear hfl
      by_cases hk : l[j].1 = k
      · have p1 : l[j].1.kind = k.kind := by rw [hk]
        have p2 : l[j].1.name.toList = k.name.toList := by rw [hk]
        have HE := Lib.hid hk
        clear hk
        go_wp2
        go_still (by kernel_rfl)
        go_wp2
        go_roundw
        case rel => exact ⟨j + 1, by omega, by simp, Lib.hid hB.out.drew, Lib.hid (by rw [HST.out, if_pos HE.out, List.append_nil]; exact hA.out)⟩
        case measure => simp [intOf]; omega
      · have HE := Lib.hid hk
        have hcase : ¬ l[j].1.kind = k.kind ∨ (l[j].1.kind = k.kind ∧ ¬ l[j].1.name.toList = k.name.toList) := by
          by_cases p1 : l[j].1.kind = k.kind
          · right; exact ⟨p1, fun p2 => hk (key_ext.2 ⟨p1, p2⟩)⟩
          · left; exact p1
        clear hk
        have HB2 := Lib.hid hB.out.drew
        have HA2 := Lib.hid (show wr.drew.ownsRow _ _ _ _ _ _ from hA.out)
        rcases hcase with p1 | ⟨p1, p2⟩
        · go_wp2
          go_still (by kernel_rfl)
          go_wp2_with (refine wpList_append_row rfl _ _ 74 rfl 81 _ 32 Try.underlying74 info81 rfl (by omega) W0.heap.size _ _ _ rfl (row_alloc HA2.out _) _ 1 _ rfl (row_one HB2.out.size 81 _ rfl) (by intro u hu; simp at hu; rcases hu with rfl | rfl | rfl <;> rfl) (by have := HFL.out; omega) (by have := HB2.out.size; simp at this ⊢; omega) ?_)
          intro vn wx hrow hg
          have HB3 := Lib.hid ((HB2.out.alloc HB2.out.size _).trans (Below.grown_at hg (fun k hk => (row_lt HA2.out hk).1) (by have := HB2.out.size; simp at this ⊢; omega)))
          have HA3 := Lib.hid hrow
          clear hrow hg
          go_wp2
          go_roundw
          case rel => exact ⟨j + 1, by omega, by simp, HB3, Lib.hid (by rw [HST.out, if_neg HE.out]; simpa [cellsF, p1] using HA3.out)⟩
          case measure => simp [intOf]; omega
        · go_wp2
          go_still (by kernel_rfl)
          go_wp2_with (refine wpList_append_row rfl _ _ 74 rfl 81 _ 32 Try.underlying74 info81 rfl (by omega) W0.heap.size _ _ _ rfl (row_alloc HA2.out _) _ 1 _ rfl (row_one HB2.out.size 81 _ rfl) (by intro u hu; simp at hu; rcases hu with rfl | rfl | rfl <;> rfl) (by have := HFL.out; omega) (by have := HB2.out.size; simp at this ⊢; omega) ?_)
          intro vn wx hrow hg
          have HB3 := Lib.hid ((HB2.out.alloc HB2.out.size _).trans (Below.grown_at hg (fun k hk => (row_lt HA2.out hk).1) (by have := HB2.out.size; simp at this ⊢; omega)))
          have HA3 := Lib.hid hrow
          clear hrow hg
          go_wp2
          go_roundw
          case rel => exact ⟨j + 1, by omega, by simp, HB3, Lib.hid (by rw [HST.out, if_neg HE.out]; simpa [cellsF, p1] using HA3.out)⟩
          case measure => simp [intOf]; omega
    · have hjl2 : ¬ (j : Int) < l.length := by omega
      have hA' : wr.ownsRow W0.heap.size 81 3 u6 (l.filter (fun p => !decide (p.1 = k))).length ((l.filter (fun p => !decide (p.1 = k))).flatMap cellsF) := by
        have := hA.out
        rw [List.take_of_length_le (by omega)] at this
        exact this
      have hfl : (l.filter (fun p => !decide (p.1 = k))).length ≤ l.length := List.length_filter_le _ _
      have HFL := Lib.hid hfl
      obtain ⟨ao2, cap2, rfl, _⟩ := row_open (row_base hA')
      have HA2 := Lib.hid hA'
      have HB2 := hB
      clear hA hA' hfl H3
      by_cases hn : 0 < n
      · have hsf : setF l k n = l.filter (fun p => !decide (p.1 = k)) ++ [(k, n)] := by simp [setF, hn]
        have HSF := Lib.hid hsf
        clear hsf
        go_wp2_with (refine wpList_append_row rfl _ _ 74 rfl 81 _ 32 Try.underlying74 info81 rfl (by omega) W0.heap.size _ _ _ rfl (row_alloc HA2.out _) _ 1 _ rfl (row_one HB2.out.size 81 _ rfl) (by intro u hu; simp at hu; rcases hu with rfl | rfl | rfl <;> rfl) (by have := HFL.out; omega) (by have := HB2.out.size; simp at this ⊢; omega) ?_)
        intro vn wx hrow hg
        have hB3 := (HB2.out.alloc HB2.out.size _).trans (Below.grown_at hg (fun k hk => (row_lt HA2.out hk).1) (by have := HB2.out.size; simp at this ⊢; omega))
        have c3 := (hB3.cell (p := ⟨R.rq, 1, none⟩) hlq).trans c0
        have f3 := (World.frozen?_of_block (a := ⟨R.rq, 1, none⟩) (hB3.block _ hlq)).trans f0
        obtain ⟨ao3, cap3, rfl, _⟩ := row_open (row_base hrow)
        have HB3 := Lib.hid hB3
        have HA3 := Lib.hid hrow
        clear hrow hg hB3
        go_wp2
        refine bodyPost_end (v := .tuple #[]) (by simp [results, Try.results50, go_sem]) rfl ⟨rfl, _, setR_done HR.out HK.out HB3.out HA3.out (by rw [hl, HSF.out]; simp) (by rw [hl, HSF.out]; simp)⟩
      · have hsf : setF l k n = l.filter (fun p => !decide (p.1 = k)) := by simp [setF, hn]
        have HSF := Lib.hid hsf
        clear hsf
        go_wp2
        refine bodyPost_end (v := .tuple #[]) (by simp [results, Try.results50, go_sem]) rfl ⟨rfl, _, setR_done HR.out HK.out HB2.out HA2.out (by rw [hl, HSF.out]) (by rw [hl, HSF.out])⟩
end Go.Proofs.Ytemeedfldapcjaa
