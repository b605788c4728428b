/- A part of the walks: contracts of functions. -/
import Derived.Test.YtemeedfldapcjaaS1
import Derived.Test.YtemeedfldapcjaaTree
namespace Go.Proofs.Ytemeedfldapcjaa
open Go.RowKit
set_option linter.unusedVariables false
set_option linter.unusedSimpArgs false
theorem atI_split (l : List (GKey × Int)) (k : GKey) : (atI l k = -1 ∧ assoc l k = none ∧ ∀ v, assocPut l k v = l ++ [(k, v)]) ∨ ∃ (i : Nat) (hi : i < l.length), atI l k = i ∧ assoc l k = some l[i].2 ∧ l[i].1 = k ∧ ∀ v, assocPut l k v = l.set i (k, v) := by
  cases hf : l.findIdx? (fun p => decide (k = p.1)) with
  | none => exact .inl ⟨by simp [atI, hf], by simp [assoc_eq, hf], fun v => by simp [assocPut, hf]⟩
  | some i =>
    have hi : i < l.length := (List.findIdx?_eq_some_iff_findIdx_eq.1 hf).1
    refine .inr ⟨i, hi, by simp [atI, hf], by simp [assoc_eq, hf, hi], ?_, fun v => by simp [assocPut, hf]⟩
    have := (List.findIdx?_eq_some_iff_getElem.1 hf).2.1
    simpa using (of_decide_eq_true this).symm

def RQ.put (r : RQ) (k : GKey) (d : Int) : RQ := { r with l := assocPut r.l k d }

set_option maxRecDepth 100000 in
set_option maxHeartbeats 1000000 in
theorem putR_old (R : RLoc) (r : RQ) (k : GKey) (d : Int) (w : World) (h : RAt w R r) (i : Nat) (hi : i < r.l.length) (e1 : atI r.l k = i) (e2 : r.l[i].1 = k) (e3 : assocPut r.l k d = r.l.set i (k, d)) :
    Calls Try.prog 49 #[.pointer (some ⟨R.rq, 0, none⟩), .agg #[.int .u8 k.kind, .string k.name], .int .u64 d] w fun e w' => e = .returned (.tuple #[]) ∧ RAt w' R (r.put k d) ∧ Keeps R.mine w w' := by
  have h' := h.keep ((Keeps.refl (fun _ => False) w).alloc (.cells #[.int .u8 k.kind, .string k.name] 28)) (by simp)
  have H := at_any R r k _ h'
  rw [e1] at H
  have HR := Lib.hid h'
  have HL := Lib.hid h.lt
  have hlt := h.lt R.rq (.inl rfl)
  have hrow := h.hl
  obtain ⟨ao, cap, hv, h1, h2, h3⟩ := row_open hrow
  obtain ⟨g, cur, rfl, hg, hsz, htk⟩ := h3 (by omega)
  have hgm : R.mine g := .inr (.inl (by rw [hv]; rfl))
  have hgl := h.lt g hgm
  have hap := (h.apart).1 g (by rw [hv]; rfl)
  have HV := Lib.hid hv
  have E3 := Lib.hid e3
  have E2 := Lib.hid e2
  have HA := Lib.hid hap
  have hcap : r.l.length ≤ maxLen := by omega
  unfold maxLen at hcap
  have hi0 : ¬ (i : Int) < 0 := by omega
  clear hv e3 e2 e1 h' h hrow h3 hg hsz htk h1 h2 hap
  go_enter Try.func49, Try.ntmps49
  go_wp2_with fail
  refine H.mono ?_
  rintro e w1 ⟨rfl, hb⟩
  have hk1 : Keeps (fun _ => False) (w.alloc (.cells #[.int .u8 k.kind, .string k.name] 28)) w1 := Keeps.of_below hb
  have hR1 := (HR.out).keep hk1 (by simp)
  have HK1 := Lib.hid ((((Keeps.refl R.mine w).alloc (.cells #[.int .u8 k.kind, .string k.name] 28))).trans (hk1.mono (fun _ _ h => h.elim)))
  have HR1 := Lib.hid hR1
  have hd1 := hR1.hd
  rw [HV.out] at hd1
  obtain ⟨c0, f0⟩ := cells_of_block hd1 0 _ rfl
  simp only [List.getElem_toArray, List.getElem_cons_zero, List.getElem_cons_succ] at c0
  have hrow1 := hR1.hl
  rw [HV.out] at hrow1
  obtain ⟨ao, cap', hv', h1, h2, h3⟩ := row_open hrow1
  obtain ⟨g', cur, rfl, hg, hsz, htk⟩ := h3 (by omega)
  obtain ⟨rfl, rfl⟩ : g = g' ∧ cap = cap' := by simpa using hv'
  have hx2 : (r.l.flatMap cellsI)[i * 3 + 2]? = some (.int .u64 r.l[i].2) := by rw [flat3 _ (fun _ => rfl) _ _ _ (by omega)]; simp [hi]
  obtain ⟨x0, y0⟩ := row_cell hg htk hx2 (by omega)
  clear hb hk1 hR1 hd1 hrow1 hv' h3 hg hsz htk hx2 f0 H HR
  go_wp2
  refine bodyPost_end (v := .tuple #[]) (by simp [results, Try.results49, go_sem]) rfl ⟨rfl, ?_, HK1.out.setCell (fun _ => hgm) _⟩
  obtain ⟨a, b, c⟩ := HR1.out
  refine ⟨?_, ?_, row_keep c fun k' e => ?_⟩
  · exact (heap_setCell_ne HA.out.1.symm).trans a
  · have hs := row_set b HV.out (o := i * 3 + 2) (by omega) (.int .u64 d)
    unfold RQ.put
    simp only
    rw [E3.out, flat_set cellsI (fun _ => rfl) r.l i hi (k, d) (.int .u64 d) (by simp [E2.out]) (by simp [E2.out]) rfl]
    simpa using hs
  · exact heap_setCell_ne (fun e2 => HA.out.2 (by rw [← show k' = g from e2]; exact e))

theorem putR_done {R : RLoc} {r : RQ} {k : GKey} {d : Int} {w w1 X wn : World} {v' : Value} {n : Nat} {xs : List Value} (hR1 : RAt w1 R r) (hK1 : Keeps R.mine w w1) (hB : Below w1.heap.size w1 X) (hA : X.ownsRow w1.heap.size 79 3 v' n xs) (hn : n = r.l.length + 1)
    (hxs : xs = r.l.flatMap cellsI ++ [.int .u8 k.kind, .string k.name, .int .u64 d]) (hwn : wn = X.setCell ⟨R.rq, 0, none⟩ v') (e3 : assocPut r.l k d = r.l ++ [(k, d)]) :
    RAt wn ⟨R.rq, v', R.vf⟩ (r.put k d) ∧ Keeps R.mine w wn ∧ R.Next ⟨R.rq, v', R.vf⟩ w := by
  subst hn hxs hwn
  have hlt := hR1.lt
  have hrq := hlt R.rq (.inl rfl)
  have hd : X.heap[R.rq]? = some (.cells #[R.vl, R.vf] 76) := (hB.block _ hrq).trans hR1.hd
  refine ⟨⟨?_, ?_, ?_⟩, (hK1.trans (Keeps.of_below hB)).setCell (fun _ => .inl rfl) _, rfl, ?_⟩
  · rw [heap_setCell_same hd]; rfl
  · unfold RQ.put
    simp only [e3, List.flatMap_append, List.flatMap_cons, List.flatMap_nil, List.append_nil, List.length_append, List.length_cons, List.length_nil]
    refine row_own (row_base hA) fun k' hk' => heap_setCell_ne ?_
    have := (row_lt hA hk').1
    simp only; omega
  · refine row_own (row_below hR1.hf hB (fun k' hk' => (row_lt hR1.hf hk').2)) fun k' hk' => heap_setCell_ne ?_
    exact (hR1.apart.2 k' hk').1
  · rintro k' (h | h | h)
    · exact .inl (.inl h)
    · have h1 := (row_lt hA h).1
      have h2 := hK1.size
      exact .inr (by omega)
    · exact .inl (.inr (.inr h))

set_option maxRecDepth 100000 in
set_option maxHeartbeats 4000000 in
theorem putR_new (R : RLoc) (r : RQ) (k : GKey) (d : Int) (w : World) (h : RAt w R r) (e1 : atI r.l k = -1) (e3 : assocPut r.l k d = r.l ++ [(k, d)]) (hlen : r.l.length < 1000) :
    Calls Try.prog 49 #[.pointer (some ⟨R.rq, 0, none⟩), .agg #[.int .u8 k.kind, .string k.name], .int .u64 d] w fun e w' => e = .returned (.tuple #[]) ∧ ∃ R', RAt w' R' (r.put k d) ∧ Keeps R.mine w w' ∧ R.Next R' w := by
  have h' := h.keep ((Keeps.refl (fun _ => False) w).alloc (.cells #[.int .u8 k.kind, .string k.name] 28)) (by simp)
  have H := at_any R r k _ h'
  rw [e1] at H
  have HR := Lib.hid h'
  have HL := Lib.hid h.lt
  have E3 := Lib.hid e3
  clear e1 e3 h' h
  go_enter Try.func49, Try.ntmps49
  go_wp2_with fail
  refine H.mono ?_
  rintro e w1 ⟨rfl, hb⟩
  have hk1 : Keeps (fun _ => False) (w.alloc (.cells #[.int .u8 k.kind, .string k.name] 28)) w1 := Keeps.of_below hb
  have hR1 := (HR.out).keep hk1 (by simp)
  have HK1 := Lib.hid ((((Keeps.refl R.mine w).alloc (.cells #[.int .u8 k.kind, .string k.name] 28))).trans (hk1.mono (fun _ _ h => h.elim)))
  have HR1 := Lib.hid hR1
  have hd1 := hR1.hd
  have hrow1 := hR1.hl
  obtain ⟨ao, cap, hv, h1, h2, h3⟩ := row_open hrow1
  have HV := Lib.hid hv
  rw [hv] at hd1
  obtain ⟨c0, f0⟩ := cells_of_block hd1 0 _ rfl
  simp only [List.getElem_toArray, List.getElem_cons_zero, List.getElem_cons_succ] at c0
  have hbx := (hb.block w.heap.size (by simp)).trans heap_alloc_eq
  obtain ⟨b0, j0⟩ := cells_of_block hbx 0 _ rfl
  obtain ⟨b1, j1⟩ := cells_of_block hbx 1 _ rfl
  simp only [List.getElem_toArray, List.getElem_cons_zero, List.getElem_cons_succ] at b0 b1
  have hszw := HK1.out.size
  have hs1 : w.heap.size < w1.heap.size := by have := hb.size; simp at this; omega
  have hlq := heap_lt hd1
  have hne : R.rq ≠ w.heap.size := by have := HL.out R.rq (.inl rfl); omega
  rw [hv] at hrow1
  clear hb hk1 hR1 hd1 hv h3 j0 j1 hbx H HR
  go_wp2
  have hB := (Below.refl w1.heap.size w1).drew
  refine wp_region_tree (fun w' => (w'.cell? ⟨w.heap.size, 0, none⟩ = some (.int .u8 k.kind)) ∧ (w'.cell? ⟨w.heap.size, 1, none⟩ = some (.string k.name))) (.t 0 (.t 2 (.t 3 (.t 4 (.t 7 (.t 8 (.t 9 (.g 1 (.f 5 (.f 6 (.a 10 (.a 11 (.t 12 (.t 13 (.a 14 .nil))))) 10 (.a 6 (.a 11 (.t 12 (.t 13 (.a 14 .nil)))))) 10 (.a 5 (.a 6 (.a 11 (.t 12 (.t 13 (.a 14 .nil))))))) 5 (.f 1 (.f 6 (.a 10 (.a 11 (.t 12 (.t 13 (.a 14 .nil))))) 10 (.a 6 (.a 11 (.t 12 (.t 13 (.a 14 .nil)))))) 10 (.a 1 (.a 6 (.a 11 (.t 12 (.t 13 (.a 14 .nil))))))) 10 (.f 1 (.a 5 (.a 6 (.a 11 (.t 12 (.t 13 (.a 14 .nil)))))) 5 (.a 1 (.a 6 (.a 11 (.t 12 (.t 13 (.a 14 .nil))))))))))))))) (by kernel_rfl) (by kernel_rfl) (by kernel_rfl) ?_ ?_
  · exact ⟨by first | exact (s14 0).trans b0 | exact (s14 1).trans b1 | exact (hB.cell (p := ⟨w.heap.size, 0, none⟩) hs1).trans b0 | exact (hB.cell (p := ⟨w.heap.size, 1, none⟩) hs1).trans b1, by first | exact (s14 0).trans b0 | exact (s14 1).trans b1 | exact (hB.cell (p := ⟨w.heap.size, 0, none⟩) hs1).trans b0 | exact (hB.cell (p := ⟨w.heap.size, 1, none⟩) hs1).trans b1⟩
  (generalize hW0 : w1.drew = W0; have hB := (Below.refl w1.heap.size w1).drew; rw [hW0] at hB; have hq0 := (hB.cell (p := ⟨R.rq, 0, none⟩) hlq).trans c0; have hz0 := (World.frozen?_of_block (a := ⟨R.rq, 0, none⟩) (hB.block _ hlq)).trans f0; clear hW0)
  apply wpT_takeK rfl _ (by first | rfl | (simp [Region.wanted, yielded]; done))
  · intro w' hS
    obtain ⟨s0, s1⟩ := hS
    skip
    go_simp
    try rfl
  intro K hK
  go_simp
  refine hK _ ?_
  clear hK K
  apply wpT_takeK rfl _ (by first | rfl | (simp [Region.wanted, yielded]; done))
  · intro w' hS
    obtain ⟨s0, s1⟩ := hS
    skip
    go_simp
    try rfl
  intro K hK
  go_simp
  refine hK _ ?_
  clear hK K
  apply wpT_takeK rfl _ (by first | rfl | (simp [Region.wanted, yielded]; done))
  · intro w' hS
    obtain ⟨s0, s1⟩ := hS
    skip
    go_simp
    try rfl
  intro K hK
  go_simp
  refine hK _ ?_
  clear hK K
  apply wpT_takeK rfl _ (by first | rfl | (simp [Region.wanted, yielded]; done))
  · intro w' hS
    obtain ⟨s0, s1⟩ := hS
    skip
    go_simp
    try rfl
  intro K hK
  go_simp
  refine hK _ ?_
  clear hK K
  apply wpT_takeK rfl _ (by first | rfl | (simp [Region.wanted, yielded]; done))
  · intro w' hS
    obtain ⟨s0, s1⟩ := hS
    skip
    go_simp
    try rfl
  intro K hK
  go_simp
  refine hK _ ?_
  clear hK K
  apply wpT_takeK rfl _ (by first | rfl | (simp [Region.wanted, yielded]; done))
  · intro w' hS
    obtain ⟨s0, s1⟩ := hS
    skip
    go_simp
    try rfl
  intro K hK
  go_simp
  refine hK _ ?_
  clear hK K
  apply wpT_takeK rfl _ (by first | rfl | (simp [Region.wanted, yielded]; done))
  · intro w' hS
    obtain ⟨s0, s1⟩ := hS
    skip
    go_simp
    try rfl
  intro K hK
  go_simp
  refine hK _ ?_
  clear hK K
  refine wpT_fork3 rfl rfl rfl ?_ ?_ ?_
  go_wp2
  refine QS_abs (fun wn hwn => ?_)
  (have hA := row_none hB.size 79; rw [← hwn] at hA; (try (have hx := row_apart' hI (m := 0) (c := 0); have hI := row_alloc hI (.cells #[] 79); rw [← hwn] at hI)); have hB := hB.alloc hB.size (.cells #[] 79); rw [← hwn] at hB; have hq0 := (hB.cell (p := ⟨R.rq, 0, none⟩) hlq).trans c0; have hz0 := (World.frozen?_of_block (a := ⟨R.rq, 0, none⟩) (hB.block _ hlq)).trans f0; clear hwn)
  refine And.intro ⟨by first | exact (s14 0).trans b0 | exact (s14 1).trans b1 | exact (hB.cell (p := ⟨w.heap.size, 0, none⟩) hs1).trans b0 | exact (hB.cell (p := ⟨w.heap.size, 1, none⟩) hs1).trans b1, by first | exact (s14 0).trans b0 | exact (s14 1).trans b1 | exact (hB.cell (p := ⟨w.heap.size, 0, none⟩) hs1).trans b0 | exact (hB.cell (p := ⟨w.heap.size, 1, none⟩) hs1).trans b1⟩ ?_
  refine wpT_fork rfl rfl ?_ ?_
  go_wp2
  refine QS_abs (fun wn hwn => ?_)
  (subst hwn)
  refine And.intro ⟨by first | exact (s14 0).trans b0 | exact (s14 1).trans b1 | exact (hB.cell (p := ⟨w.heap.size, 0, none⟩) hs1).trans b0 | exact (hB.cell (p := ⟨w.heap.size, 1, none⟩) hs1).trans b1, by first | exact (s14 0).trans b0 | exact (s14 1).trans b1 | exact (hB.cell (p := ⟨w.heap.size, 0, none⟩) hs1).trans b0 | exact (hB.cell (p := ⟨w.heap.size, 1, none⟩) hs1).trans b1⟩ ?_
  refine wpT_fork rfl rfl ?_ ?_
  (refine wpList_append_row rfl _ _ 73 rfl 79 _ 32 Try.underlying73 info79 rfl (by omega) w1.heap.size _ 0 [] rfl hA _ r.l.length _ rfl (row_below hrow1 hB (fun k hk => (row_lt hrow1 hk).2)) (one_cellsI _) (by omega) hB.size ?_; intro vn wx hrow hg; (try (have hI := row_grown hI hg hx)); have hB := hB.trans (Below.grown_at hg (fun k hk => (row_lt hA hk).1) hB.size); have hA := hrow; have hq0 := (hB.cell (p := ⟨R.rq, 0, none⟩) hlq).trans c0; have hz0 := (World.frozen?_of_block (a := ⟨R.rq, 0, none⟩) (hB.block _ hlq)).trans f0; clear hrow hg; go_wp2)
  refine QS_abs (fun wn hwn => ?_)
  (subst hwn)
  refine And.intro ⟨by first | exact (s14 0).trans b0 | exact (s14 1).trans b1 | exact (hB.cell (p := ⟨w.heap.size, 0, none⟩) hs1).trans b0 | exact (hB.cell (p := ⟨w.heap.size, 1, none⟩) hs1).trans b1, by first | exact (s14 0).trans b0 | exact (s14 1).trans b1 | exact (hB.cell (p := ⟨w.heap.size, 0, none⟩) hs1).trans b0 | exact (hB.cell (p := ⟨w.heap.size, 1, none⟩) hs1).trans b1⟩ ?_
  refine wpT_alone rfl ?_
  go_wp2
  refine QS_abs (fun wn hwn => ?_)
  (have hI := row_one hB.size 79 #[.int .u8 k.kind, .string k.name, .int .u64 d] rfl; rw [← hwn] at hI; (try (have hx := row_apart hA (m := 1) (c := 1); have hA := row_alloc hA (.cells #[.int .u8 k.kind, .string k.name, .int .u64 d] 79); rw [← hwn] at hA)); have hB := hB.alloc hB.size (.cells #[.int .u8 k.kind, .string k.name, .int .u64 d] 79); rw [← hwn] at hB; have hq0 := (hB.cell (p := ⟨R.rq, 0, none⟩) hlq).trans c0; have hz0 := (World.frozen?_of_block (a := ⟨R.rq, 0, none⟩) (hB.block _ hlq)).trans f0; clear hwn)
  refine And.intro ⟨by first | exact (s14 0).trans b0 | exact (s14 1).trans b1 | exact (hB.cell (p := ⟨w.heap.size, 0, none⟩) hs1).trans b0 | exact (hB.cell (p := ⟨w.heap.size, 1, none⟩) hs1).trans b1, by first | exact (s14 0).trans b0 | exact (s14 1).trans b1 | exact (hB.cell (p := ⟨w.heap.size, 0, none⟩) hs1).trans b0 | exact (hB.cell (p := ⟨w.heap.size, 1, none⟩) hs1).trans b1⟩ ?_
  refine wpT_alone rfl ?_
  (refine wpList_append_row rfl _ _ 73 rfl 79 _ 32 Try.underlying73 info79 rfl (by omega) w1.heap.size _ _ _ rfl hA _ 1 _ rfl hI (by intro u hu; simp at hu; rcases hu with rfl | rfl | rfl <;> rfl) (by omega) hB.size ?_; intro vn wx hrow hg; have hB := hB.trans (Below.grown_at hg (fun k hk => (row_lt hA hk).1) hB.size); have hA := hrow; have hq0 := (hB.cell (p := ⟨R.rq, 0, none⟩) hlq).trans c0; have hz0 := (World.frozen?_of_block (a := ⟨R.rq, 0, none⟩) (hB.block _ hlq)).trans f0; clear hrow hg; obtain ⟨ao2, cap2, hv2, _⟩ := row_open (row_base hA); subst hv2; go_wp2)
  refine QS_abs (fun wn hwn => ?_)
  (subst hwn)
  refine And.intro ⟨by first | exact (s14 0).trans b0 | exact (s14 1).trans b1 | exact (hB.cell (p := ⟨w.heap.size, 0, none⟩) hs1).trans b0 | exact (hB.cell (p := ⟨w.heap.size, 1, none⟩) hs1).trans b1, by first | exact (s14 0).trans b0 | exact (s14 1).trans b1 | exact (hB.cell (p := ⟨w.heap.size, 0, none⟩) hs1).trans b0 | exact (hB.cell (p := ⟨w.heap.size, 1, none⟩) hs1).trans b1⟩ ?_
  apply wpT_takeK rfl _ (by first | rfl | (simp [Region.wanted, yielded]; done))
  · intro w' hS
    obtain ⟨s0, s1⟩ := hS
    skip
    go_simp
    try rfl
  intro K hK
  go_simp
  refine hK _ ?_
  clear hK K
  apply wpT_takeK rfl _ (by first | rfl | (simp [Region.wanted, yielded]; done))
  · intro w' hS
    obtain ⟨s0, s1⟩ := hS
    skip
    go_simp
    try rfl
  intro K hK
  go_simp
  refine hK _ ?_
  clear hK K
  refine wpT_alone rfl ?_
  go_wp2
  refine QS_abs (fun wn hwn => ?_)
  (have s14 : ∀ o, wn.cell? ⟨w.heap.size, o, none⟩ = w1.cell? ⟨w.heap.size, o, none⟩ := fun o => (by rw [hwn]; exact (World.cell?_setCell_far _ _ _ _ hne).trans (hB.cell (p := ⟨w.heap.size, o, none⟩) hs1)))
  refine And.intro ⟨by first | exact (s14 0).trans b0 | exact (s14 1).trans b1 | exact (hB.cell (p := ⟨w.heap.size, 0, none⟩) hs1).trans b0 | exact (hB.cell (p := ⟨w.heap.size, 1, none⟩) hs1).trans b1, by first | exact (s14 0).trans b0 | exact (s14 1).trans b1 | exact (hB.cell (p := ⟨w.heap.size, 0, none⟩) hs1).trans b0 | exact (hB.cell (p := ⟨w.heap.size, 1, none⟩) hs1).trans b1⟩ ?_
  refine wpT_end ?_
  rotate_left
  go_wp2
  refine QS_abs (fun wn hwn => ?_)
  (have hI := row_one hB.size 79 #[.int .u8 k.kind, .string k.name, .int .u64 d] rfl; rw [← hwn] at hI; (try (have hx := row_apart hA (m := 1) (c := 1); have hA := row_alloc hA (.cells #[.int .u8 k.kind, .string k.name, .int .u64 d] 79); rw [← hwn] at hA)); have hB := hB.alloc hB.size (.cells #[.int .u8 k.kind, .string k.name, .int .u64 d] 79); rw [← hwn] at hB; have hq0 := (hB.cell (p := ⟨R.rq, 0, none⟩) hlq).trans c0; have hz0 := (World.frozen?_of_block (a := ⟨R.rq, 0, none⟩) (hB.block _ hlq)).trans f0; clear hwn)
  refine And.intro ⟨by first | exact (s14 0).trans b0 | exact (s14 1).trans b1 | exact (hB.cell (p := ⟨w.heap.size, 0, none⟩) hs1).trans b0 | exact (hB.cell (p := ⟨w.heap.size, 1, none⟩) hs1).trans b1, by first | exact (s14 0).trans b0 | exact (s14 1).trans b1 | exact (hB.cell (p := ⟨w.heap.size, 0, none⟩) hs1).trans b0 | exact (hB.cell (p := ⟨w.heap.size, 1, none⟩) hs1).trans b1⟩ ?_
  refine wpT_alone rfl ?_
  (refine wpList_append_row rfl _ _ 73 rfl 79 _ 32 Try.underlying73 info79 rfl (by omega) w1.heap.size _ 0 [] rfl hA _ r.l.length _ rfl (row_below hrow1 hB (fun k hk => (row_lt hrow1 hk).2)) (one_cellsI _) (by omega) hB.size ?_; intro vn wx hrow hg; (try (have hI := row_grown hI hg hx)); have hB := hB.trans (Below.grown_at hg (fun k hk => (row_lt hA hk).1) hB.size); have hA := hrow; have hq0 := (hB.cell (p := ⟨R.rq, 0, none⟩) hlq).trans c0; have hz0 := (World.frozen?_of_block (a := ⟨R.rq, 0, none⟩) (hB.block _ hlq)).trans f0; clear hrow hg; go_wp2)
  refine QS_abs (fun wn hwn => ?_)
  (subst hwn)
  refine And.intro ⟨by first | exact (s14 0).trans b0 | exact (s14 1).trans b1 | exact (hB.cell (p := ⟨w.heap.size, 0, none⟩) hs1).trans b0 | exact (hB.cell (p := ⟨w.heap.size, 1, none⟩) hs1).trans b1, by first | exact (s14 0).trans b0 | exact (s14 1).trans b1 | exact (hB.cell (p := ⟨w.heap.size, 0, none⟩) hs1).trans b0 | exact (hB.cell (p := ⟨w.heap.size, 1, none⟩) hs1).trans b1⟩ ?_
  refine wpT_alone rfl ?_
  (refine wpList_append_row rfl _ _ 73 rfl 79 _ 32 Try.underlying73 info79 rfl (by omega) w1.heap.size _ _ _ rfl hA _ 1 _ rfl hI (by intro u hu; simp at hu; rcases hu with rfl | rfl | rfl <;> rfl) (by omega) hB.size ?_; intro vn wx hrow hg; have hB := hB.trans (Below.grown_at hg (fun k hk => (row_lt hA hk).1) hB.size); have hA := hrow; have hq0 := (hB.cell (p := ⟨R.rq, 0, none⟩) hlq).trans c0; have hz0 := (World.frozen?_of_block (a := ⟨R.rq, 0, none⟩) (hB.block _ hlq)).trans f0; clear hrow hg; obtain ⟨ao2, cap2, hv2, _⟩ := row_open (row_base hA); subst hv2; go_wp2)
  refine QS_abs (fun wn hwn => ?_)
  (subst hwn)
  refine And.intro ⟨by first | exact (s14 0).trans b0 | exact (s14 1).trans b1 | exact (hB.cell (p := ⟨w.heap.size, 0, none⟩) hs1).trans b0 | exact (hB.cell (p := ⟨w.heap.size, 1, none⟩) hs1).trans b1, by first | exact (s14 0).trans b0 | exact (s14 1).trans b1 | exact (hB.cell (p := ⟨w.heap.size, 0, none⟩) hs1).trans b0 | exact (hB.cell (p := ⟨w.heap.size, 1, none⟩) hs1).trans b1⟩ ?_
  apply wpT_takeK rfl _ (by first | rfl | (simp [Region.wanted, yielded]; done))
  · intro w' hS
    obtain ⟨s0, s1⟩ := hS
    skip
    go_simp
    try rfl
  intro K hK
  go_simp
  refine hK _ ?_
  clear hK K
  apply wpT_takeK rfl _ (by first | rfl | (simp [Region.wanted, yielded]; done))
  · intro w' hS
    obtain ⟨s0, s1⟩ := hS
    skip
    go_simp
    try rfl
  intro K hK
  go_simp
  refine hK _ ?_
  clear hK K
  refine wpT_alone rfl ?_
  go_wp2
  refine QS_abs (fun wn hwn => ?_)
  (have s14 : ∀ o, wn.cell? ⟨w.heap.size, o, none⟩ = w1.cell? ⟨w.heap.size, o, none⟩ := fun o => (by rw [hwn]; exact (World.cell?_setCell_far _ _ _ _ hne).trans (hB.cell (p := ⟨w.heap.size, o, none⟩) hs1)))
  refine And.intro ⟨by first | exact (s14 0).trans b0 | exact (s14 1).trans b1 | exact (hB.cell (p := ⟨w.heap.size, 0, none⟩) hs1).trans b0 | exact (hB.cell (p := ⟨w.heap.size, 1, none⟩) hs1).trans b1, by first | exact (s14 0).trans b0 | exact (s14 1).trans b1 | exact (hB.cell (p := ⟨w.heap.size, 0, none⟩) hs1).trans b0 | exact (hB.cell (p := ⟨w.heap.size, 1, none⟩) hs1).trans b1⟩ ?_
  refine wpT_end ?_
  rotate_left
  go_wp2
  refine QS_abs (fun wn hwn => ?_)
  (have hI := row_one hB.size 79 #[.int .u8 k.kind, .string k.name, .int .u64 d] rfl; rw [← hwn] at hI; (try (have hx := row_apart hA (m := 1) (c := 1); have hA := row_alloc hA (.cells #[.int .u8 k.kind, .string k.name, .int .u64 d] 79); rw [← hwn] at hA)); have hB := hB.alloc hB.size (.cells #[.int .u8 k.kind, .string k.name, .int .u64 d] 79); rw [← hwn] at hB; have hq0 := (hB.cell (p := ⟨R.rq, 0, none⟩) hlq).trans c0; have hz0 := (World.frozen?_of_block (a := ⟨R.rq, 0, none⟩) (hB.block _ hlq)).trans f0; clear hwn)
  refine And.intro ⟨by first | exact (s14 0).trans b0 | exact (s14 1).trans b1 | exact (hB.cell (p := ⟨w.heap.size, 0, none⟩) hs1).trans b0 | exact (hB.cell (p := ⟨w.heap.size, 1, none⟩) hs1).trans b1, by first | exact (s14 0).trans b0 | exact (s14 1).trans b1 | exact (hB.cell (p := ⟨w.heap.size, 0, none⟩) hs1).trans b0 | exact (hB.cell (p := ⟨w.heap.size, 1, none⟩) hs1).trans b1⟩ ?_
  refine wpT_alone rfl ?_
  go_wp2
  refine QS_abs (fun wn hwn => ?_)
  (subst hwn)
  refine And.intro ⟨by first | exact (s14 0).trans b0 | exact (s14 1).trans b1 | exact (hB.cell (p := ⟨w.heap.size, 0, none⟩) hs1).trans b0 | exact (hB.cell (p := ⟨w.heap.size, 1, none⟩) hs1).trans b1, by first | exact (s14 0).trans b0 | exact (s14 1).trans b1 | exact (hB.cell (p := ⟨w.heap.size, 0, none⟩) hs1).trans b0 | exact (hB.cell (p := ⟨w.heap.size, 1, none⟩) hs1).trans b1⟩ ?_
  refine wpT_alone rfl ?_
  (refine wpList_append_row rfl _ _ 73 rfl 79 _ 32 Try.underlying73 info79 rfl (by omega) w1.heap.size _ 0 [] rfl hA _ r.l.length _ rfl (row_below hrow1 hB (fun k hk => (row_lt hrow1 hk).2)) (one_cellsI _) (by omega) hB.size ?_; intro vn wx hrow hg; (try (have hI := row_grown hI hg hx)); have hB := hB.trans (Below.grown_at hg (fun k hk => (row_lt hA hk).1) hB.size); have hA := hrow; have hq0 := (hB.cell (p := ⟨R.rq, 0, none⟩) hlq).trans c0; have hz0 := (World.frozen?_of_block (a := ⟨R.rq, 0, none⟩) (hB.block _ hlq)).trans f0; clear hrow hg; go_wp2)
  refine QS_abs (fun wn hwn => ?_)
  (subst hwn)
  refine And.intro ⟨by first | exact (s14 0).trans b0 | exact (s14 1).trans b1 | exact (hB.cell (p := ⟨w.heap.size, 0, none⟩) hs1).trans b0 | exact (hB.cell (p := ⟨w.heap.size, 1, none⟩) hs1).trans b1, by first | exact (s14 0).trans b0 | exact (s14 1).trans b1 | exact (hB.cell (p := ⟨w.heap.size, 0, none⟩) hs1).trans b0 | exact (hB.cell (p := ⟨w.heap.size, 1, none⟩) hs1).trans b1⟩ ?_
  refine wpT_alone rfl ?_
  (refine wpList_append_row rfl _ _ 73 rfl 79 _ 32 Try.underlying73 info79 rfl (by omega) w1.heap.size _ _ _ rfl hA _ 1 _ rfl hI (by intro u hu; simp at hu; rcases hu with rfl | rfl | rfl <;> rfl) (by omega) hB.size ?_; intro vn wx hrow hg; have hB := hB.trans (Below.grown_at hg (fun k hk => (row_lt hA hk).1) hB.size); have hA := hrow; have hq0 := (hB.cell (p := ⟨R.rq, 0, none⟩) hlq).trans c0; have hz0 := (World.frozen?_of_block (a := ⟨R.rq, 0, none⟩) (hB.block _ hlq)).trans f0; clear hrow hg; obtain ⟨ao2, cap2, hv2, _⟩ := row_open (row_base hA); subst hv2; go_wp2)
  refine QS_abs (fun wn hwn => ?_)
  (subst hwn)
  refine And.intro ⟨by first | exact (s14 0).trans b0 | exact (s14 1).trans b1 | exact (hB.cell (p := ⟨w.heap.size, 0, none⟩) hs1).trans b0 | exact (hB.cell (p := ⟨w.heap.size, 1, none⟩) hs1).trans b1, by first | exact (s14 0).trans b0 | exact (s14 1).trans b1 | exact (hB.cell (p := ⟨w.heap.size, 0, none⟩) hs1).trans b0 | exact (hB.cell (p := ⟨w.heap.size, 1, none⟩) hs1).trans b1⟩ ?_
  apply wpT_takeK rfl _ (by first | rfl | (simp [Region.wanted, yielded]; done))
  · intro w' hS
    obtain ⟨s0, s1⟩ := hS
    skip
    go_simp
    try rfl
  intro K hK
  go_simp
  refine hK _ ?_
  clear hK K
  apply wpT_takeK rfl _ (by first | rfl | (simp [Region.wanted, yielded]; done))
  · intro w' hS
    obtain ⟨s0, s1⟩ := hS
    skip
    go_simp
    try rfl
  intro K hK
  go_simp
  refine hK _ ?_
  clear hK K
  refine wpT_alone rfl ?_
  go_wp2
  refine QS_abs (fun wn hwn => ?_)
  (have s14 : ∀ o, wn.cell? ⟨w.heap.size, o, none⟩ = w1.cell? ⟨w.heap.size, o, none⟩ := fun o => (by rw [hwn]; exact (World.cell?_setCell_far _ _ _ _ hne).trans (hB.cell (p := ⟨w.heap.size, o, none⟩) hs1)))
  refine And.intro ⟨by first | exact (s14 0).trans b0 | exact (s14 1).trans b1 | exact (hB.cell (p := ⟨w.heap.size, 0, none⟩) hs1).trans b0 | exact (hB.cell (p := ⟨w.heap.size, 1, none⟩) hs1).trans b1, by first | exact (s14 0).trans b0 | exact (s14 1).trans b1 | exact (hB.cell (p := ⟨w.heap.size, 0, none⟩) hs1).trans b0 | exact (hB.cell (p := ⟨w.heap.size, 1, none⟩) hs1).trans b1⟩ ?_
  refine wpT_end ?_
  rotate_left
  go_wp2
  refine QS_abs (fun wn hwn => ?_)
  (subst hwn)
  refine And.intro ⟨by first | exact (s14 0).trans b0 | exact (s14 1).trans b1 | exact (hB.cell (p := ⟨w.heap.size, 0, none⟩) hs1).trans b0 | exact (hB.cell (p := ⟨w.heap.size, 1, none⟩) hs1).trans b1, by first | exact (s14 0).trans b0 | exact (s14 1).trans b1 | exact (hB.cell (p := ⟨w.heap.size, 0, none⟩) hs1).trans b0 | exact (hB.cell (p := ⟨w.heap.size, 1, none⟩) hs1).trans b1⟩ ?_
  refine wpT_fork rfl rfl ?_ ?_
  go_wp2
  refine QS_abs (fun wn hwn => ?_)
  (have hA := row_none hB.size 79; rw [← hwn] at hA; (try (have hx := row_apart' hI (m := 0) (c := 0); have hI := row_alloc hI (.cells #[] 79); rw [← hwn] at hI)); have hB := hB.alloc hB.size (.cells #[] 79); rw [← hwn] at hB; have hq0 := (hB.cell (p := ⟨R.rq, 0, none⟩) hlq).trans c0; have hz0 := (World.frozen?_of_block (a := ⟨R.rq, 0, none⟩) (hB.block _ hlq)).trans f0; clear hwn)
  refine And.intro ⟨by first | exact (s14 0).trans b0 | exact (s14 1).trans b1 | exact (hB.cell (p := ⟨w.heap.size, 0, none⟩) hs1).trans b0 | exact (hB.cell (p := ⟨w.heap.size, 1, none⟩) hs1).trans b1, by first | exact (s14 0).trans b0 | exact (s14 1).trans b1 | exact (hB.cell (p := ⟨w.heap.size, 0, none⟩) hs1).trans b0 | exact (hB.cell (p := ⟨w.heap.size, 1, none⟩) hs1).trans b1⟩ ?_
  refine wpT_fork rfl rfl ?_ ?_
  (refine wpList_append_row rfl _ _ 73 rfl 79 _ 32 Try.underlying73 info79 rfl (by omega) w1.heap.size _ 0 [] rfl hA _ r.l.length _ rfl (row_below hrow1 hB (fun k hk => (row_lt hrow1 hk).2)) (one_cellsI _) (by omega) hB.size ?_; intro vn wx hrow hg; (try (have hI := row_grown hI hg hx)); have hB := hB.trans (Below.grown_at hg (fun k hk => (row_lt hA hk).1) hB.size); have hA := hrow; have hq0 := (hB.cell (p := ⟨R.rq, 0, none⟩) hlq).trans c0; have hz0 := (World.frozen?_of_block (a := ⟨R.rq, 0, none⟩) (hB.block _ hlq)).trans f0; clear hrow hg; go_wp2)
  refine QS_abs (fun wn hwn => ?_)
  (subst hwn)
  refine And.intro ⟨by first | exact (s14 0).trans b0 | exact (s14 1).trans b1 | exact (hB.cell (p := ⟨w.heap.size, 0, none⟩) hs1).trans b0 | exact (hB.cell (p := ⟨w.heap.size, 1, none⟩) hs1).trans b1, by first | exact (s14 0).trans b0 | exact (s14 1).trans b1 | exact (hB.cell (p := ⟨w.heap.size, 0, none⟩) hs1).trans b0 | exact (hB.cell (p := ⟨w.heap.size, 1, none⟩) hs1).trans b1⟩ ?_
  refine wpT_alone rfl ?_
  go_wp2
  refine QS_abs (fun wn hwn => ?_)
  (have hI := row_one hB.size 79 #[.int .u8 k.kind, .string k.name, .int .u64 d] rfl; rw [← hwn] at hI; (try (have hx := row_apart hA (m := 1) (c := 1); have hA := row_alloc hA (.cells #[.int .u8 k.kind, .string k.name, .int .u64 d] 79); rw [← hwn] at hA)); have hB := hB.alloc hB.size (.cells #[.int .u8 k.kind, .string k.name, .int .u64 d] 79); rw [← hwn] at hB; have hq0 := (hB.cell (p := ⟨R.rq, 0, none⟩) hlq).trans c0; have hz0 := (World.frozen?_of_block (a := ⟨R.rq, 0, none⟩) (hB.block _ hlq)).trans f0; clear hwn)
  refine And.intro ⟨by first | exact (s14 0).trans b0 | exact (s14 1).trans b1 | exact (hB.cell (p := ⟨w.heap.size, 0, none⟩) hs1).trans b0 | exact (hB.cell (p := ⟨w.heap.size, 1, none⟩) hs1).trans b1, by first | exact (s14 0).trans b0 | exact (s14 1).trans b1 | exact (hB.cell (p := ⟨w.heap.size, 0, none⟩) hs1).trans b0 | exact (hB.cell (p := ⟨w.heap.size, 1, none⟩) hs1).trans b1⟩ ?_
  refine wpT_alone rfl ?_
  (refine wpList_append_row rfl _ _ 73 rfl 79 _ 32 Try.underlying73 info79 rfl (by omega) w1.heap.size _ _ _ rfl hA _ 1 _ rfl hI (by intro u hu; simp at hu; rcases hu with rfl | rfl | rfl <;> rfl) (by omega) hB.size ?_; intro vn wx hrow hg; have hB := hB.trans (Below.grown_at hg (fun k hk => (row_lt hA hk).1) hB.size); have hA := hrow; have hq0 := (hB.cell (p := ⟨R.rq, 0, none⟩) hlq).trans c0; have hz0 := (World.frozen?_of_block (a := ⟨R.rq, 0, none⟩) (hB.block _ hlq)).trans f0; clear hrow hg; obtain ⟨ao2, cap2, hv2, _⟩ := row_open (row_base hA); subst hv2; go_wp2)
  refine QS_abs (fun wn hwn => ?_)
  (subst hwn)
  refine And.intro ⟨by first | exact (s14 0).trans b0 | exact (s14 1).trans b1 | exact (hB.cell (p := ⟨w.heap.size, 0, none⟩) hs1).trans b0 | exact (hB.cell (p := ⟨w.heap.size, 1, none⟩) hs1).trans b1, by first | exact (s14 0).trans b0 | exact (s14 1).trans b1 | exact (hB.cell (p := ⟨w.heap.size, 0, none⟩) hs1).trans b0 | exact (hB.cell (p := ⟨w.heap.size, 1, none⟩) hs1).trans b1⟩ ?_
  apply wpT_takeK rfl _ (by first | rfl | (simp [Region.wanted, yielded]; done))
  · intro w' hS
    obtain ⟨s0, s1⟩ := hS
    skip
    go_simp
    try rfl
  intro K hK
  go_simp
  refine hK _ ?_
  clear hK K
  apply wpT_takeK rfl _ (by first | rfl | (simp [Region.wanted, yielded]; done))
  · intro w' hS
    obtain ⟨s0, s1⟩ := hS
    skip
    go_simp
    try rfl
  intro K hK
  go_simp
  refine hK _ ?_
  clear hK K
  refine wpT_alone rfl ?_
  go_wp2
  refine QS_abs (fun wn hwn => ?_)
  (have s14 : ∀ o, wn.cell? ⟨w.heap.size, o, none⟩ = w1.cell? ⟨w.heap.size, o, none⟩ := fun o => (by rw [hwn]; exact (World.cell?_setCell_far _ _ _ _ hne).trans (hB.cell (p := ⟨w.heap.size, o, none⟩) hs1)))
  refine And.intro ⟨by first | exact (s14 0).trans b0 | exact (s14 1).trans b1 | exact (hB.cell (p := ⟨w.heap.size, 0, none⟩) hs1).trans b0 | exact (hB.cell (p := ⟨w.heap.size, 1, none⟩) hs1).trans b1, by first | exact (s14 0).trans b0 | exact (s14 1).trans b1 | exact (hB.cell (p := ⟨w.heap.size, 0, none⟩) hs1).trans b0 | exact (hB.cell (p := ⟨w.heap.size, 1, none⟩) hs1).trans b1⟩ ?_
  refine wpT_end ?_
  rotate_left
  go_wp2
  refine QS_abs (fun wn hwn => ?_)
  (have hI := row_one hB.size 79 #[.int .u8 k.kind, .string k.name, .int .u64 d] rfl; rw [← hwn] at hI; (try (have hx := row_apart hA (m := 1) (c := 1); have hA := row_alloc hA (.cells #[.int .u8 k.kind, .string k.name, .int .u64 d] 79); rw [← hwn] at hA)); have hB := hB.alloc hB.size (.cells #[.int .u8 k.kind, .string k.name, .int .u64 d] 79); rw [← hwn] at hB; have hq0 := (hB.cell (p := ⟨R.rq, 0, none⟩) hlq).trans c0; have hz0 := (World.frozen?_of_block (a := ⟨R.rq, 0, none⟩) (hB.block _ hlq)).trans f0; clear hwn)
  refine And.intro ⟨by first | exact (s14 0).trans b0 | exact (s14 1).trans b1 | exact (hB.cell (p := ⟨w.heap.size, 0, none⟩) hs1).trans b0 | exact (hB.cell (p := ⟨w.heap.size, 1, none⟩) hs1).trans b1, by first | exact (s14 0).trans b0 | exact (s14 1).trans b1 | exact (hB.cell (p := ⟨w.heap.size, 0, none⟩) hs1).trans b0 | exact (hB.cell (p := ⟨w.heap.size, 1, none⟩) hs1).trans b1⟩ ?_
  refine wpT_alone rfl ?_
  (refine wpList_append_row rfl _ _ 73 rfl 79 _ 32 Try.underlying73 info79 rfl (by omega) w1.heap.size _ 0 [] rfl hA _ r.l.length _ rfl (row_below hrow1 hB (fun k hk => (row_lt hrow1 hk).2)) (one_cellsI _) (by omega) hB.size ?_; intro vn wx hrow hg; (try (have hI := row_grown hI hg hx)); have hB := hB.trans (Below.grown_at hg (fun k hk => (row_lt hA hk).1) hB.size); have hA := hrow; have hq0 := (hB.cell (p := ⟨R.rq, 0, none⟩) hlq).trans c0; have hz0 := (World.frozen?_of_block (a := ⟨R.rq, 0, none⟩) (hB.block _ hlq)).trans f0; clear hrow hg; go_wp2)
  refine QS_abs (fun wn hwn => ?_)
  (subst hwn)
  refine And.intro ⟨by first | exact (s14 0).trans b0 | exact (s14 1).trans b1 | exact (hB.cell (p := ⟨w.heap.size, 0, none⟩) hs1).trans b0 | exact (hB.cell (p := ⟨w.heap.size, 1, none⟩) hs1).trans b1, by first | exact (s14 0).trans b0 | exact (s14 1).trans b1 | exact (hB.cell (p := ⟨w.heap.size, 0, none⟩) hs1).trans b0 | exact (hB.cell (p := ⟨w.heap.size, 1, none⟩) hs1).trans b1⟩ ?_
  refine wpT_alone rfl ?_
  (refine wpList_append_row rfl _ _ 73 rfl 79 _ 32 Try.underlying73 info79 rfl (by omega) w1.heap.size _ _ _ rfl hA _ 1 _ rfl hI (by intro u hu; simp at hu; rcases hu with rfl | rfl | rfl <;> rfl) (by omega) hB.size ?_; intro vn wx hrow hg; have hB := hB.trans (Below.grown_at hg (fun k hk => (row_lt hA hk).1) hB.size); have hA := hrow; have hq0 := (hB.cell (p := ⟨R.rq, 0, none⟩) hlq).trans c0; have hz0 := (World.frozen?_of_block (a := ⟨R.rq, 0, none⟩) (hB.block _ hlq)).trans f0; clear hrow hg; obtain ⟨ao2, cap2, hv2, _⟩ := row_open (row_base hA); subst hv2; go_wp2)
  refine QS_abs (fun wn hwn => ?_)
  (subst hwn)
  refine And.intro ⟨by first | exact (s14 0).trans b0 | exact (s14 1).trans b1 | exact (hB.cell (p := ⟨w.heap.size, 0, none⟩) hs1).trans b0 | exact (hB.cell (p := ⟨w.heap.size, 1, none⟩) hs1).trans b1, by first | exact (s14 0).trans b0 | exact (s14 1).trans b1 | exact (hB.cell (p := ⟨w.heap.size, 0, none⟩) hs1).trans b0 | exact (hB.cell (p := ⟨w.heap.size, 1, none⟩) hs1).trans b1⟩ ?_
  apply wpT_takeK rfl _ (by first | rfl | (simp [Region.wanted, yielded]; done))
  · intro w' hS
    obtain ⟨s0, s1⟩ := hS
    skip
    go_simp
    try rfl
  intro K hK
  go_simp
  refine hK _ ?_
  clear hK K
  apply wpT_takeK rfl _ (by first | rfl | (simp [Region.wanted, yielded]; done))
  · intro w' hS
    obtain ⟨s0, s1⟩ := hS
    skip
    go_simp
    try rfl
  intro K hK
  go_simp
  refine hK _ ?_
  clear hK K
  refine wpT_alone rfl ?_
  go_wp2
  refine QS_abs (fun wn hwn => ?_)
  (have s14 : ∀ o, wn.cell? ⟨w.heap.size, o, none⟩ = w1.cell? ⟨w.heap.size, o, none⟩ := fun o => (by rw [hwn]; exact (World.cell?_setCell_far _ _ _ _ hne).trans (hB.cell (p := ⟨w.heap.size, o, none⟩) hs1)))
  refine And.intro ⟨by first | exact (s14 0).trans b0 | exact (s14 1).trans b1 | exact (hB.cell (p := ⟨w.heap.size, 0, none⟩) hs1).trans b0 | exact (hB.cell (p := ⟨w.heap.size, 1, none⟩) hs1).trans b1, by first | exact (s14 0).trans b0 | exact (s14 1).trans b1 | exact (hB.cell (p := ⟨w.heap.size, 0, none⟩) hs1).trans b0 | exact (hB.cell (p := ⟨w.heap.size, 1, none⟩) hs1).trans b1⟩ ?_
  refine wpT_end ?_
  rotate_left
  go_wp2
  refine QS_abs (fun wn hwn => ?_)
  (have hI := row_one hB.size 79 #[.int .u8 k.kind, .string k.name, .int .u64 d] rfl; rw [← hwn] at hI; (try (have hx := row_apart hA (m := 1) (c := 1); have hA := row_alloc hA (.cells #[.int .u8 k.kind, .string k.name, .int .u64 d] 79); rw [← hwn] at hA)); have hB := hB.alloc hB.size (.cells #[.int .u8 k.kind, .string k.name, .int .u64 d] 79); rw [← hwn] at hB; have hq0 := (hB.cell (p := ⟨R.rq, 0, none⟩) hlq).trans c0; have hz0 := (World.frozen?_of_block (a := ⟨R.rq, 0, none⟩) (hB.block _ hlq)).trans f0; clear hwn)
  refine And.intro ⟨by first | exact (s14 0).trans b0 | exact (s14 1).trans b1 | exact (hB.cell (p := ⟨w.heap.size, 0, none⟩) hs1).trans b0 | exact (hB.cell (p := ⟨w.heap.size, 1, none⟩) hs1).trans b1, by first | exact (s14 0).trans b0 | exact (s14 1).trans b1 | exact (hB.cell (p := ⟨w.heap.size, 0, none⟩) hs1).trans b0 | exact (hB.cell (p := ⟨w.heap.size, 1, none⟩) hs1).trans b1⟩ ?_
  refine wpT_alone rfl ?_
  go_wp2
  refine QS_abs (fun wn hwn => ?_)
  (have hA := row_none hB.size 79; rw [← hwn] at hA; (try (have hx := row_apart' hI (m := 0) (c := 0); have hI := row_alloc hI (.cells #[] 79); rw [← hwn] at hI)); have hB := hB.alloc hB.size (.cells #[] 79); rw [← hwn] at hB; have hq0 := (hB.cell (p := ⟨R.rq, 0, none⟩) hlq).trans c0; have hz0 := (World.frozen?_of_block (a := ⟨R.rq, 0, none⟩) (hB.block _ hlq)).trans f0; clear hwn)
  refine And.intro ⟨by first | exact (s14 0).trans b0 | exact (s14 1).trans b1 | exact (hB.cell (p := ⟨w.heap.size, 0, none⟩) hs1).trans b0 | exact (hB.cell (p := ⟨w.heap.size, 1, none⟩) hs1).trans b1, by first | exact (s14 0).trans b0 | exact (s14 1).trans b1 | exact (hB.cell (p := ⟨w.heap.size, 0, none⟩) hs1).trans b0 | exact (hB.cell (p := ⟨w.heap.size, 1, none⟩) hs1).trans b1⟩ ?_
  refine wpT_alone rfl ?_
  (refine wpList_append_row rfl _ _ 73 rfl 79 _ 32 Try.underlying73 info79 rfl (by omega) w1.heap.size _ 0 [] rfl hA _ r.l.length _ rfl (row_below hrow1 hB (fun k hk => (row_lt hrow1 hk).2)) (one_cellsI _) (by omega) hB.size ?_; intro vn wx hrow hg; (try (have hI := row_grown hI hg hx)); have hB := hB.trans (Below.grown_at hg (fun k hk => (row_lt hA hk).1) hB.size); have hA := hrow; have hq0 := (hB.cell (p := ⟨R.rq, 0, none⟩) hlq).trans c0; have hz0 := (World.frozen?_of_block (a := ⟨R.rq, 0, none⟩) (hB.block _ hlq)).trans f0; clear hrow hg; go_wp2)
  refine QS_abs (fun wn hwn => ?_)
  (subst hwn)
  refine And.intro ⟨by first | exact (s14 0).trans b0 | exact (s14 1).trans b1 | exact (hB.cell (p := ⟨w.heap.size, 0, none⟩) hs1).trans b0 | exact (hB.cell (p := ⟨w.heap.size, 1, none⟩) hs1).trans b1, by first | exact (s14 0).trans b0 | exact (s14 1).trans b1 | exact (hB.cell (p := ⟨w.heap.size, 0, none⟩) hs1).trans b0 | exact (hB.cell (p := ⟨w.heap.size, 1, none⟩) hs1).trans b1⟩ ?_
  refine wpT_alone rfl ?_
  (refine wpList_append_row rfl _ _ 73 rfl 79 _ 32 Try.underlying73 info79 rfl (by omega) w1.heap.size _ _ _ rfl hA _ 1 _ rfl hI (by intro u hu; simp at hu; rcases hu with rfl | rfl | rfl <;> rfl) (by omega) hB.size ?_; intro vn wx hrow hg; have hB := hB.trans (Below.grown_at hg (fun k hk => (row_lt hA hk).1) hB.size); have hA := hrow; have hq0 := (hB.cell (p := ⟨R.rq, 0, none⟩) hlq).trans c0; have hz0 := (World.frozen?_of_block (a := ⟨R.rq, 0, none⟩) (hB.block _ hlq)).trans f0; clear hrow hg; obtain ⟨ao2, cap2, hv2, _⟩ := row_open (row_base hA); subst hv2; go_wp2)
  refine QS_abs (fun wn hwn => ?_)
  (subst hwn)
  refine And.intro ⟨by first | exact (s14 0).trans b0 | exact (s14 1).trans b1 | exact (hB.cell (p := ⟨w.heap.size, 0, none⟩) hs1).trans b0 | exact (hB.cell (p := ⟨w.heap.size, 1, none⟩) hs1).trans b1, by first | exact (s14 0).trans b0 | exact (s14 1).trans b1 | exact (hB.cell (p := ⟨w.heap.size, 0, none⟩) hs1).trans b0 | exact (hB.cell (p := ⟨w.heap.size, 1, none⟩) hs1).trans b1⟩ ?_
  apply wpT_takeK rfl _ (by first | rfl | (simp [Region.wanted, yielded]; done))
  · intro w' hS
    obtain ⟨s0, s1⟩ := hS
    skip
    go_simp
    try rfl
  intro K hK
  go_simp
  refine hK _ ?_
  clear hK K
  apply wpT_takeK rfl _ (by first | rfl | (simp [Region.wanted, yielded]; done))
  · intro w' hS
    obtain ⟨s0, s1⟩ := hS
    skip
    go_simp
    try rfl
  intro K hK
  go_simp
  refine hK _ ?_
  clear hK K
  refine wpT_alone rfl ?_
  go_wp2
  refine QS_abs (fun wn hwn => ?_)
  (have s14 : ∀ o, wn.cell? ⟨w.heap.size, o, none⟩ = w1.cell? ⟨w.heap.size, o, none⟩ := fun o => (by rw [hwn]; exact (World.cell?_setCell_far _ _ _ _ hne).trans (hB.cell (p := ⟨w.heap.size, o, none⟩) hs1)))
  refine And.intro ⟨by first | exact (s14 0).trans b0 | exact (s14 1).trans b1 | exact (hB.cell (p := ⟨w.heap.size, 0, none⟩) hs1).trans b0 | exact (hB.cell (p := ⟨w.heap.size, 1, none⟩) hs1).trans b1, by first | exact (s14 0).trans b0 | exact (s14 1).trans b1 | exact (hB.cell (p := ⟨w.heap.size, 0, none⟩) hs1).trans b0 | exact (hB.cell (p := ⟨w.heap.size, 1, none⟩) hs1).trans b1⟩ ?_
  refine wpT_end ?_
  rotate_left
  go_wp2
  refine QS_abs (fun wn hwn => ?_)
  (have hI := row_one hB.size 79 #[.int .u8 k.kind, .string k.name, .int .u64 d] rfl; rw [← hwn] at hI; (try (have hx := row_apart hA (m := 1) (c := 1); have hA := row_alloc hA (.cells #[.int .u8 k.kind, .string k.name, .int .u64 d] 79); rw [← hwn] at hA)); have hB := hB.alloc hB.size (.cells #[.int .u8 k.kind, .string k.name, .int .u64 d] 79); rw [← hwn] at hB; have hq0 := (hB.cell (p := ⟨R.rq, 0, none⟩) hlq).trans c0; have hz0 := (World.frozen?_of_block (a := ⟨R.rq, 0, none⟩) (hB.block _ hlq)).trans f0; clear hwn)
  refine And.intro ⟨by first | exact (s14 0).trans b0 | exact (s14 1).trans b1 | exact (hB.cell (p := ⟨w.heap.size, 0, none⟩) hs1).trans b0 | exact (hB.cell (p := ⟨w.heap.size, 1, none⟩) hs1).trans b1, by first | exact (s14 0).trans b0 | exact (s14 1).trans b1 | exact (hB.cell (p := ⟨w.heap.size, 0, none⟩) hs1).trans b0 | exact (hB.cell (p := ⟨w.heap.size, 1, none⟩) hs1).trans b1⟩ ?_
  refine wpT_fork rfl rfl ?_ ?_
  go_wp2
  refine QS_abs (fun wn hwn => ?_)
  (have hA := row_none hB.size 79; rw [← hwn] at hA; (try (have hx := row_apart' hI (m := 0) (c := 0); have hI := row_alloc hI (.cells #[] 79); rw [← hwn] at hI)); have hB := hB.alloc hB.size (.cells #[] 79); rw [← hwn] at hB; have hq0 := (hB.cell (p := ⟨R.rq, 0, none⟩) hlq).trans c0; have hz0 := (World.frozen?_of_block (a := ⟨R.rq, 0, none⟩) (hB.block _ hlq)).trans f0; clear hwn)
  refine And.intro ⟨by first | exact (s14 0).trans b0 | exact (s14 1).trans b1 | exact (hB.cell (p := ⟨w.heap.size, 0, none⟩) hs1).trans b0 | exact (hB.cell (p := ⟨w.heap.size, 1, none⟩) hs1).trans b1, by first | exact (s14 0).trans b0 | exact (s14 1).trans b1 | exact (hB.cell (p := ⟨w.heap.size, 0, none⟩) hs1).trans b0 | exact (hB.cell (p := ⟨w.heap.size, 1, none⟩) hs1).trans b1⟩ ?_
  refine wpT_alone rfl ?_
  go_wp2
  refine QS_abs (fun wn hwn => ?_)
  (subst hwn)
  refine And.intro ⟨by first | exact (s14 0).trans b0 | exact (s14 1).trans b1 | exact (hB.cell (p := ⟨w.heap.size, 0, none⟩) hs1).trans b0 | exact (hB.cell (p := ⟨w.heap.size, 1, none⟩) hs1).trans b1, by first | exact (s14 0).trans b0 | exact (s14 1).trans b1 | exact (hB.cell (p := ⟨w.heap.size, 0, none⟩) hs1).trans b0 | exact (hB.cell (p := ⟨w.heap.size, 1, none⟩) hs1).trans b1⟩ ?_
  refine wpT_alone rfl ?_
  (refine wpList_append_row rfl _ _ 73 rfl 79 _ 32 Try.underlying73 info79 rfl (by omega) w1.heap.size _ 0 [] rfl hA _ r.l.length _ rfl (row_below hrow1 hB (fun k hk => (row_lt hrow1 hk).2)) (one_cellsI _) (by omega) hB.size ?_; intro vn wx hrow hg; (try (have hI := row_grown hI hg hx)); have hB := hB.trans (Below.grown_at hg (fun k hk => (row_lt hA hk).1) hB.size); have hA := hrow; have hq0 := (hB.cell (p := ⟨R.rq, 0, none⟩) hlq).trans c0; have hz0 := (World.frozen?_of_block (a := ⟨R.rq, 0, none⟩) (hB.block _ hlq)).trans f0; clear hrow hg; go_wp2)
  refine QS_abs (fun wn hwn => ?_)
  (subst hwn)
  refine And.intro ⟨by first | exact (s14 0).trans b0 | exact (s14 1).trans b1 | exact (hB.cell (p := ⟨w.heap.size, 0, none⟩) hs1).trans b0 | exact (hB.cell (p := ⟨w.heap.size, 1, none⟩) hs1).trans b1, by first | exact (s14 0).trans b0 | exact (s14 1).trans b1 | exact (hB.cell (p := ⟨w.heap.size, 0, none⟩) hs1).trans b0 | exact (hB.cell (p := ⟨w.heap.size, 1, none⟩) hs1).trans b1⟩ ?_
  refine wpT_alone rfl ?_
  (refine wpList_append_row rfl _ _ 73 rfl 79 _ 32 Try.underlying73 info79 rfl (by omega) w1.heap.size _ _ _ rfl hA _ 1 _ rfl hI (by intro u hu; simp at hu; rcases hu with rfl | rfl | rfl <;> rfl) (by omega) hB.size ?_; intro vn wx hrow hg; have hB := hB.trans (Below.grown_at hg (fun k hk => (row_lt hA hk).1) hB.size); have hA := hrow; have hq0 := (hB.cell (p := ⟨R.rq, 0, none⟩) hlq).trans c0; have hz0 := (World.frozen?_of_block (a := ⟨R.rq, 0, none⟩) (hB.block _ hlq)).trans f0; clear hrow hg; obtain ⟨ao2, cap2, hv2, _⟩ := row_open (row_base hA); subst hv2; go_wp2)
  refine QS_abs (fun wn hwn => ?_)
  (subst hwn)
  refine And.intro ⟨by first | exact (s14 0).trans b0 | exact (s14 1).trans b1 | exact (hB.cell (p := ⟨w.heap.size, 0, none⟩) hs1).trans b0 | exact (hB.cell (p := ⟨w.heap.size, 1, none⟩) hs1).trans b1, by first | exact (s14 0).trans b0 | exact (s14 1).trans b1 | exact (hB.cell (p := ⟨w.heap.size, 0, none⟩) hs1).trans b0 | exact (hB.cell (p := ⟨w.heap.size, 1, none⟩) hs1).trans b1⟩ ?_
  apply wpT_takeK rfl _ (by first | rfl | (simp [Region.wanted, yielded]; done))
  · intro w' hS
    obtain ⟨s0, s1⟩ := hS
    skip
    go_simp
    try rfl
  intro K hK
  go_simp
  refine hK _ ?_
  clear hK K
  apply wpT_takeK rfl _ (by first | rfl | (simp [Region.wanted, yielded]; done))
  · intro w' hS
    obtain ⟨s0, s1⟩ := hS
    skip
    go_simp
    try rfl
  intro K hK
  go_simp
  refine hK _ ?_
  clear hK K
  refine wpT_alone rfl ?_
  go_wp2
  refine QS_abs (fun wn hwn => ?_)
  (have s14 : ∀ o, wn.cell? ⟨w.heap.size, o, none⟩ = w1.cell? ⟨w.heap.size, o, none⟩ := fun o => (by rw [hwn]; exact (World.cell?_setCell_far _ _ _ _ hne).trans (hB.cell (p := ⟨w.heap.size, o, none⟩) hs1)))
  refine And.intro ⟨by first | exact (s14 0).trans b0 | exact (s14 1).trans b1 | exact (hB.cell (p := ⟨w.heap.size, 0, none⟩) hs1).trans b0 | exact (hB.cell (p := ⟨w.heap.size, 1, none⟩) hs1).trans b1, by first | exact (s14 0).trans b0 | exact (s14 1).trans b1 | exact (hB.cell (p := ⟨w.heap.size, 0, none⟩) hs1).trans b0 | exact (hB.cell (p := ⟨w.heap.size, 1, none⟩) hs1).trans b1⟩ ?_
  refine wpT_end ?_
  rotate_left
  go_wp2
  refine QS_abs (fun wn hwn => ?_)
  (subst hwn)
  refine And.intro ⟨by first | exact (s14 0).trans b0 | exact (s14 1).trans b1 | exact (hB.cell (p := ⟨w.heap.size, 0, none⟩) hs1).trans b0 | exact (hB.cell (p := ⟨w.heap.size, 1, none⟩) hs1).trans b1, by first | exact (s14 0).trans b0 | exact (s14 1).trans b1 | exact (hB.cell (p := ⟨w.heap.size, 0, none⟩) hs1).trans b0 | exact (hB.cell (p := ⟨w.heap.size, 1, none⟩) hs1).trans b1⟩ ?_
  refine wpT_alone rfl ?_
  go_wp2
  refine QS_abs (fun wn hwn => ?_)
  (have hA := row_none hB.size 79; rw [← hwn] at hA; (try (have hx := row_apart' hI (m := 0) (c := 0); have hI := row_alloc hI (.cells #[] 79); rw [← hwn] at hI)); have hB := hB.alloc hB.size (.cells #[] 79); rw [← hwn] at hB; have hq0 := (hB.cell (p := ⟨R.rq, 0, none⟩) hlq).trans c0; have hz0 := (World.frozen?_of_block (a := ⟨R.rq, 0, none⟩) (hB.block _ hlq)).trans f0; clear hwn)
  refine And.intro ⟨by first | exact (s14 0).trans b0 | exact (s14 1).trans b1 | exact (hB.cell (p := ⟨w.heap.size, 0, none⟩) hs1).trans b0 | exact (hB.cell (p := ⟨w.heap.size, 1, none⟩) hs1).trans b1, by first | exact (s14 0).trans b0 | exact (s14 1).trans b1 | exact (hB.cell (p := ⟨w.heap.size, 0, none⟩) hs1).trans b0 | exact (hB.cell (p := ⟨w.heap.size, 1, none⟩) hs1).trans b1⟩ ?_
  refine wpT_alone rfl ?_
  (refine wpList_append_row rfl _ _ 73 rfl 79 _ 32 Try.underlying73 info79 rfl (by omega) w1.heap.size _ 0 [] rfl hA _ r.l.length _ rfl (row_below hrow1 hB (fun k hk => (row_lt hrow1 hk).2)) (one_cellsI _) (by omega) hB.size ?_; intro vn wx hrow hg; (try (have hI := row_grown hI hg hx)); have hB := hB.trans (Below.grown_at hg (fun k hk => (row_lt hA hk).1) hB.size); have hA := hrow; have hq0 := (hB.cell (p := ⟨R.rq, 0, none⟩) hlq).trans c0; have hz0 := (World.frozen?_of_block (a := ⟨R.rq, 0, none⟩) (hB.block _ hlq)).trans f0; clear hrow hg; go_wp2)
  refine QS_abs (fun wn hwn => ?_)
  (subst hwn)
  refine And.intro ⟨by first | exact (s14 0).trans b0 | exact (s14 1).trans b1 | exact (hB.cell (p := ⟨w.heap.size, 0, none⟩) hs1).trans b0 | exact (hB.cell (p := ⟨w.heap.size, 1, none⟩) hs1).trans b1, by first | exact (s14 0).trans b0 | exact (s14 1).trans b1 | exact (hB.cell (p := ⟨w.heap.size, 0, none⟩) hs1).trans b0 | exact (hB.cell (p := ⟨w.heap.size, 1, none⟩) hs1).trans b1⟩ ?_
  refine wpT_alone rfl ?_
  (refine wpList_append_row rfl _ _ 73 rfl 79 _ 32 Try.underlying73 info79 rfl (by omega) w1.heap.size _ _ _ rfl hA _ 1 _ rfl hI (by intro u hu; simp at hu; rcases hu with rfl | rfl | rfl <;> rfl) (by omega) hB.size ?_; intro vn wx hrow hg; have hB := hB.trans (Below.grown_at hg (fun k hk => (row_lt hA hk).1) hB.size); have hA := hrow; have hq0 := (hB.cell (p := ⟨R.rq, 0, none⟩) hlq).trans c0; have hz0 := (World.frozen?_of_block (a := ⟨R.rq, 0, none⟩) (hB.block _ hlq)).trans f0; clear hrow hg; obtain ⟨ao2, cap2, hv2, _⟩ := row_open (row_base hA); subst hv2; go_wp2)
  refine QS_abs (fun wn hwn => ?_)
  (subst hwn)
  refine And.intro ⟨by first | exact (s14 0).trans b0 | exact (s14 1).trans b1 | exact (hB.cell (p := ⟨w.heap.size, 0, none⟩) hs1).trans b0 | exact (hB.cell (p := ⟨w.heap.size, 1, none⟩) hs1).trans b1, by first | exact (s14 0).trans b0 | exact (s14 1).trans b1 | exact (hB.cell (p := ⟨w.heap.size, 0, none⟩) hs1).trans b0 | exact (hB.cell (p := ⟨w.heap.size, 1, none⟩) hs1).trans b1⟩ ?_
  apply wpT_takeK rfl _ (by first | rfl | (simp [Region.wanted, yielded]; done))
  · intro w' hS
    obtain ⟨s0, s1⟩ := hS
    skip
    go_simp
    try rfl
  intro K hK
  go_simp
  refine hK _ ?_
  clear hK K
  apply wpT_takeK rfl _ (by first | rfl | (simp [Region.wanted, yielded]; done))
  · intro w' hS
    obtain ⟨s0, s1⟩ := hS
    skip
    go_simp
    try rfl
  intro K hK
  go_simp
  refine hK _ ?_
  clear hK K
  refine wpT_alone rfl ?_
  go_wp2
  refine QS_abs (fun wn hwn => ?_)
  (have s14 : ∀ o, wn.cell? ⟨w.heap.size, o, none⟩ = w1.cell? ⟨w.heap.size, o, none⟩ := fun o => (by rw [hwn]; exact (World.cell?_setCell_far _ _ _ _ hne).trans (hB.cell (p := ⟨w.heap.size, o, none⟩) hs1)))
  refine And.intro ⟨by first | exact (s14 0).trans b0 | exact (s14 1).trans b1 | exact (hB.cell (p := ⟨w.heap.size, 0, none⟩) hs1).trans b0 | exact (hB.cell (p := ⟨w.heap.size, 1, none⟩) hs1).trans b1, by first | exact (s14 0).trans b0 | exact (s14 1).trans b1 | exact (hB.cell (p := ⟨w.heap.size, 0, none⟩) hs1).trans b0 | exact (hB.cell (p := ⟨w.heap.size, 1, none⟩) hs1).trans b1⟩ ?_
  refine wpT_end ?_
  rotate_left
  all_goals go_wp2
  all_goals simp only [Nat.zero_add] at hA
  all_goals refine bodyPost_ret (v := .tuple #[]) (by simp [results, Try.results49, go_sem]) rfl ⟨rfl, _, putR_done HR1.out HK1.out hB hA rfl (by simp) hwn E3.out⟩

theorem putR_any (R : RLoc) (r : RQ) (k : GKey) (d : Int) (w : World) (h : RAt w R r) (hlen : r.l.length < 1000) :
    Calls Try.prog 49 #[.pointer (some ⟨R.rq, 0, none⟩), .agg #[.int .u8 k.kind, .string k.name], .int .u64 d] w fun e w' => e = .returned (.tuple #[]) ∧ ∃ R', RAt w' R' (r.put k d) ∧ Keeps R.mine w w' ∧ R.Next R' w := by
  rcases atI_split r.l k with ⟨e1, _, e3⟩ | ⟨i, hi, e1, _, e2, e3⟩
  · exact putR_new R r k d w h e1 (e3 d) hlen
  · exact (putR_old R r k d w h i hi e1 e2 (e3 d)).mono fun e w' ⟨a, b, c⟩ => ⟨a, R, b, c, .refl _ _⟩
end Go.Proofs.Ytemeedfldapcjaa
