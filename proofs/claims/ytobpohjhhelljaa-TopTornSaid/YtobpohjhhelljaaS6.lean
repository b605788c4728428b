/- Layer 6 (store): Put: the program's. -/
import Derived.Test.YtobpohjhhelljaaS5
namespace Go.Proofs.Ytobpohjhhelljaa
open Go.RowKit
set_option linter.unusedVariables false
set_option linter.unusedSimpArgs false


theorem newO_right (o : Obj) (was : Option Obj) (v : Int) : rightB (newO o was v) = rightB o := rfl
theorem newO_fits {o : Obj} (h : o.Fits) (was : Option Obj) (v : Int) : (newO o was v).Fits := ⟨h.name, h.texts⟩
theorem assoc_mem {l : List (GKey × Obj)} {k : GKey} {o : Obj} (h : assoc l k = some o) : ∃ x ∈ l, x.2 = o ∧ x.1 = k := by
  unfold assoc at h
  cases hf : l.find? (fun p => decide (k = p.1)) with
  | none => rw [hf] at h; cases h
  | some x =>
    rw [hf] at h
    simp at h
    have h2 := List.find?_some hf
    exact ⟨x, List.mem_of_find?_eq_some hf, h, (of_decide_eq_true h2).symm⟩
theorem newO_typed {o : Obj} (h : o.Typed) {ms : List (GKey × Obj)} (hm : ∀ x ∈ ms, x.2.Typed ∧ rightB x.2 = true) (k : GKey) {v : Int} (hv : 0 ≤ v ∧ v < 18446744073709551616) : (newO o (assoc ms k) v).Typed := by
  refine ⟨h.kind, hv, ?_, h.mode, h.phase, h.num, h.tag⟩
  show 0 ≤ (if (assoc ms k).isSome then ((assoc ms k).getD objZ).born else v) ∧ (if (assoc ms k).isSome then ((assoc ms k).getD objZ).born else v) < 18446744073709551616
  cases ha : assoc ms k with
  | none => simpa using hv
  | some q =>
    obtain ⟨x, hx, rfl, _⟩ := assoc_mem ha
    simpa using (hm x hx).1.born

/-- what a Put makes: the error, the object, the objects, the changes, the log's blocks -/
def putM (ms : List (GKey × Obj)) (cs : List Ev) (n most : Nat) (o : Obj) : Int × Obj × List (GKey × Obj) × List Ev × Nat :=
  if (changeM ms cs o).1 = 0 then
    (if most - n < needN (chE (changeM ms cs o).2).length then (7, objZ, ms, cs, n)
     else (0, (changeM ms cs o).2.obj, doM ms (changeM ms cs o).2, cs ++ [(changeM ms cs o).2], n + needN (chE (changeM ms cs o).2).length))
  else ((changeM ms cs o).1, objZ, ms, cs, n)
def PutPost (w : World) (B : Nat) (L : SLoc) (cv lv : Value) (r : Int × Obj × List (GKey × Obj) × List Ev × Nat) (most : Nat) (e : Ending) (w' : World) : Prop :=
  e = .returned (.tuple #[.agg (cellsO r.2.1), .int .i64 r.1]) ∧ ∃ cv' lv', SA w' B L cv' lv' r.2.2.1 r.2.2.2.1 r.2.2.2.2 most ∧ Keeps (L.all cv lv) w w'
theorem change_ok {ms : List (GKey × Obj)} {cs : List Ev} {o : Obj} (h : (changeM ms cs o).1 = 0) : rightB o = true ∧ (changeM ms cs o).2 = ⟨verS cs + 1, false, newO o (assoc ms (keyO o)) (verS cs + 1)⟩ := by
  unfold changeM at h ⊢
  by_cases h1 : rightB o = false
  · rw [if_pos h1] at h; simp at h
  · rw [if_neg h1] at h ⊢
    by_cases h2 : ¬ ((assoc ms (keyO o)).getD objZ).version = o.version
    · rw [if_pos h2] at h; simp at h
    · rw [if_neg h2] at h ⊢
      by_cases h3 : (assoc ms (keyO o)).isSome = false ∧ 200 ≤ ms.length
      · rw [if_pos h3] at h; simp at h
      · rw [if_neg h3]
        exact ⟨by simpa using h1, rfl⟩

set_option maxRecDepth 100000 in
set_option maxHeartbeats 4000000 in
theorem sput_any (w : World) (B : Nat) (L : SLoc) (cv lv : Value) (ms : List (GKey × Obj)) (cs : List Ev) (n most : Nat) (h : SA w B L cv lv ms cs n most) (o : Obj) (ht : o.Typed) (hf : o.Fits) (hl : cs.length ≤ 100000) (hms : ms.length ≤ 1000000) (hB : B ≤ w.heap.size) :
    Calls Try.prog 7 #[.pointer (some ⟨L.p, 0, none⟩), .agg (cellsO o)] w (PutPost w B L cv lv (putM ms cs n most o) most) := by
  have hZ := objZ_cells
  simp only [noText] at hZ
  have HZ := Lib.hid hZ
  have hZE := evZ_cells
  simp only [noText] at hZE
  have HZE := Lib.hid hZE
  clear hZ hZE
  obtain ⟨W0, hW0⟩ : ∃ W0, W0 = (w.alloc (.cells (cellsO o) 31)).alloc (.cells (cellsO objZ) 31) := ⟨_, rfl⟩
  have hb0 : Below w.heap.size w W0 := hW0 ▸ ((Below.refl _ w).alloc (Nat.le_refl _) _).alloc (by simp) _
  have hsz : W0.heap.size = w.heap.size + 2 := by rw [hW0]; simp
  have hox : W0.heap[w.heap.size]? = some (.cells (cellsO o) 31 (0, 0)) := by rw [hW0]; exact (heap_alloc_lt (by simp)).trans heap_alloc_eq
  have hrx : W0.heap[w.heap.size + 1]? = some (.cells (cellsO objZ) 31 (0, 0)) := by
    have := World.alloc_heap_new (w.alloc (.cells (cellsO o) 31)) (.cells (cellsO objZ) 31)
    rwa [World.size_alloc, ← hW0] at this
  have hW0' := hW0
  conv at hW0' => rhs; rw [HZ.out]
  have HW0 := Lib.hid hW0'
  have HOX := Lib.hid hox
  have HRX := Lib.hid hrx
  have HB0 := Lib.hid hb0
  have HSZ := Lib.hid hsz
  have H := Lib.hid h
  have HT := Lib.hid ht
  have HF := Lib.hid hf
  have hvr := h.vr
  have hplt := h.sm.lt
  clear hW0 hW0' hox hrx hb0 hsz h ht hf
  obtain ⟨R, hR⟩ : ∃ R, R = PutPost w B L cv lv (putM ms cs n most o) most := ⟨_, rfl⟩
  rw [← hR]
  have HRR := Lib.hid hR
  clear hR
  obtain ⟨C, hC⟩ : ∃ C, C = changeM ms cs o := ⟨_, rfl⟩
  have HC := Lib.hid hC
  have HVR := Lib.hid hvr
  go_enter Try.func7, Try.ntmps7
  go_upto_region 1 with fail
  rw [← HW0.out]
  go_wp2_with (first
    | refine wpList_loadObj rfl _ rfl w.heap.size rfl o (cells_all HOX.out) ?_
    | fail)
  refine (schange_any W0 B L cv ms cs (H.out.below HB0.out).sm o HF.out (by omega) hms).mono ?_
  rintro e w1 ⟨rfl, hb⟩
  rw [← HC.out]
  have HB1 := Lib.hid (HB0.out.trans (hb.mono HB0.out.size))
  have HR1 := Lib.hid ((hb.block _ (heap_lt HRX.out)).trans HRX.out)
  have hs1 := hb.size
  rw [HSZ.out] at hs1
  obtain ⟨W2, hW2⟩ : ∃ W, W = Wset (w1.alloc (.cells (cellsEv evZ) 69)) w1.heap.size (.cells (cellsEv C.2) 69 (0, 0)) := ⟨_, rfl⟩
  have hbn := below_new w1 (.cells (cellsEv evZ) 69) (.cells (cellsEv C.2) 69 (0, 0))
  have hnb := new_box w1 (.cells (cellsEv evZ) 69) (cellsEv C.2) 69
  rw [← hW2] at hbn hnb
  have hq : (w1.alloc (.cells (cellsEv evZ) 69)).heap[w1.heap.size]? = some (.cells (cellsEv evZ) 69 (0, 0)) := heap_alloc_eq
  conv at hq => lhs; rw [HZE.out]
  have HB2 := Lib.hid (HB1.out.trans (hbn.mono HB1.out.size))
  have HR2 := Lib.hid ((hbn.block _ (heap_lt HR1.out)).trans HR1.out)
  have HX2 := Lib.hid (EvBox.mk hnb)
  have HS2 := Lib.hid (H.out.below HB2.out)
  have HQ := Lib.hid hq
  have HW := Lib.hid hW2
  clear hbn hnb hq hW2 hb hC hvr HB1 HR1 HB0 HRX HOX
  generalize hX : w1.heap.size = X at *
  have hall : ∀ i, L.all cv lv i → i < w.heap.size := by
    rintro i (hi | hi | hi)
    · exact (H.out.sm.mine_lo hi).2
    · rw [hi]; exact H.out.lg.lt.1
    · exact (H.out.lg.lt.2 i hi).2
  have HALL := Lib.hid hall
  clear hall
  by_cases herr : C.1 = 0
  · obtain ⟨hrt, hC2⟩ := change_ok (ms := ms) (cs := cs) (o := o) (by rw [← HC.out]; exact herr)
    rw [← HC.out] at hC2
    have hvb : 0 ≤ verS cs + 1 ∧ verS cs + 1 < 18446744073709551616 := by rw [HVR.out]; omega
    have hct : C.2.Typed := by rw [hC2]; exact ⟨hvb, newO_typed HT.out H.out.om _ hvb⟩
    have hcf : C.2.obj.Fits := by rw [hC2]; exact newO_fits HF.out _ _
    have hcr : rightB C.2.obj = true := by rw [hC2]; exact hrt
    have hcv : C.2.version = verS cs + 1 := by rw [hC2]
    have HERR := Lib.hid herr
    have H5 := Lib.hid (And.intro hct (And.intro hcf (And.intro hcr hcv)))
    have hB2 : B ≤ W2.heap.size := Nat.le_trans hB HB2.out.size
    clear hrt hC2 hvb hct hcf hcr hcv
    go_upto_region 3 with (first
      | (refine wpList_storeEv rfl _ _ rfl X rfl C.2 evZ rfl HQ.out ?_; rw [← HZE.out, ← HW.out])
      | fail)
    clear herr
    go_wp2_with (first
      | refine wpList_loadEv0 rfl _ rfl X rfl C.2 (cells_all HX2.out.heap) ?_
      | fail)
    refine (slasting_any W2 B L cv lv ms cs n most HS2.out C.2 H5.out.1 H5.out.2.1 H5.out.2.2.1 hl hB2 H5.out.2.2.2).mono ?_
    by_cases hroom : most - n < needN (chE C.2).length
    · have hlm : lastM ms cs n most C.2 = (7, ms, cs, n) := by unfold lastM; rw [if_pos hroom]
      rw [hlm]
      rintro e w3 ⟨rfl, cv', lv', hs3, hk3⟩
      have hr3 := (hk3.block _ (heap_lt HR2.out) (fun hx => absurd (HALL.out _ hx) (by omega))).trans HR2.out
      have HR3 := Lib.hid hr3
      have HS3 := Lib.hid hs3
      have HK3 := Lib.hid ((Keeps.of_below HB2.out).trans hk3)
      have HROOM := Lib.hid hroom
      clear hr3 hs3 hk3 hlm hroom
      go_wp2_with (first
        | refine wpList_storeObj rfl _ _ rfl (w.heap.size + 1) rfl objZ rfl _ HR3.out rfl ?_
        | fail)
      refine bodyPost_ret (results_os objZ rfl rfl rfl (cells_all (Wset_same (heap_lt HR3.out)))) rfl ?_
      rw [HRR.out]
      unfold PutPost putM
      rw [← HC.out, if_pos HERR.out, if_pos HROOM.out]
      refine ⟨rfl, cv', lv', ?_, HK3.out.wset (fun hx => absurd hx (by omega)) _⟩
      refine ⟨HS3.out.sm.kept fun i hi hm => Wset_ne ?_, HS3.out.lg.kept fun i hi => Wset_ne ?_, HS3.out.ok, HS3.out.om, HS3.out.vr⟩
      · rintro rfl
        rcases hm with hm | hm | hm
        · omega
        · omega
        · obtain ⟨_, _, hc⟩ := ownsRow_cells HS3.out.sm.ch hm
          rw [HR3.out] at hc; cases hc
      · rintro rfl
        rcases hi with hm | hm
        · have := H.out.lg.lt.1; omega
        · obtain ⟨_, _, hc⟩ := ownsRow_cells HS3.out.lg.row.2 hm
          rw [HR3.out] at hc; cases hc
    · have hlm : lastM ms cs n most C.2 = (0, doM ms C.2, cs ++ [C.2], n + needN (chE C.2).length) := by unfold lastM; rw [if_neg hroom]
      rw [hlm]
      rintro e w3 ⟨rfl, cv', lv', hs3, hk3⟩
      have hr3 := (hk3.block _ (heap_lt HR2.out) (fun hx => absurd (HALL.out _ hx) (by omega))).trans HR2.out
      have hx3 := (hk3.block _ (heap_lt HX2.out.heap) (fun hx => absurd (HALL.out _ hx) (by omega))).trans HX2.out.heap
      have HR3 := Lib.hid hr3
      have HX3 := Lib.hid (EvBox.mk hx3)
      have HS3 := Lib.hid hs3
      have HK3 := Lib.hid ((Keeps.of_below HB2.out).trans hk3)
      have HROOM := Lib.hid hroom
      clear hr3 hs3 hk3 hlm hroom hx3
      go_wp2_with (first
        | refine wpList_loadObjAt rfl _ rfl X 2 rfl C.2.obj HX3.out.obj ?_
        | refine wpList_storeObj rfl _ _ rfl (w.heap.size + 1) rfl C.2.obj rfl _ HR3.out rfl ?_
        | fail)
      refine bodyPost_ret (results_os C.2.obj rfl rfl rfl (cells_all (Wset_same (heap_lt HR3.out)))) rfl ?_
      rw [HRR.out]
      unfold PutPost putM
      rw [← HC.out, if_pos HERR.out, if_neg HROOM.out]
      refine ⟨rfl, cv', lv', ?_, HK3.out.wset (fun hx => absurd hx (by omega)) _⟩
      refine ⟨HS3.out.sm.kept fun i hi hm => Wset_ne ?_, HS3.out.lg.kept fun i hi => Wset_ne ?_, HS3.out.ok, HS3.out.om, HS3.out.vr⟩
      · rintro rfl
        rcases hm with hm | hm | hm
        · omega
        · omega
        · obtain ⟨_, _, hc⟩ := ownsRow_cells HS3.out.sm.ch hm
          rw [HR3.out] at hc; cases hc
      · rintro rfl
        rcases hi with hm | hm
        · have := H.out.lg.lt.1; omega
        · obtain ⟨_, _, hc⟩ := ownsRow_cells HS3.out.lg.row.2 hm
          rw [HR3.out] at hc; cases hc
  · have herr' : ¬ C.1 = 0 := herr
    go_wp2_with (first
      | (refine wpList_storeEv rfl _ _ rfl X rfl C.2 evZ rfl HQ.out ?_; rw [← HZE.out, ← HW.out])
      | refine wpList_storeObj rfl _ _ rfl (w.heap.size + 1) rfl objZ rfl _ HR2.out rfl ?_
      | fail)
    refine bodyPost_ret (results_os objZ rfl rfl rfl (cells_all (Wset_same (heap_lt HR2.out)))) rfl ?_
    rw [HRR.out]
    unfold PutPost putM
    rw [← HC.out, if_neg herr]
    have hbb := belowWs (b := w.heap.size + 1) (o := .cells (cellsO objZ) 31 (0, 0)) HB2.out (Nat.le_succ _)
    exact ⟨rfl, cv, lv, H.out.below hbb, Keeps.of_below hbb⟩

end Go.Proofs.Ytobpohjhhelljaa
