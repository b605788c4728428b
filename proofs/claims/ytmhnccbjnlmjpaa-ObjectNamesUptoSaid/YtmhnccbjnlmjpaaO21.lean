/- Layer 3 (object): default of default is default; what is right stays right by it. -/
import Derived.Test.YtmhnccbjnlmjpaaO15
import Derived.Test.YtmhnccbjnlmjpaaTree
namespace Go.Proofs.Ytmhnccbjnlmjpaa
open Go.RowKit
set_option linter.unusedVariables false
set_option linter.unusedSimpArgs false

theorem def_kind (o : Obj) : (defO o).kind = o.kind := by
  unfold defO
  by_cases k3 : o.kind = 3
  · simp [k3]
  by_cases k4 : o.kind = 4
  · simp [k4]
  by_cases k7 : o.kind = 7
  · simp [k7]
  by_cases k5 : o.kind = 5
  · simp [k5]
  simp [k3, k4, k5, k7]
theorem def_parts (o : Obj) : (defO o).volume = o.volume ∧ (defO o).node = o.node ∧ textsO (defO o) = textsO o := by
  unfold defO textsO
  by_cases k3 : o.kind = 3
  · simp [k3]
  by_cases k4 : o.kind = 4
  · simp [k4]
  by_cases k7 : o.kind = 7
  · simp [k7]
  by_cases k5 : o.kind = 5
  · simp [k5]
  simp [k3, k4, k5, k7]
theorem attach_ne (v n : ByteArray) : ¬ (attachN v n).toList = [] := by
  simp [attachN, ByteArray.toList_eq]
theorem bsize (x : ByteArray) : x.size = x.data.toList.length := by cases x; rfl
theorem attach_size (v n : ByteArray) : (attachN v n).size = v.size + n.size + 1 := by
  rw [bsize, bsize v, bsize n]
  simp only [attachN, List.length_append, List.length_cons]; omega
theorem def_def (o : Obj) : defO (defO o) = defO o := by
  have hk := def_kind o
  by_cases k3 : o.kind = 3
  · have e : defO o = { o with hold := true, phase := if o.phase = 0 then 1 else o.phase, mode := if o.mode = 0 then 1 else o.mode } := by unfold defO; rw [if_pos k3]
    rw [e]; unfold defO; rw [if_pos k3]
    by_cases p : o.phase = 0 <;> by_cases m : o.mode = 0 <;> simp [p, m]
  by_cases k4 : o.kind = 4
  · have e : defO o = { o with hold := true, phase := if o.phase = 0 then 4 else o.phase, mode := if o.mode = 0 then 1 else o.mode, got := if o.got = 0 then o.size else o.got } := by unfold defO; rw [if_neg k3, if_pos k4]
    rw [e]; unfold defO; rw [if_neg k3, if_pos k4]
    by_cases p : o.phase = 0 <;> by_cases m : o.mode = 0 <;> by_cases g : o.got = 0 <;> simp [p, m, g]
  by_cases k7 : o.kind = 7
  · have e : defO o = { o with hold := true, phase := if o.phase = 0 then 1 else o.phase } := by unfold defO; rw [if_neg k3, if_neg k4, if_pos k7]
    rw [e]; unfold defO; rw [if_neg k3, if_neg k4, if_pos k7]
    by_cases p : o.phase = 0 <;> simp [p]
  by_cases k5 : o.kind = 5
  · have e : defO o = { o with name := if o.name.toList = [] then attachN o.volume o.node else o.name } := by unfold defO; rw [if_neg k3, if_neg k4, if_neg k7, if_pos k5]
    rw [e]; unfold defO; rw [if_neg k3, if_neg k4, if_neg k7, if_pos k5]
    by_cases p : o.name.toList = []
    · have := attach_ne o.volume o.node
      simp [p, this]
    · simp [p]
  have e : defO o = o := by unfold defO; rw [if_neg k3, if_neg k4, if_neg k7, if_neg k5]
  rw [e, e]
theorem right_hold (o : Obj) : rightB { o with hold := true } = rightB o := by
  have h1 : restO { o with hold := true } = restO o := by
    unfold restO
    by_cases k1 : o.kind = 1
    · simp [k1]
    by_cases k2 : o.kind = 2
    · simp [k2]
    by_cases k3 : o.kind = 3
    · simp [k3]
    by_cases k4 : o.kind = 4
    · simp [k4]
    by_cases k5 : o.kind = 5
    · simp [k5]
    by_cases k6 : o.kind = 6
    · simp [k6]
    by_cases k7 : o.kind = 7
    · simp [k7]
    simp [k1, k2, k3, k4, k5, k6, k7]
  have h2 : textsO { o with hold := true } = textsO o := rfl
  have h3 : kindB { o with hold := true } = kindB o := rfl
  unfold rightB formB
  rw [h1, h2, h3]
theorem right_def {o : Obj} (h : rightB o = true) : rightB (defO o) = true := by
  have hkb : kindB o = true := by
    have h2 := h
    unfold rightB at h2; rw [Bool.and_eq_true] at h2; exact h2.2
  have hnm : nameB o.name = true := by
    have h2 := h
    unfold rightB formB at h2; simp only [Bool.and_eq_true] at h2; exact h2.1.1.1.1.1
  by_cases k3 : o.kind = 3
  · have e : defO o = { o with hold := true } := by
      unfold kindB at hkb
      simp only [k3, modeB, oneB, Bool.and_eq_true] at hkb
      unfold defO; rw [if_pos k3]
      have hp : ¬ o.phase = 0 := fun e => by rw [e] at hkb; simp at hkb
      have hm : ¬ o.mode = 0 := fun e => by rw [e] at hkb; simp at hkb
      rw [if_neg hp, if_neg hm]
    rw [e, right_hold]; exact h
  by_cases k4 : o.kind = 4
  · have e : defO o = { o with hold := true } := by
      unfold kindB at hkb
      simp only [k4, modeB, oneB, Bool.and_eq_true] at hkb
      unfold defO; rw [if_neg k3, if_pos k4]
      have hp : ¬ o.phase = 0 := fun e => by rw [e] at hkb; simp at hkb
      have hm : ¬ o.mode = 0 := fun e => by rw [e] at hkb; simp at hkb
      have hg : ¬ o.got = 0 := fun e => by rw [e] at hkb; simp at hkb
      rw [if_neg hp, if_neg hm, if_neg hg]
    rw [e, right_hold]; exact h
  by_cases k7 : o.kind = 7
  · have e : defO o = { o with hold := true } := by
      unfold kindB at hkb
      simp only [k7, modeB, oneB, Bool.and_eq_true] at hkb
      unfold defO; rw [if_neg k3, if_neg k4, if_pos k7]
      have hp : ¬ o.phase = 0 := fun e => by rw [e] at hkb; simp at hkb
      rw [if_neg hp]
    rw [e, right_hold]; exact h
  have e : defO o = o := by
    unfold defO; rw [if_neg k3, if_neg k4, if_neg k7]
    by_cases k5 : o.kind = 5
    · rw [if_pos k5]
      have hn : ¬ o.name.toList = [] := fun e => by
        have hs : o.name.size = 0 := by
          rw [bsize, ← ByteArray.toList_eq, e]; rfl
        unfold nameB at hnm
        simp [hs] at hnm
      rw [if_neg hn]
    · rw [if_neg k5]
  rw [e]; exact h

namespace objectTwice
open Go.ChangeShapes Go.WideShapes Go.ChangeAt

/-- two boxes -/
structure B2 (w W : World) (P : Nat) (o d : Obj) : Prop where
  o : ∀ k, W.cell? ⟨w.heap.size, k, none⟩ = (cellsO o)[k]?
  d : ∀ k, W.cell? ⟨P, k, none⟩ = (cellsO d)[k]?
  lo : w.heap.size < W.heap.size
  ld : P < W.heap.size
  b : Below w.heap.size w W
theorem B2.next {w W W' : World} {P : Nat} {o d : Obj} (h : B2 w W P o d) (hb : Below W.heap.size W W') : B2 w W' P o d :=
  ⟨fun k => (hb.cell (p := ⟨w.heap.size, k, none⟩) h.lo).trans (h.o k), fun k => (hb.cell (p := ⟨P, k, none⟩) h.ld).trans (h.d k), Nat.lt_of_lt_of_le h.lo hb.size, Nat.lt_of_lt_of_le h.ld hb.size, h.b.trans (hb.mono h.b.size)⟩

set_option maxRecDepth 100000 in
set_option maxHeartbeats 8000000 in
theorem walkT (o : Obj) (w : World) (hf : o.Fits) (hsz : o.volume.size + o.node.size + 1 ≤ 1048576) (hr : rightB o = true) : Calls Try.prog 8 #[.agg (cellsO o)] w fun e w' => e = .returned (.bool true) ∧ Below w.heap.size w w' := by
  have HF := Lib.hid hf
  have hfd : (defO o).Fits := by
    refine ⟨?_, by rw [(def_parts o).2.2]; exact hf.texts⟩
    have hn := hf.name
    unfold defO
    split
    · exact hn
    · split
      · exact hn
      · split
        · exact hn
        · split
          · simp only
            split
            · rw [attach_size]; unfold maxLen; omega
            · exact hn
          · exact hn
  have HFD := Lib.hid hfd
  have HSZ := Lib.hid (fun (_ : o.kind = 5) (_ : o.name.toList = []) => (show o.volume.size + o.node.size + 1 ≤ 140737488355328 by omega))
  have HSZD := Lib.hid (fun (_ : (defO o).kind = 5) (_ : (defO o).name.toList = []) => (show (defO o).volume.size + (defO o).node.size + 1 ≤ 140737488355328 by rw [(def_parts o).1, (def_parts o).2.1]; omega))
  have HDD := Lib.hid (def_def o)
  have HKD := Lib.hid (def_kind o)
  have HR := Lib.hid hr
  have HRD := Lib.hid (right_def hr)
  clear hr
  clear hf hfd hsz
  have hS0 : ∀ k, (w.alloc (.cells (cellsO o) 27)).cell? ⟨w.heap.size, k, none⟩ = (cellsO o)[k]? := cells_all heap_alloc_eq
  have HB0 := Lib.hid ((Below.refl w.heap.size w).alloc (Nat.le_refl _) (.cells (cellsO o) 27))
  have HDA := Lib.hid (fun w' => default_any o w' HSZ.out)
  have HDB := Lib.hid (fun w' => default_any (defO o) w' HSZD.out)
  rw [HDD.out] at HDB
  generalize hd : defO o = d at *
  clear hd
  go_enter Try.func8, Try.ntmps8
  go_wp2_with (refine wpList_loadObj rfl _ rfl _ rfl o hS0 ?_)
  refine (HDA.out _).mono ?_
  rintro e w1 ⟨rfl, hb1⟩
  have hlt : w.heap.size < (w.alloc (.cells (cellsO o) 27)).heap.size := by simp
  have hS1 : ∀ k, w1.cell? ⟨w.heap.size, k, none⟩ = (cellsO o)[k]? := fun k => (hb1.cell (p := ⟨w.heap.size, k, none⟩) hlt).trans (hS0 k)
  have HB1 := Lib.hid (HB0.out.trans (hb1.mono HB0.out.size))
  have hlt1 : w.heap.size < w1.heap.size := Nat.lt_of_lt_of_le hlt hb1.size
  go_upto_region 2 with (refine wpList_storeObj rfl _ _ rfl w1.heap.size rfl d rfl _ heap_alloc_eq rfl ?_)
  rw [Wset_alloc]
  have hcur : B2 w (w1.alloc (.cells (cellsO d) 27)) w1.heap.size o d :=
    ⟨fun k => (World.cell?_of_block (w := w1) (a := ⟨w.heap.size, k, none⟩) (heap_alloc_lt hlt1)).trans (hS1 k), cells_all heap_alloc_eq, by simp; omega, by simp, HB1.out.alloc HB1.out.size _⟩
  generalize hP : w1.heap.size = P at *
  generalize hW : w1.alloc (.cells (cellsO d) 27) = W2 at *
  clear hP hW hS0 hS1 hb1 hlt hlt1
  have hk0 : (cellsO o)[0]? = some (.int .u8 o.kind) := rfl
  have hcur := hcur.next (Below.refl _ _).drew
  refine wp_region_tree (fun w' => (∀ k, w'.cell? ⟨w.heap.size, k, none⟩ = (cellsO o)[k]?) ∧ (∀ k, w'.cell? ⟨P, k, none⟩ = (cellsO d)[k]?) ∧ (w'.cell? ⟨w.heap.size, 0, none⟩ = some (.int .u8 o.kind))) (.a 0 (.t 1 (.t 2 (.t 4 (.a 3 (.t 5 (.t 6 (.t 7 (.t 8 (.a 9 (.t 10 (.t 11 (.t 12 (.a 13 (.t 14 (.t 15 (.t 16 (.t 17 (.t 20 (.t 21 (.a 18 (.t 19 (.t 22 (.t 23 (.t 24 .nil))))))))))))))))))))))))) (by kernel_rfl) (by kernel_rfl) (by kernel_rfl) ?_ ?_
  · exact ⟨by first | exact hcur.o | exact hcur.d | exact (hcur.o 0).trans hk0, by first | exact hcur.o | exact hcur.d | exact (hcur.o 0).trans hk0, by first | exact hcur.o | exact hcur.d | exact (hcur.o 0).trans hk0⟩
  (generalize W2.drew = wn at *)
  refine wpT_alone rfl ?_
  focus (go_wp2_with fail; refine (live_any _).mono ?_; rintro e w2 ⟨rfl, hb2⟩; have hcur := hcur.next hb2; clear hb2; go_wp2)
  refine QS_normal ⟨by first | exact hcur.o | exact hcur.d | exact (hcur.o 0).trans hk0, by first | exact hcur.o | exact hcur.d | exact (hcur.o 0).trans hk0, by first | exact hcur.o | exact hcur.d | exact (hcur.o 0).trans hk0⟩ (fun _ => ?_)
  apply wpT_takeK rfl _ (by first | rfl | (simp [Region.wanted, yielded]; done))
  · intro w' hS
    obtain ⟨s0, s1, s2⟩ := hS
    skip
    go_simp
    try rfl
  intro K hK
  go_simp
  refine hK _ ?_
  clear hK K
  refine wpT_takeK rfl (.agg (cellsO d)) (by first | rfl | (simp [Region.wanted, yielded]; done)) ?_ ?_
  · intro w' hS
    obtain ⟨s0, s1, s2⟩ := hS
    exact exec_loadObj d rfl rfl s1
  intro K hK
  go_simp
  refine hK _ ?_
  clear hK K
  refine wpT_takeK rfl (.agg (cellsO d)) (by first | rfl | (simp [Region.wanted, yielded]; done)) ?_ ?_
  · intro w' hS
    obtain ⟨s0, s1, s2⟩ := hS
    exact exec_loadObj d rfl rfl s1
  intro K hK
  go_simp
  refine hK _ ?_
  clear hK K
  refine wpT_alone rfl ?_
  focus (go_wp2_with fail; refine (HDB.out _).mono ?_; rintro e w3 ⟨rfl, hb3⟩; have hcur := hcur.next hb3; clear hb3; go_wp2)
  refine QS_normal ⟨by first | exact hcur.o | exact hcur.d | exact (hcur.o 0).trans hk0, by first | exact hcur.o | exact hcur.d | exact (hcur.o 0).trans hk0, by first | exact hcur.o | exact hcur.d | exact (hcur.o 0).trans hk0⟩ (fun _ => ?_)
  refine wpT_takeK rfl (.bool (decide (d = d))) (by first | rfl | (simp [Region.wanted, yielded]; done)) ?_ ?_
  · intro w' hS
    obtain ⟨s0, s1, s2⟩ := hS
    exact exec_eqlObj d d rfl rfl rfl
  intro K hK
  go_simp
  refine hK _ ?_
  clear hK K
  apply wpT_takeK rfl _ (by first | rfl | (simp [Region.wanted, yielded]; done))
  · intro w' hS
    obtain ⟨s0, s1, s2⟩ := hS
    skip
    go_simp
    try rfl
  intro K hK
  go_simp
  refine hK _ ?_
  clear hK K
  apply wpT_takeK rfl _ (by first | rfl | (simp [Region.wanted, yielded]; done))
  · intro w' hS
    obtain ⟨s0, s1, s2⟩ := hS
    skip
    go_simp
    try rfl
  intro K hK
  go_simp
  refine hK _ ?_
  clear hK K
  refine wpT_takeK rfl (.agg (cellsO o)) (by first | rfl | (simp [Region.wanted, yielded]; done)) ?_ ?_
  · intro w' hS
    obtain ⟨s0, s1, s2⟩ := hS
    exact exec_loadObj o rfl rfl s0
  intro K hK
  go_simp
  refine hK _ ?_
  clear hK K
  refine wpT_alone rfl ?_
  focus (go_wp2_with fail; refine (right_any o _ HF.out).mono ?_; rintro e w4 ⟨rfl, hb4⟩; have hcur := hcur.next hb4; clear hb4; rw [HR.out]; go_wp2)
  refine QS_normal ⟨by first | exact hcur.o | exact hcur.d | exact (hcur.o 0).trans hk0, by first | exact hcur.o | exact hcur.d | exact (hcur.o 0).trans hk0, by first | exact hcur.o | exact hcur.d | exact (hcur.o 0).trans hk0⟩ (fun _ => ?_)
  apply wpT_takeK rfl _ (by first | rfl | (simp [Region.wanted, yielded]; done))
  · intro w' hS
    obtain ⟨s0, s1, s2⟩ := hS
    skip
    go_simp
    try rfl
  intro K hK
  go_simp
  refine hK _ ?_
  clear hK K
  apply wpT_takeK rfl _ (by first | rfl | (simp [Region.wanted, yielded]; done))
  · intro w' hS
    obtain ⟨s0, s1, s2⟩ := hS
    skip
    go_simp
    try rfl
  intro K hK
  go_simp
  refine hK _ ?_
  clear hK K
  refine wpT_takeK rfl (.agg (cellsO d)) (by first | rfl | (simp [Region.wanted, yielded]; done)) ?_ ?_
  · intro w' hS
    obtain ⟨s0, s1, s2⟩ := hS
    exact exec_loadObj d rfl rfl s1
  intro K hK
  go_simp
  refine hK _ ?_
  clear hK K
  refine wpT_alone rfl ?_
  focus (go_wp2_with fail; refine (right_any d _ HFD.out).mono ?_; rintro e w5 ⟨rfl, hb5⟩; have hcur := hcur.next hb5; clear hb5; rw [HRD.out]; go_wp2)
  refine QS_normal ⟨by first | exact hcur.o | exact hcur.d | exact (hcur.o 0).trans hk0, by first | exact hcur.o | exact hcur.d | exact (hcur.o 0).trans hk0, by first | exact hcur.o | exact hcur.d | exact (hcur.o 0).trans hk0⟩ (fun _ => ?_)
  apply wpT_takeK rfl _ (by first | rfl | (simp [Region.wanted, yielded]; done))
  · intro w' hS
    obtain ⟨s0, s1, s2⟩ := hS
    skip
    go_simp
    try rfl
  intro K hK
  go_simp
  refine hK _ ?_
  clear hK K
  apply wpT_takeK rfl _ (by first | rfl | (simp [Region.wanted, yielded]; done))
  · intro w' hS
    obtain ⟨s0, s1, s2⟩ := hS
    skip
    go_simp
    try rfl
  intro K hK
  go_simp
  refine hK _ ?_
  clear hK K
  apply wpT_takeK rfl _ (by first | rfl | (simp [Region.wanted, yielded]; done))
  · intro w' hS
    obtain ⟨s0, s1, s2⟩ := hS
    skip
    go_simp
    try rfl
  intro K hK
  go_simp
  refine hK _ ?_
  clear hK K
  refine wpT_takeK rfl (.agg (cellsO d)) (by first | rfl | (simp [Region.wanted, yielded]; done)) ?_ ?_
  · intro w' hS
    obtain ⟨s0, s1, s2⟩ := hS
    exact exec_loadObj d rfl rfl s1
  intro K hK
  go_simp
  refine hK _ ?_
  clear hK K
  apply wpT_takeK rfl _ (by first | rfl | (simp [Region.wanted, yielded]; done))
  · intro w' hS
    obtain ⟨s0, s1, s2⟩ := hS
    skip
    go_simp
    try rfl
  intro K hK
  go_simp
  refine hK _ ?_
  clear hK K
  apply wpT_takeK rfl _ (by first | rfl | (simp [Region.wanted, yielded]; done))
  · intro w' hS
    obtain ⟨s0, s1, s2⟩ := hS
    skip
    go_simp
    try rfl
  intro K hK
  go_simp
  refine hK _ ?_
  clear hK K
  refine wpT_alone rfl ?_
  focus (go_wp2_with fail; refine (key_any d _).mono ?_; rintro e w6 ⟨rfl, hb6⟩; have hcur := hcur.next hb6; clear hb6; rw [HKD.out]; go_wp2)
  refine QS_normal ⟨by first | exact hcur.o | exact hcur.d | exact (hcur.o 0).trans hk0, by first | exact hcur.o | exact hcur.d | exact (hcur.o 0).trans hk0, by first | exact hcur.o | exact hcur.d | exact (hcur.o 0).trans hk0⟩ (fun _ => ?_)
  apply wpT_takeK rfl _ (by first | rfl | (simp [Region.wanted, yielded]; done))
  · intro w' hS
    obtain ⟨s0, s1, s2⟩ := hS
    skip
    go_simp
    try rfl
  intro K hK
  go_simp
  refine hK _ ?_
  clear hK K
  apply wpT_takeK rfl _ (by first | rfl | (simp [Region.wanted, yielded]; done))
  · intro w' hS
    obtain ⟨s0, s1, s2⟩ := hS
    skip
    go_simp
    try rfl
  intro K hK
  go_simp
  refine hK _ ?_
  clear hK K
  apply wpT_takeK rfl _ (by first | rfl | (simp [Region.wanted, yielded]; done))
  · intro w' hS
    obtain ⟨s0, s1, s2⟩ := hS
    skip
    go_simp
    try rfl
  intro K hK
  go_simp
  refine hK _ ?_
  clear hK K
  apply wpT_takeK rfl _ (by first | rfl | (simp [Region.wanted, yielded]; done))
  · intro w' hS
    obtain ⟨s0, s1, s2⟩ := hS
    skip
    go_simp
    try rfl
  intro K hK
  go_simp
  refine hK _ ?_
  clear hK K
  refine wpT_end ?_
  go_wp2
  go_ret
  exact ⟨ret_bool (by simp), hcur.b⟩

set_option maxRecDepth 100000 in
set_option maxHeartbeats 8000000 in
theorem walkF (o : Obj) (w : World) (hf : o.Fits) (hsz : o.volume.size + o.node.size + 1 ≤ 1048576) (hr : rightB o = false) : Calls Try.prog 8 #[.agg (cellsO o)] w fun e w' => e = .returned (.bool true) ∧ Below w.heap.size w w' := by
  have HF := Lib.hid hf
  have hfd : (defO o).Fits := by
    refine ⟨?_, by rw [(def_parts o).2.2]; exact hf.texts⟩
    have hn := hf.name
    unfold defO
    split
    · exact hn
    · split
      · exact hn
      · split
        · exact hn
        · split
          · simp only
            split
            · rw [attach_size]; unfold maxLen; omega
            · exact hn
          · exact hn
  have HFD := Lib.hid hfd
  have HSZ := Lib.hid (fun (_ : o.kind = 5) (_ : o.name.toList = []) => (show o.volume.size + o.node.size + 1 ≤ 140737488355328 by omega))
  have HSZD := Lib.hid (fun (_ : (defO o).kind = 5) (_ : (defO o).name.toList = []) => (show (defO o).volume.size + (defO o).node.size + 1 ≤ 140737488355328 by rw [(def_parts o).1, (def_parts o).2.1]; omega))
  have HDD := Lib.hid (def_def o)
  have HKD := Lib.hid (def_kind o)
  have HR := Lib.hid hr
  clear hr
  clear hf hfd hsz
  have hS0 : ∀ k, (w.alloc (.cells (cellsO o) 27)).cell? ⟨w.heap.size, k, none⟩ = (cellsO o)[k]? := cells_all heap_alloc_eq
  have HB0 := Lib.hid ((Below.refl w.heap.size w).alloc (Nat.le_refl _) (.cells (cellsO o) 27))
  have HDA := Lib.hid (fun w' => default_any o w' HSZ.out)
  have HDB := Lib.hid (fun w' => default_any (defO o) w' HSZD.out)
  rw [HDD.out] at HDB
  generalize hd : defO o = d at *
  clear hd
  go_enter Try.func8, Try.ntmps8
  go_wp2_with (refine wpList_loadObj rfl _ rfl _ rfl o hS0 ?_)
  refine (HDA.out _).mono ?_
  rintro e w1 ⟨rfl, hb1⟩
  have hlt : w.heap.size < (w.alloc (.cells (cellsO o) 27)).heap.size := by simp
  have hS1 : ∀ k, w1.cell? ⟨w.heap.size, k, none⟩ = (cellsO o)[k]? := fun k => (hb1.cell (p := ⟨w.heap.size, k, none⟩) hlt).trans (hS0 k)
  have HB1 := Lib.hid (HB0.out.trans (hb1.mono HB0.out.size))
  have hlt1 : w.heap.size < w1.heap.size := Nat.lt_of_lt_of_le hlt hb1.size
  go_upto_region 2 with (refine wpList_storeObj rfl _ _ rfl w1.heap.size rfl d rfl _ heap_alloc_eq rfl ?_)
  rw [Wset_alloc]
  have hcur : B2 w (w1.alloc (.cells (cellsO d) 27)) w1.heap.size o d :=
    ⟨fun k => (World.cell?_of_block (w := w1) (a := ⟨w.heap.size, k, none⟩) (heap_alloc_lt hlt1)).trans (hS1 k), cells_all heap_alloc_eq, by simp; omega, by simp, HB1.out.alloc HB1.out.size _⟩
  generalize hP : w1.heap.size = P at *
  generalize hW : w1.alloc (.cells (cellsO d) 27) = W2 at *
  clear hP hW hS0 hS1 hb1 hlt hlt1
  have hk0 : (cellsO o)[0]? = some (.int .u8 o.kind) := rfl
  have hcur := hcur.next (Below.refl _ _).drew
  refine wp_region_tree (fun w' => (∀ k, w'.cell? ⟨w.heap.size, k, none⟩ = (cellsO o)[k]?) ∧ (∀ k, w'.cell? ⟨P, k, none⟩ = (cellsO d)[k]?) ∧ (w'.cell? ⟨w.heap.size, 0, none⟩ = some (.int .u8 o.kind))) (.a 0 (.t 1 (.t 2 (.t 4 (.a 3 (.t 5 (.t 6 (.t 7 (.t 8 (.a 9 (.t 10 (.t 11 (.t 12 (.t 13 (.t 14 (.t 15 (.t 16 (.t 17 (.t 20 (.t 21 (.a 18 (.t 19 (.t 22 (.t 23 (.t 24 .nil))))))))))))))))))))))))) (by kernel_rfl) (by kernel_rfl) (by kernel_rfl) ?_ ?_
  · exact ⟨by first | exact hcur.o | exact hcur.d | exact (hcur.o 0).trans hk0, by first | exact hcur.o | exact hcur.d | exact (hcur.o 0).trans hk0, by first | exact hcur.o | exact hcur.d | exact (hcur.o 0).trans hk0⟩
  (generalize W2.drew = wn at *)
  refine wpT_alone rfl ?_
  focus (go_wp2_with fail; refine (live_any _).mono ?_; rintro e w2 ⟨rfl, hb2⟩; have hcur := hcur.next hb2; clear hb2; go_wp2)
  refine QS_normal ⟨by first | exact hcur.o | exact hcur.d | exact (hcur.o 0).trans hk0, by first | exact hcur.o | exact hcur.d | exact (hcur.o 0).trans hk0, by first | exact hcur.o | exact hcur.d | exact (hcur.o 0).trans hk0⟩ (fun _ => ?_)
  apply wpT_takeK rfl _ (by first | rfl | (simp [Region.wanted, yielded]; done))
  · intro w' hS
    obtain ⟨s0, s1, s2⟩ := hS
    skip
    go_simp
    try rfl
  intro K hK
  go_simp
  refine hK _ ?_
  clear hK K
  refine wpT_takeK rfl (.agg (cellsO d)) (by first | rfl | (simp [Region.wanted, yielded]; done)) ?_ ?_
  · intro w' hS
    obtain ⟨s0, s1, s2⟩ := hS
    exact exec_loadObj d rfl rfl s1
  intro K hK
  go_simp
  refine hK _ ?_
  clear hK K
  refine wpT_takeK rfl (.agg (cellsO d)) (by first | rfl | (simp [Region.wanted, yielded]; done)) ?_ ?_
  · intro w' hS
    obtain ⟨s0, s1, s2⟩ := hS
    exact exec_loadObj d rfl rfl s1
  intro K hK
  go_simp
  refine hK _ ?_
  clear hK K
  refine wpT_alone rfl ?_
  focus (go_wp2_with fail; refine (HDB.out _).mono ?_; rintro e w3 ⟨rfl, hb3⟩; have hcur := hcur.next hb3; clear hb3; go_wp2)
  refine QS_normal ⟨by first | exact hcur.o | exact hcur.d | exact (hcur.o 0).trans hk0, by first | exact hcur.o | exact hcur.d | exact (hcur.o 0).trans hk0, by first | exact hcur.o | exact hcur.d | exact (hcur.o 0).trans hk0⟩ (fun _ => ?_)
  refine wpT_takeK rfl (.bool (decide (d = d))) (by first | rfl | (simp [Region.wanted, yielded]; done)) ?_ ?_
  · intro w' hS
    obtain ⟨s0, s1, s2⟩ := hS
    exact exec_eqlObj d d rfl rfl rfl
  intro K hK
  go_simp
  refine hK _ ?_
  clear hK K
  apply wpT_takeK rfl _ (by first | rfl | (simp [Region.wanted, yielded]; done))
  · intro w' hS
    obtain ⟨s0, s1, s2⟩ := hS
    skip
    go_simp
    try rfl
  intro K hK
  go_simp
  refine hK _ ?_
  clear hK K
  apply wpT_takeK rfl _ (by first | rfl | (simp [Region.wanted, yielded]; done))
  · intro w' hS
    obtain ⟨s0, s1, s2⟩ := hS
    skip
    go_simp
    try rfl
  intro K hK
  go_simp
  refine hK _ ?_
  clear hK K
  refine wpT_takeK rfl (.agg (cellsO o)) (by first | rfl | (simp [Region.wanted, yielded]; done)) ?_ ?_
  · intro w' hS
    obtain ⟨s0, s1, s2⟩ := hS
    exact exec_loadObj o rfl rfl s0
  intro K hK
  go_simp
  refine hK _ ?_
  clear hK K
  refine wpT_alone rfl ?_
  focus (go_wp2_with fail; refine (right_any o _ HF.out).mono ?_; rintro e w4 ⟨rfl, hb4⟩; have hcur := hcur.next hb4; clear hb4; rw [HR.out]; go_wp2)
  refine QS_normal ⟨by first | exact hcur.o | exact hcur.d | exact (hcur.o 0).trans hk0, by first | exact hcur.o | exact hcur.d | exact (hcur.o 0).trans hk0, by first | exact hcur.o | exact hcur.d | exact (hcur.o 0).trans hk0⟩ (fun _ => ?_)
  apply wpT_takeK rfl _ (by first | rfl | (simp [Region.wanted, yielded]; done))
  · intro w' hS
    obtain ⟨s0, s1, s2⟩ := hS
    skip
    go_simp
    try rfl
  intro K hK
  go_simp
  refine hK _ ?_
  clear hK K
  apply wpT_takeK rfl _ (by first | rfl | (simp [Region.wanted, yielded]; done))
  · intro w' hS
    obtain ⟨s0, s1, s2⟩ := hS
    skip
    go_simp
    try rfl
  intro K hK
  go_simp
  refine hK _ ?_
  clear hK K
  refine wpT_skipT rfl (by first | rfl | (simp [Region.wanted, yielded]; done)) ?_
  intro K hK
  go_simp
  refine hK _ ?_
  clear hK K
  refine wpT_skipT rfl (by first | rfl | (simp [Region.wanted, yielded]; done)) ?_
  intro K hK
  go_simp
  refine hK _ ?_
  clear hK K
  apply wpT_takeK rfl _ (by first | rfl | (simp [Region.wanted, yielded]; done))
  · intro w' hS
    obtain ⟨s0, s1, s2⟩ := hS
    skip
    go_simp
    try rfl
  intro K hK
  go_simp
  refine hK _ ?_
  clear hK K
  apply wpT_takeK rfl _ (by first | rfl | (simp [Region.wanted, yielded]; done))
  · intro w' hS
    obtain ⟨s0, s1, s2⟩ := hS
    skip
    go_simp
    try rfl
  intro K hK
  go_simp
  refine hK _ ?_
  clear hK K
  apply wpT_takeK rfl _ (by first | rfl | (simp [Region.wanted, yielded]; done))
  · intro w' hS
    obtain ⟨s0, s1, s2⟩ := hS
    skip
    go_simp
    try rfl
  intro K hK
  go_simp
  refine hK _ ?_
  clear hK K
  refine wpT_takeK rfl (.agg (cellsO d)) (by first | rfl | (simp [Region.wanted, yielded]; done)) ?_ ?_
  · intro w' hS
    obtain ⟨s0, s1, s2⟩ := hS
    exact exec_loadObj d rfl rfl s1
  intro K hK
  go_simp
  refine hK _ ?_
  clear hK K
  apply wpT_takeK rfl _ (by first | rfl | (simp [Region.wanted, yielded]; done))
  · intro w' hS
    obtain ⟨s0, s1, s2⟩ := hS
    skip
    go_simp
    try rfl
  intro K hK
  go_simp
  refine hK _ ?_
  clear hK K
  apply wpT_takeK rfl _ (by first | rfl | (simp [Region.wanted, yielded]; done))
  · intro w' hS
    obtain ⟨s0, s1, s2⟩ := hS
    skip
    go_simp
    try rfl
  intro K hK
  go_simp
  refine hK _ ?_
  clear hK K
  refine wpT_alone rfl ?_
  focus (go_wp2_with fail; refine (key_any d _).mono ?_; rintro e w6 ⟨rfl, hb6⟩; have hcur := hcur.next hb6; clear hb6; rw [HKD.out]; go_wp2)
  refine QS_normal ⟨by first | exact hcur.o | exact hcur.d | exact (hcur.o 0).trans hk0, by first | exact hcur.o | exact hcur.d | exact (hcur.o 0).trans hk0, by first | exact hcur.o | exact hcur.d | exact (hcur.o 0).trans hk0⟩ (fun _ => ?_)
  apply wpT_takeK rfl _ (by first | rfl | (simp [Region.wanted, yielded]; done))
  · intro w' hS
    obtain ⟨s0, s1, s2⟩ := hS
    skip
    go_simp
    try rfl
  intro K hK
  go_simp
  refine hK _ ?_
  clear hK K
  apply wpT_takeK rfl _ (by first | rfl | (simp [Region.wanted, yielded]; done))
  · intro w' hS
    obtain ⟨s0, s1, s2⟩ := hS
    skip
    go_simp
    try rfl
  intro K hK
  go_simp
  refine hK _ ?_
  clear hK K
  apply wpT_takeK rfl _ (by first | rfl | (simp [Region.wanted, yielded]; done))
  · intro w' hS
    obtain ⟨s0, s1, s2⟩ := hS
    skip
    go_simp
    try rfl
  intro K hK
  go_simp
  refine hK _ ?_
  clear hK K
  apply wpT_takeK rfl _ (by first | rfl | (simp [Region.wanted, yielded]; done))
  · intro w' hS
    obtain ⟨s0, s1, s2⟩ := hS
    skip
    go_simp
    try rfl
  intro K hK
  go_simp
  refine hK _ ?_
  clear hK K
  refine wpT_end ?_
  go_wp2
  go_ret
  exact ⟨ret_bool (by simp), hcur.b⟩

theorem walk (o : Obj) (w : World) (hf : o.Fits) (hsz : o.volume.size + o.node.size + 1 ≤ 1048576) : Calls Try.prog 8 #[.agg (cellsO o)] w fun e w' => e = .returned (.bool true) ∧ Below w.heap.size w w' := by
  cases hr : rightB o with
  | true => exact walkT o w hf hsz hr
  | false => exact walkF o w hf hsz hr

--ROW
end objectTwice

end Go.Proofs.Ytmhnccbjnlmjpaa
